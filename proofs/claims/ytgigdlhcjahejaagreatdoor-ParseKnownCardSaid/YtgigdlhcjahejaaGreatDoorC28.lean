/- Of the proof of ParseKnown: NodeE, ParA. -/
import Derived.Test.YtgigdlhcjahejaaGreatDoorC27
namespace Go.Proofs.YtgigdlhcjahejaaGreatDoor
open Go Go.RowKit Go.Lw
set_option maxRecDepth 100000
set_option linter.unusedVariables false
set_option linter.unusedSimpArgs false
attribute [local go_sem] aq
def lX (n:Nd):List UInt8:=if fC n then aS n else[]
structure SmN (n:Nd):Prop where
 len:(aC n).length≤1000000000
 sz:szN n≤100000000
 ok:∀m∈aC n,OkM m
 tx:(∀m∈aC n,aV m=true)→(aC n).length≤512→(aS n).length≤100000000
theorem zZ {n:Nd} (h:SmN n) (hm:fC n=true):TxN n:=by
 unfold fC at hm
 rw[Bool.and_eq_true,Bool.and_eq_true,Bool.and_eq_true,decide_eq_true_eq,decide_eq_true_eq,decide_eq_true_eq,List.all_eq_true] at hm
 exact⟨hm.1.1.1,h.ok,by omega⟩
set_option maxHeartbeats 16000000 in
theorem lI (w:World) (F:Nat→Prop) (v:Value) (nd:Nd) (h:NAt w F v nd) (hF:∀b,F b→b<w.heap.size) (hs:SmN nd) (hE:bu w) (hS:jQ w):
  Calls Tryz.prog 10 #[v] w fun x w'=>x= .returned (.string (BA (lX nd)))∧Kept (fun _=>False) w w':=by
 have HN0:=jd h
 obtain⟨xa,xan,xac,xw,xwn,xwc,xr,xrn,xrc,xk,xkn,xkc,rfl,h1,h2,h3,h4⟩:=h.opens
 obtain⟨ND,hND⟩:∃ND,nd=ND:=⟨_,rfl⟩
 have HSM:=jd hs;have HE:=jd hE;have HSE:=jd hS;have HF:=jd hF
 have hnv:nv nd (.slice xa xan xac) (.slice xw xwn xwc) (.slice xr xrn xrc) (.slice xk xkn xkc)= .agg #[.int .i64 nd.kind,.bool nd.neg,.string (BA nd.name),.slice xa xan xac,.slice xw xwn xwc,.slice xr xrn xrc,.slice xk xkn xkc]:=rfl
 rw[hnv] at HN0
 clear hnv h h1 h2 h3 h4 hs hE hS hF
 obtain⟨kk,nb,nm,al,ws,rs,ks⟩:=nd
 show Calls Tryz.prog 10 #[.agg #[.int .i64 kk,.bool nb,.string (BA nm),.slice xa xan xac,.slice xw xwn xwc,.slice xr xrn xrc,.slice xk xkn xkc]] w _
 simp only[Nd.kind,Nd.neg,Nd.name] at HN0
 rw[hND] at HN0 HSM⊢
 have KA:Hid (Kept (fun _=>False) w (w.alloc (.cells #[.int .i64 kk,.bool nb,.string (BA nm),.slice xa xan xac,.slice xw xwn xwc,.slice xr xrn xrc,.slice xk xkn xkc] 27))):=jd ((Kept.refl _ w).alloc _)
 have PA:Hid (NBx (w.alloc (.cells #[.int .i64 kk,.bool nb,.string (BA nm),.slice xa xan xac,.slice xw xwn xwc,.slice xr xrn xrc,.slice xk xkn xkc] 27)) w.heap.size #[.int .i64 kk,.bool nb,.string (BA nm),.slice xa xan xac,.slice xw xwn xwc,.slice xr xrn xrc,.slice xk xkn xkc]):=jd (heap_alloc w _)
 have hgl:¬False:=fun h=>h
 have HM:=jd (kh _ F _ ND (HN0.o.kept KA.o (fun _ _ h=>h)) (fun b hb=>by have:=HF.o b hb;have:=KA.o.size;omega) HSM.o.len HSM.o.sz (HE.o.af KA.o) (HSE.o.kept KA.o (fun h=>h)) HSM.o.ok HSM.o.tx)
 obtain⟨mb,hmb⟩:∃mb,fC ND=mb:=⟨_,rfl⟩
 have HMB:=jd hmb
 rw[hmb] at HM
 clear hND hmb hgl
 go_enter Tryz.func10,Tryz.ntmps10
 go_wp2_with fail
 refine HM.o.mono ?_
 rintro x w1 ⟨rfl,k1⟩
 have K1:=jd (KA.o.trans k1 (fun _ _ h=>h))
 have P1:=k1.heap PA.o (fun h=>h)
 obtain⟨⟨c0,c1,c2,c3,c4,c5,c6⟩,-⟩:=NBx.cells P1
 clear k1 P1
 cases mb with
 |true=>
  have HTT:=jd (oR w1 F _ ND (HN0.o.kept K1.o (fun _ _ h=>h)) (HE.o.af K1.o) (zZ HSM.o HMB.o))
  have HTL:Hid (lX ND=aS ND):=jd (by unfold lX;rw[HMB.o];rfl)
  go_wp2_with fail
  refine HTT.o.mono ?_
  rintro x w2 ⟨rfl,k2⟩
  have K2:=jd (K1.o.trans k2 (fun _ _ h=>h))
  clear k2
  go_wp2_with fail
  go_ret
  exact⟨by rw[HTL.o];rfl,K2.o⟩
 |false=>
  have HTL:Hid (lX ND=[]):=jd (by unfold lX;rw[HMB.o];rfl)
  go_wp2_with fail
  go_ret
  exact⟨by rw[HTL.o];rfl,K1.o⟩
structure TT where
 ad:Option Addr
 c:Nat
 L:List Tk
abbrev TT.v (T:TT):Value:= .slice T.ad T.L.length T.c
structure RA (T:TT) (w:World) (g at_ d e:Nat):Prop where
 box:w.heap[g]? =some (.cells #[.slice T.ad T.L.length T.c,.int .i64 (at_:Int),.int .i64 (d:Int),.int .i64 (e:Int)] 70 (0,0))
 tok:Rd w 3 T.v T.L.length (T.L.flatMap Tk.cells)
 ne:∀b,blk T.v b→b≠g
 le:at_≤T.L.length
 short:T.L.length≤2048
 dp:d≤1000
 toks:∀t∈T.L,t.kind≤11∧t.text.length≤2048
theorem RA.kept {T:TT} {S:Nat→Prop} {w w':World} {g at_ d e:Nat} (h:RA T w g at_ d e) (k:Kept S w w') (hg:¬S g) (hv:∀b,blk T.v b→¬S b):RA T w' g at_ d e:=
 ⟨k.heap h.box hg,h.tok.kept k hv,h.ne,h.le,h.short,h.dp,h.toks⟩
theorem RA.af {T:TT} {w w':World} {g at_ d e:Nat} (h:RA T w g at_ d e) (k:Kept (fun _=>False) w w'):RA T w' g at_ d e:=h.kept k (fun h=>h) (fun _ _ h=>h)
theorem RA.cells {T:TT} {w:World} {g at_ d e:Nat} (h:RA T w g at_ d e):
  (w.cell? ⟨g,0,none⟩=some (.slice T.ad T.L.length T.c)∧w.cell? ⟨g,1,none⟩=some (.int .i64 (at_:Int))∧w.cell? ⟨g,2,none⟩=some (.int .i64 (d:Int))∧w.cell? ⟨g,3,none⟩=some (.int .i64 (e:Int)))∧
  (w.frozen? ⟨g,1,none⟩=false∧w.frozen? ⟨g,2,none⟩=false∧w.frozen? ⟨g,3,none⟩=false):=
 ⟨⟨au h.box 0,au h.box 1,au h.box 2,au h.box 3⟩,aI h.box 1,aI h.box 2,aI h.box 3⟩
theorem RA.lt {T:TT} {w:World} {g at_ d e:Nat} (h:RA T w g at_ d e):g<w.heap.size:=ah h.box
theorem gA {w:World} {T:TT} (h:Rd w 3 T.v T.L.length (T.L.flatMap Tk.cells)) {k:Nat} {t:Tk} (hk:T.L[k]? =some t):
  ∃b off,T.ad=some ⟨b,off,none⟩∧w.cell? ⟨b,off+k*3,none⟩=some (.int .i64 (t.kind:Int))∧w.cell? ⟨b,off+k*3+1,none⟩=some (.string (BA t.text))∧b<w.heap.size:=by
 have key:=fun j hj=>jM Tk.cells 3 T.L (fun _ _=>rfl) k t j hk hj
 obtain⟨_,a,cap,e,_,_,hc⟩:=h
 obtain⟨b,off,e2,h0⟩:=hc (k*3+0) _ (key 0 (by decide))
 obtain⟨b',off',e3,h1⟩:=hc (k*3+1) _ (key 1 (by decide))
 cases e
 rw[e2] at e3
 cases e3
 exact⟨b,off,e2,h0,by rw[Nat.add_assoc];exact h1,World.block_lt_of_cell? w _ h0⟩
theorem RA.setAt {T:TT} {w:World} {g at_ d e:Nat} (h:RA T w g at_ d e) {a:Nat} (ha:a≤T.L.length):RA T (w.setCell ⟨g,1,none⟩ (.int .i64 (a:Int))) g a d e:=
 have k:Kept (fun b=>b=g) w (w.setCell ⟨g,1,none⟩ (.int .i64 (a:Int))):=(Kept.refl (fun b=>b=g) w).set g 1 (fun _=>rfl) _
 ⟨heap_set h.box 1 _,h.tok.kept k (fun b hb e=>h.ne b hb e),h.ne,ha,h.short,h.dp,h.toks⟩
theorem RA.Bm {T:TT} {w:World} {g at_ d e:Nat} (h:RA T w g at_ d e) {a:Nat} (ha:a≤1000):RA T (w.setCell ⟨g,2,none⟩ (.int .i64 (a:Int))) g at_ a e:=
 have k:Kept (fun b=>b=g) w (w.setCell ⟨g,2,none⟩ (.int .i64 (a:Int))):=(Kept.refl (fun b=>b=g) w).set g 2 (fun _=>rfl) _
 ⟨heap_set h.box 2 _,h.tok.kept k (fun b hb e=>h.ne b hb e),h.ne,h.le,h.short,ha,h.toks⟩
theorem RA.BF {T:TT} {w:World} {g at_ d e:Nat} (h:RA T w g at_ d e) (a:Nat):RA T (w.setCell ⟨g,3,none⟩ (.int .i64 (a:Int))) g at_ d a:=
 have k:Kept (fun b=>b=g) w (w.setCell ⟨g,3,none⟩ (.int .i64 (a:Int))):=(Kept.refl (fun b=>b=g) w).set g 3 (fun _=>rfl) _
 ⟨heap_set h.box 3 _,h.tok.kept k (fun b hb e=>h.ne b hb e),h.ne,h.le,h.short,h.dp,h.toks⟩
def RP (T:TT) (w:World) (g d:Nat) (p:Ps):Prop:=∃at_,T.L.drop at_=p.r∧RA T w g at_ d p.e
theorem RP.af {T:TT} {w w':World} {g d:Nat} {p:Ps} (h:RP T w g d p) (k:Kept (fun _=>False) w w'):RP T w' g d p:=by
 obtain⟨a,h1,h2⟩:=h
 exact⟨a,h1,h2.af k⟩
theorem RP.lt {T:TT} {w:World} {g d:Nat} {p:Ps} (h:RP T w g d p):g<w.heap.size:=by
 obtain⟨a,h1,h2⟩:=h
 exact h2.lt
theorem RP.len {T:TT} {w:World} {g d:Nat} {p:Ps} (h:RP T w g d p):p.r.length≤2048:=by
 obtain⟨a,h1,h2⟩:=h
 have:=h2.short
 rw[←h1,List.length_drop];omega
theorem vH {L:List Tk} {a:Nat} (h:L.drop a=[]):L.length≤a:=by
 have:=congrArg List.length h
 rw[List.length_drop] at this
 simp at this;omega
theorem cx {L:List Tk} {a:Nat} {t:Tk} {r:List Tk} (h:L.drop a=t::r):a<L.length∧L[a]? =some t∧L.drop (a+1)=r:=by
 have h1:a<L.length:=by
  have:=congrArg List.length h
  rw[List.length_drop] at this
  simp at this;omega
 rw[List.drop_eq_getElem_cons h1] at h
 cases h
 exact⟨h1,List.getElem?_eq_getElem h1,rfl⟩
set_option maxHeartbeats 8000000 in
theorem ct (T:TT) (w:World) (g d:Nat) (p:Ps) (h:RP T w g d p):
  Calls Tryz.prog 26 #[.pointer (some ⟨g,0,none⟩)] w fun x w'=>x= .returned (.int .i64 (aj p:Int))∧Kept (fun _=>False) w w':=by
 obtain⟨at_,hd,hr⟩:=h
 obtain⟨⟨c0,c1,c2,c3⟩,f1,f2,f3⟩:=hr.cells
 obtain⟨r,e⟩:=p
 have hle:=hr.le;have hs:=hr.short
 have HR:=jd hr
 obtain⟨N,hN⟩:∃N,T.L.length=N:=⟨_,rfl⟩
 rw[hN] at c0 hle hs
 have HN:=jd hN
 cases r with
 |nil=>
  have ha:N≤at_:=by rw[←hN];exact vH hd
  have d1:decide ((at_:Int)≥(N:Int))=true:=decide_eq_true (by omega)
  have d2:decide (N≤at_)=true:=decide_eq_true ha
  clear hd hr hN
  go_enter Tryz.func26,Tryz.ntmps26
  go_wp2_with (go_quiet (fail))
  go_ret
  exact⟨rfl,aJ _ _⟩
 |cons t r=>
  obtain⟨ha,ht,_⟩:=cx hd
  rw[hN] at ha
  have d1:decide ((at_:Int)≥(N:Int))=false:=decide_eq_false (by omega)
  have d2:decide (N≤at_)=false:=decide_eq_false (by omega)
  obtain⟨b,off,e1,t0,t1,tl⟩:=gA hr.tok ht
  rw[e1] at c0
  have hk:aj ⟨t::r,e⟩=t.kind:=rfl
  rw[hk]
  clear hd hr hN ht e1
  go_enter Tryz.func26,Tryz.ntmps26
  go_wp2_with (go_quiet (fail))
  go_ret
  exact⟨rfl,by first|exact aJ _ _|exact(aJ _ _).trans (aJ _ _) (fun _ _ h=>h)⟩
def sw (T:TT) (w:World) (g d:Nat) (v:Value) (p:Ps) (x:Ending) (w':World):Prop:=x= .returned v∧RP T w' g d p∧Kept (fun b=>b=g) w w'
theorem qQ (r:List Tk) (e e':Nat):bd ⟨r,e⟩ e'=⟨[],if e=0 then e' else e⟩:=rfl
set_option maxHeartbeats 8000000 in
theorem cV (T:TT) (w:World) (g d:Nat) (p:Ps) (h:RP T w g d p) (e':Nat):
  Calls Tryz.prog 28 #[.pointer (some ⟨g,0,none⟩),.int .i64 (e':Int)] w (sw T w g d (.tuple #[]) (bd p e')):=by
 obtain⟨at_,hd,hr⟩:=h
 obtain⟨⟨c0,c1,c2,c3⟩,f1,f2,f3⟩:=hr.cells
 obtain⟨r,e⟩:=p
 have hs:=hr.short
 have hlt:=hr.lt
 have HR:=jd hr
 obtain⟨N,hN⟩:∃N,T.L.length=N:=⟨_,rfl⟩
 rw[hN] at c0 hs
 have HN:=jd hN
 have HDN:Hid (T.L.drop N=[]):=jd (by rw[←hN];exact List.drop_length)
 clear hd hr hN
 by_cases h0:e=0
 ·have d1:((e:Int)==0)=true:=by rw[h0];rfl
  have HF:Hid (bd ⟨r,e⟩ e'=⟨[],e'⟩):=jd (by rw[qQ,if_pos h0])
  have R1:=HR.o.BF e'
  obtain⟨⟨g0,g1,g2,g3⟩,k1,k2,k3⟩:=R1.cells
  rw[HN.o] at g0
  have HR1:=jd R1
  have KK:Hid (Kept (fun b=>b=g) w ((w.setCell ⟨g,3,none⟩ (.int .i64 (e':Int))).setCell ⟨g,1,none⟩ (.int .i64 (N:Int)))):=jd (((Kept.refl (fun b=>b=g) w).set g 3 (fun _=>rfl) _).set g 1 (fun _=>rfl) _)
  clear h0 R1
  go_enter Tryz.func28,Tryz.ntmps28
  go_wp2_with fail
  go_end0
  exact⟨rfl,by rw[HF.o];exact⟨N,HDN.o,HR1.o.setAt (by rw[HN.o];exact Nat.le_refl _)⟩,KK.o⟩
 ·have d1:((e:Int)==0)=false:=by apply beq_eq_false_iff_ne.2;omega
  have HF:Hid (bd ⟨r,e⟩ e'=⟨[],e⟩):=jd (by rw[qQ,if_neg h0])
  have KK:Hid (Kept (fun b=>b=g) w (w.setCell ⟨g,1,none⟩ (.int .i64 (N:Int)))):=jd ((Kept.refl (fun b=>b=g) w).set g 1 (fun _=>rfl) _)
  clear h0
  go_enter Tryz.func28,Tryz.ntmps28
  go_wp2_with fail
  go_end0
  exact⟨rfl,by rw[HF.o];exact⟨N,HDN.o,HR.o.setAt (by rw[HN.o];exact Nat.le_refl _)⟩,KK.o⟩
set_option maxHeartbeats 8000000 in
theorem ed (T:TT) (w:World) (g d:Nat) (p:Ps) (h:RP T w g d p) (k:Nat) (hk0:k≠0):
  Calls Tryz.prog 55 #[.pointer (some ⟨g,0,none⟩),.int .i64 (k:Int)] w (sw T w g d (.bool (decide (aj p=k))) (if aj p=k then az p else p)):=by
 have HK:=jd (ct T w g d p h)
 have HH:=jd h
 clear h
 by_cases hk:aj p=k
 ·have d1:((aj p:Int) !=(k:Int))=false:=by rw[hk];simp
  have d2:decide (aj p=k)=true:=decide_eq_true hk
  have d3:(aj p !=k)=false:=by rw[hk];simp
  have HI:Hid ((if aj p=k then az p else p)=az p):=jd (if_pos hk)
  have hne:p.r≠[]:=fun e=>by
   have:aj p=0:=by unfold aj;rw[e]
   omega
  have HNE:=jd hne
  obtain⟨kp,hkp⟩:∃kp,aj p=kp:=⟨_,rfl⟩
  rw[HI.o,d2]
  rw[hkp] at HK d1 d3
  clear hk d2 hkp hne HI
  go_enter Tryz.func55,Tryz.ntmps55
  go_wp2_with fail
  refine HK.o.mono ?_
  rintro x w1 ⟨rfl,k1⟩
  obtain⟨at_,hd,hr⟩:=HH.o.af k1
  obtain⟨r,e⟩:=p
  cases r with
  |nil=>exact absurd rfl HNE.o
  |cons t r=>
   obtain⟨ha,ht,hd2⟩:=cx hd
   obtain⟨⟨c0,c1,c2,c3⟩,f1,f2,f3⟩:=hr.cells
   have hs:=hr.short
   have hlt:=hr.lt
   have HRR:=jd hr;have HA:=jd ha;have HD2:=jd hd2;have K1:=jd k1
   have q1:at_≤2048:=by omega
   have KK:Hid (Kept (fun b=>b=g) w1 (w1.setCell ⟨g,1,none⟩ (.int .i64 ((at_+1:Nat):Int)))):=jd ((Kept.refl (fun b=>b=g) w1).set g 1 (fun _=>rfl) _)
   clear hd hr ht ha hd2 hs k1
   go_wp2_with fail
   go_ret
   exact⟨rfl,⟨at_+1,HD2.o,HRR.o.setAt HA.o⟩,K1.o.mono (fun _ _ h=>h.elim)|>.trans KK.o (fun _ _ h=>h)⟩
 ·have d1:((aj p:Int) !=(k:Int))=true:=by simp[bne];omega
  have d2:decide (aj p=k)=false:=decide_eq_false hk
  have d3:(aj p !=k)=true:=by simp[bne];exact hk
  have HI:Hid ((if aj p=k then az p else p)=p):=jd (if_neg hk)
  obtain⟨kp,hkp⟩:∃kp,aj p=kp:=⟨_,rfl⟩
  rw[HI.o,d2]
  rw[hkp] at HK d1 d3
  clear hk d2 hkp HI
  go_enter Tryz.func55,Tryz.ntmps55
  go_wp2_with fail
  refine HK.o.mono ?_
  rintro x w1 ⟨rfl,k1⟩
  have K1:=jd k1
  clear k1
  go_wp2_with fail
  go_ret
  exact⟨rfl,HH.o.af K1.o,K1.o.mono (fun _ _ h=>h.elim)⟩
end Go.Proofs.YtgigdlhcjahejaaGreatDoor
