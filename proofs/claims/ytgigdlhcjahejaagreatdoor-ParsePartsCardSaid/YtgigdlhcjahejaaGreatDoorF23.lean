import Derived.Test.YtgigdlhcjahejaaGreatDoorF22
set_option linter.all false
set_option maxHeartbeats 400000000
namespace Go.Proofs.YtgigdlhcjahejaaGreatDoor
open Go Go.RowKit Go.Lw
set_option maxRecDepth 100000
attribute [local go_sem] aA
structure TT where
 ad:Option Addr
 c:Nat
 L:List Tk
abbrev TT.v (T:TT):Value:= .slice T.ad T.L.length T.c
structure RA (T:TT) (w:World) (g at_ d e:Nat):Prop where
 box:w.heap[g]? =some (.cells #[.slice T.ad T.L.length T.c,.int .i64 (at_:Int),.int .i64 (d:Int),.int .i64 (e:Int)] 70 (0,0))
 tok:Rd w 3 T.v T.L.length (T.L.flatMap Tk.cells)
 ne:∀b,blk T.v b→b≠g
 le:at_≤T.L.length
 short:T.L.length≤2048
 dp:d≤1000
 toks:∀t∈T.L,t.kind≤11∧t.text.length≤2048
theorem RA.kept {T:TT} {S:Nat→Prop} {w w':World} {g at_ d e:Nat} (h:RA T w g at_ d e) (k:Kept S w w') (hg:¬S g) (hv:∀b,blk T.v b→¬S b):RA T w' g at_ d e:=
 ⟨k.heap h.box hg,h.tok.kept k hv,h.ne,h.le,h.short,h.dp,h.toks⟩
theorem RA.au {T:TT} {w w':World} {g at_ d e:Nat} (h:RA T w g at_ d e) (k:Kept (fun _=>False) w w'):RA T w' g at_ d e:=h.kept k (fun h=>h) (fun _ _ h=>h)
theorem RA.cells {T:TT} {w:World} {g at_ d e:Nat} (h:RA T w g at_ d e):
  (w.cell? ⟨g,0,none⟩=some (.slice T.ad T.L.length T.c)∧w.cell? ⟨g,1,none⟩=some (.int .i64 (at_:Int))∧w.cell? ⟨g,2,none⟩=some (.int .i64 (d:Int))∧w.cell? ⟨g,3,none⟩=some (.int .i64 (e:Int)))∧
  (w.frozen? ⟨g,1,none⟩=false∧w.frozen? ⟨g,2,none⟩=false∧w.frozen? ⟨g,3,none⟩=false):=
 ⟨⟨aB h.box 0,aB h.box 1,aB h.box 2,aB h.box 3⟩,a6 h.box 1,a6 h.box 2,a6 h.box 3⟩
theorem RA.lt {T:TT} {w:World} {g at_ d e:Nat} (h:RA T w g at_ d e):g<w.heap.size:=av h.box
theorem jl {w:World} {T:TT} (h:Rd w 3 T.v T.L.length (T.L.flatMap Tk.cells)) {k:Nat} {t:Tk} (hk:T.L[k]? =some t):
  ∃b off,T.ad=some ⟨b,off,none⟩∧w.cell? ⟨b,off+k*3,none⟩=some (.int .i64 (t.kind:Int))∧w.cell? ⟨b,off+k*3+1,none⟩=some (.string (BA t.text))∧b<w.heap.size:=by
 have key:=fun j hj=>mD Tk.cells 3 T.L (fun _ _=>rfl) k t j hk hj
 obtain⟨_,a,cap,e,_,_,hc⟩:=h
 obtain⟨b,off,e2,h0⟩:=hc (k*3+0) _ (key 0 (by decide))
 obtain⟨b',off',e3,h1⟩:=hc (k*3+1) _ (key 1 (by decide))
 cases e
 rw[e2] at e3
 cases e3
 exact⟨b,off,e2,h0,by rw[Nat.add_assoc];exact h1,World.block_lt_of_cell? w _ h0⟩
theorem RA.setAt {T:TT} {w:World} {g at_ d e:Nat} (h:RA T w g at_ d e) {a:Nat} (ha:a≤T.L.length):RA T (w.setCell ⟨g,1,none⟩ (.int .i64 (a:Int))) g a d e:=
 have k:Kept (fun b=>b=g) w (w.setCell ⟨g,1,none⟩ (.int .i64 (a:Int))):=(Ja (fun b=>b=g) w).set g 1 (fun _=>rfl) _
 ⟨heap_set h.box 1 _,h.tok.kept k (fun b hb e=>h.ne b hb e),h.ne,ha,h.short,h.dp,h.toks⟩
theorem RA.Gq {T:TT} {w:World} {g at_ d e:Nat} (h:RA T w g at_ d e) {a:Nat} (ha:a≤1000):RA T (w.setCell ⟨g,2,none⟩ (.int .i64 (a:Int))) g at_ a e:=
 have k:Kept (fun b=>b=g) w (w.setCell ⟨g,2,none⟩ (.int .i64 (a:Int))):=(Ja (fun b=>b=g) w).set g 2 (fun _=>rfl) _
 ⟨heap_set h.box 2 _,h.tok.kept k (fun b hb e=>h.ne b hb e),h.ne,h.le,h.short,ha,h.toks⟩
theorem RA.GS {T:TT} {w:World} {g at_ d e:Nat} (h:RA T w g at_ d e) (a:Nat):RA T (w.setCell ⟨g,3,none⟩ (.int .i64 (a:Int))) g at_ d a:=
 have k:Kept (fun b=>b=g) w (w.setCell ⟨g,3,none⟩ (.int .i64 (a:Int))):=(Ja (fun b=>b=g) w).set g 3 (fun _=>rfl) _
 ⟨heap_set h.box 3 _,h.tok.kept k (fun b hb e=>h.ne b hb e),h.ne,h.le,h.short,h.dp,h.toks⟩
def RP (T:TT) (w:World) (g d:Nat) (p:Ps):Prop:=∃at_,T.L.drop at_=p.r∧RA T w g at_ d p.e
theorem RP.au {T:TT} {w w':World} {g d:Nat} {p:Ps} (h:RP T w g d p) (k:Kept (fun _=>False) w w'):RP T w' g d p:=by
 obtain⟨a,h1,h2⟩:=h
 exact⟨a,h1,h2.au k⟩
theorem RP.lt {T:TT} {w:World} {g d:Nat} {p:Ps} (h:RP T w g d p):g<w.heap.size:=by
 obtain⟨a,h1,h2⟩:=h
 exact h2.lt
theorem RP.len {T:TT} {w:World} {g d:Nat} {p:Ps} (h:RP T w g d p):p.r.length≤2048:=by
 obtain⟨a,h1,h2⟩:=h
 have:=h2.short
 rw[←h1,Jo];omega
theorem AG {L:List Tk} {a:Nat} (h:L.drop a=[]):L.length≤a:=by
 have:=congrArg List.length h
 rw[Jo] at this
 simp at this;omega
theorem dc {L:List Tk} {a:Nat} {t:Tk} {r:List Tk} (h:L.drop a=t::r):a<L.length∧L[a]? =some t∧L.drop (a+1)=r:=by
 have h1:a<L.length:=by
  have:=congrArg List.length h
  rw[Jo] at this
  simp at this;omega
 rw[List.drop_eq_getElem_cons h1] at h
 cases h
 exact⟨h1,Je h1,rfl⟩
theorem cX (T:TT) (w:World) (g d:Nat) (p:Ps) (h:RP T w g d p):
  Calls Tryz.prog 26 #[.pointer (some ⟨g,0,none⟩)] w fun x w'=>x= .returned (.int .i64 (ag p:Int))∧Kept (fun _=>False) w w':=by
 obtain⟨at_,hd,hr⟩:=h
 obtain⟨⟨c0,c1,c2,c3⟩,f1,f2,f3⟩:=hr.cells
 obtain⟨r,e⟩:=p
 have hle:=hr.le;have hs:=hr.short
 have HR:=jd hr
 obtain⟨N,hN⟩:∃N,T.L.length=N:=⟨_,rfl⟩
 rw[hN] at c0 hle hs
 have HN:=jd hN
 cases r with
 |nil=>
  have ha:N≤at_:=by rw[←hN];exact AG hd
  have d1:decide ((at_:Int)≥(N:Int))=true:=Jc (by omega)
  have d2:decide (N≤at_)=true:=Jc ha
  clear hd hr hN
  go_enter Tryz.func26,Tryz.ntmps26
  go_wp2_with (go_quiet (fail))
  go_ret
  exact⟨rfl,bc _ _⟩
 |cons t r=>
  obtain⟨ha,ht,_⟩:=dc hd
  rw[hN] at ha
  have d1:decide ((at_:Int)≥(N:Int))=false:=Jd (by omega)
  have d2:decide (N≤at_)=false:=Jd (by omega)
  obtain⟨b,off,e1,t0,t1,tl⟩:=jl hr.tok ht
  rw[e1] at c0
  have hk:ag ⟨t::r,e⟩=t.kind:=rfl
  rw[hk]
  clear hd hr hN ht e1
  go_enter Tryz.func26,Tryz.ntmps26
  go_wp2_with (go_quiet (fail))
  go_ret
  exact⟨rfl,by first|exact bc _ _|exact(bc _ _).trans (bc _ _) (fun _ _ h=>h)⟩
def uW (T:TT) (w:World) (g d:Nat) (v:Value) (p:Ps) (x:Ending) (w':World):Prop:=x= .returned v∧RP T w' g d p∧Kept (fun b=>b=g) w w'
theorem wM (r:List Tk) (e e':Nat):bm ⟨r,e⟩ e'=⟨[],if e=0 then e' else e⟩:=rfl
theorem dV (T:TT) (w:World) (g d:Nat) (p:Ps) (h:RP T w g d p) (e':Nat):
  Calls Tryz.prog 28 #[.pointer (some ⟨g,0,none⟩),.int .i64 (e':Int)] w (uW T w g d (.tuple #[]) (bm p e')):=by
 obtain⟨at_,hd,hr⟩:=h
 obtain⟨⟨c0,c1,c2,c3⟩,f1,f2,f3⟩:=hr.cells
 obtain⟨r,e⟩:=p
 have hs:=hr.short
 have hlt:=hr.lt
 have HR:=jd hr
 obtain⟨N,hN⟩:∃N,T.L.length=N:=⟨_,rfl⟩
 rw[hN] at c0 hs
 have HN:=jd hN
 have HDN:Hid (T.L.drop N=[]):=jd (by rw[←hN];exact List.drop_length)
 clear hd hr hN
 by_cases h0:e=0
 ·have d1:((e:Int)==0)=true:=by rw[h0];rfl
  have HF:Hid (bm ⟨r,e⟩ e'=⟨[],e'⟩):=jd (by rw[wM,Jt h0])
  have R1:=HR.o.GS e'
  obtain⟨⟨g0,g1,g2,g3⟩,k1,k2,k3⟩:=R1.cells
  rw[HN.o] at g0
  have HR1:=jd R1
  have KK:Hid (Kept (fun b=>b=g) w ((w.setCell ⟨g,3,none⟩ (.int .i64 (e':Int))).setCell ⟨g,1,none⟩ (.int .i64 (N:Int)))):=jd (((Ja (fun b=>b=g) w).set g 3 (fun _=>rfl) _).set g 1 (fun _=>rfl) _)
  clear h0 R1
  go_enter Tryz.func28,Tryz.ntmps28
  go_wp2_with fail
  go_end0
  exact⟨rfl,by rw[HF.o];exact⟨N,HDN.o,HR1.o.setAt (by rw[HN.o];exact Jb _)⟩,KK.o⟩
 ·have d1:((e:Int)==0)=false:=by apply Jq.2;omega
  have HF:Hid (bm ⟨r,e⟩ e'=⟨[],e⟩):=jd (by rw[wM,Js h0])
  have KK:Hid (Kept (fun b=>b=g) w (w.setCell ⟨g,1,none⟩ (.int .i64 (N:Int)))):=jd ((Ja (fun b=>b=g) w).set g 1 (fun _=>rfl) _)
  clear h0
  go_enter Tryz.func28,Tryz.ntmps28
  go_wp2_with fail
  go_end0
  exact⟨rfl,by rw[HF.o];exact⟨N,HDN.o,HR.o.setAt (by rw[HN.o];exact Jb _)⟩,KK.o⟩
theorem fz (T:TT) (w:World) (g d:Nat) (p:Ps) (h:RP T w g d p) (k:Nat) (hk0:k≠0):
  Calls Tryz.prog 55 #[.pointer (some ⟨g,0,none⟩),.int .i64 (k:Int)] w (uW T w g d (.bool (decide (ag p=k))) (if ag p=k then aJ p else p)):=by
 have HK:=jd (cX T w g d p h)
 have HH:=jd h
 clear h
 by_cases hk:ag p=k
 ·have d1:((ag p:Int) !=(k:Int))=false:=by rw[hk];simp
  have d2:decide (ag p=k)=true:=Jc hk
  have d3:(ag p !=k)=false:=by rw[hk];simp
  have HI:Hid ((if ag p=k then aJ p else p)=aJ p):=jd (Jt hk)
  have hne:p.r≠[]:=fun e=>by
   have:ag p=0:=by unfold ag;rw[e]
   omega
  have HNE:=jd hne
  obtain⟨kp,hkp⟩:∃kp,ag p=kp:=⟨_,rfl⟩
  rw[HI.o,d2]
  rw[hkp] at HK d1 d3
  clear hk d2 hkp hne HI
  go_enter Tryz.func55,Tryz.ntmps55
  go_wp2_with fail
  refine HK.o.mono ?_
  rintro x w1 ⟨rfl,k1⟩
  obtain⟨at_,hd,hr⟩:=HH.o.au k1
  obtain⟨r,e⟩:=p
  cases r with
  |nil=>exact absurd rfl HNE.o
  |cons t r=>
   obtain⟨ha,ht,hd2⟩:=dc hd
   obtain⟨⟨c0,c1,c2,c3⟩,f1,f2,f3⟩:=hr.cells
   have hs:=hr.short
   have hlt:=hr.lt
   have HRR:=jd hr;have HA:=jd ha;have HD2:=jd hd2;have K1:=jd k1
   have q1:at_≤2048:=by omega
   have KK:Hid (Kept (fun b=>b=g) w1 (w1.setCell ⟨g,1,none⟩ (.int .i64 ((at_+1:Nat):Int)))):=jd ((Ja (fun b=>b=g) w1).set g 1 (fun _=>rfl) _)
   clear hd hr ht ha hd2 hs k1
   go_wp2_with fail
   go_ret
   exact⟨rfl,⟨at_+1,HD2.o,HRR.o.setAt HA.o⟩,K1.o.mono (fun _ _ h=>h.elim)|>.trans KK.o (fun _ _ h=>h)⟩
 ·have d1:((ag p:Int) !=(k:Int))=true:=by simp[bne];omega
  have d2:decide (ag p=k)=false:=Jd hk
  have d3:(ag p !=k)=true:=by simp[bne];exact hk
  have HI:Hid ((if ag p=k then aJ p else p)=p):=jd (Js hk)
  obtain⟨kp,hkp⟩:∃kp,ag p=kp:=⟨_,rfl⟩
  rw[HI.o,d2]
  rw[hkp] at HK d1 d3
  clear hk d2 hkp HI
  go_enter Tryz.func55,Tryz.ntmps55
  go_wp2_with fail
  refine HK.o.mono ?_
  rintro x w1 ⟨rfl,k1⟩
  have K1:=jd k1
  clear k1
  go_wp2_with fail
  go_ret
  exact⟨rfl,HH.o.au K1.o,K1.o.mono (fun _ _ h=>h.elim)⟩
theorem sH (T:TT) (w:World) (g d:Nat) (p:Ps) (h:RP T w g d p):
  Calls Tryz.prog 57 #[.pointer (some ⟨g,0,none⟩)] w (uW T w g d (.bool (aL p).1) (aL p).2):=by
 have H1:=jd (fz T w g d p h 3 (by decide))
 by_cases h3:ag p=3
 ·have e1:(aL p).1=true:=by unfold aL;rw[Jt (.inl h3)]
  have e2:(aL p).2=aJ p:=by unfold aL;rw[Jt (.inl h3)]
  rw[Jt h3,Jc h3] at H1
  rw[e1,e2]
  clear h3 e1 e2 h
  go_enter Tryz.func57,Tryz.ntmps57
  go_wp2_with fail
  refine H1.o.mono ?_
  rintro x w1 ⟨rfl,r1,k1⟩
  have R1:=jd r1;have K1:=jd k1
  clear r1 k1
  go_wp2_with fail
  go_ret
  exact⟨rfl,R1.o,K1.o⟩
 ·rw[Js h3,Jd h3] at H1
  have H2:=jd (fun w1 (h1:RP T w1 g d p)=>fz T w1 g d p h1 2 (by decide))
  by_cases h2:ag p=2
  ·have e1:(aL p).1=true:=by unfold aL;rw[Jt (.inr h2)]
   have e2:(aL p).2=aJ p:=by unfold aL;rw[Jt (.inr h2)]
   rw[Jt h2,Jc h2] at H2
   rw[e1,e2]
   clear h3 h2 e1 e2 h
   go_enter Tryz.func57,Tryz.ntmps57
   go_wp2_with fail
   refine H1.o.mono ?_
   rintro x w1 ⟨rfl,r1,k1⟩
   have R1:=jd r1;have K1:=jd k1
   clear r1 k1
   go_wp2_with fail
   refine(H2.o _ R1.o).mono ?_
   rintro x w2 ⟨rfl,r2,k2⟩
   have R2:=jd r2;have K2:=jd (K1.o.trans k2 (fun _ _ h=>h))
   clear r2 k2
   go_wp2_with fail
   go_ret
   exact⟨rfl,R2.o,K2.o⟩
  ·have e1:(aL p).1=false:=by unfold aL;rw[Js (fun e=>e.elim h3 h2)]
   have e2:(aL p).2=p:=by unfold aL;rw[Js (fun e=>e.elim h3 h2)]
   rw[Js h2,Jd h2] at H2
   rw[e1,e2]
   clear h3 h2 e1 e2 h
   go_enter Tryz.func57,Tryz.ntmps57
   go_wp2_with fail
   refine H1.o.mono ?_
   rintro x w1 ⟨rfl,r1,k1⟩
   have R1:=jd r1;have K1:=jd k1
   clear r1 k1
   go_wp2_with fail
   refine(H2.o _ R1.o).mono ?_
   rintro x w2 ⟨rfl,r2,k2⟩
   have R2:=jd r2;have K2:=jd (K1.o.trans k2 (fun _ _ h=>h))
   clear r2 k2
   go_wp2_with fail
   go_ret
   exact⟨rfl,R2.o,K2.o⟩
theorem CU {p:Ps} (h:ag p=2):aD (aJ p)=aD p:=by
 obtain⟨r,e⟩:=p
 cases r with
 |nil=>cases h
 |cons t r=>
  have h':t.kind=2:=h
  unfold aD aJ
  simp[h']
theorem CP {p:Ps} (h:ag p≠2):aD p=p:=by
 obtain⟨r,e⟩:=p
 cases r with
 |nil=>rfl
 |cons t r=>
  have h':t.kind≠2:=h
  unfold aD
  simp[h']
theorem gh {p:Ps} (h:ag p≠0):(aJ p).r.length+1=p.r.length:=by
 obtain⟨r,e⟩:=p
 cases r with
 |nil=>exact absurd rfl h
 |cons t r=>rfl
theorem vP (p:Ps):(aJ p).r.length≤p.r.length:=by
 obtain⟨r,e⟩:=p
 cases r with
 |nil=>exact Jb _
 |cons t r=>exact Nat.le_succ _
theorem pV (p:Ps):(aD p).r.length≤p.r.length:=by
 unfold aD
 exact(List.dropWhile_suffix _).length_le
theorem fD (T:TT) (w:World) (g d:Nat) (p:Ps) (h:RP T w g d p):
  Calls Tryz.prog 25 #[.pointer (some ⟨g,0,none⟩)] w (uW T w g d (.tuple #[]) (aD p)):=by
 have HH:=jd h
 obtain⟨N,hN⟩:∃N,p.r.length=N:=⟨_,rfl⟩
 have HN:=jd hN
 clear h hN
 go_enter Tryz.func25,Tryz.ntmps25
 go_wp2_with fail
 go_loopg [2] N (fun gk s2 wx=>∃q:Ps,gk=q.r.length∧RP T wx g d q∧aD q=aD p∧Kept (fun b=>b=g) w wx)
 case atStart=>exact⟨p,HN.o.symm,HH.o,rfl,Ja _ _⟩
 case round=>
  obtain⟨q,rfl,hq,hqr,hqk⟩:=hrel
  have HQ:=jd hq;have HQR:=jd hqr;have HQK:=jd hqk
  have H2:=jd (fz T wr g d q hq 2 (by decide))
  clear hq hqr hqk
  by_cases h2:ag q=2
  ·rw[Jt h2,Jc h2] at H2
   have HE:=jd (CU h2)
   have HL:=jd (gh (p:=q) (by omega))
   clear h2
   go_wp2_with fail
   refine H2.o.mono ?_
   rintro x w2 ⟨rfl,r2,k2⟩
   have R2:=jd r2;have K2:=jd (HQK.o.trans k2 (fun _ _ h=>h))
   clear r2 k2
   try (go_wp2_with fail)
   go_roundg ((aJ q).r.length)
   case measure=>have:=HL.o;omega
   case rel=>exact⟨aJ q,rfl,R2.o,by rw[HE.o,HQR.o],K2.o⟩
  ·rw[Js h2,Jd h2] at H2
   have HE:=jd (CP h2)
   clear h2
   go_wp2_with fail
   refine H2.o.mono ?_
   rintro x w2 ⟨rfl,r2,k2⟩
   have R2:=jd r2;have K2:=jd (HQK.o.trans k2 (fun _ _ h=>h))
   clear r2 k2
   go_wp2_with fail
   go_end0
   exact⟨rfl,by rw[←HQR.o,HE.o];exact R2.o,K2.o⟩
theorem Ce (w:World) (s:LB):Calls Tryz.prog 58 #[.string (BA s)] w fun x w'=>x= .returned (.bool (cQ s))∧w'=w:=by
 by_cases h0:s=[125]
 ·have HB:Hid (cQ s=true):=jd (by rw[h0];decide)
  have f0:(BA s==(⟨#[125]⟩:ByteArray))=true:=by rw[h0];exact(bU [125] [125]).trans (by decide)
  have e0:(s==[125])=true:=by rw[h0];decide
  clear h0
  go_enter Tryz.func58,Tryz.ntmps58
  go_wp2_with fail
  go_ret
  exact⟨by rw[HB.o];rfl,rfl⟩
 have f0:(BA s==(⟨#[125]⟩:ByteArray))=false:=(bU s [125]).trans (by simpa using h0)
 have e0:(s==[125])=false:=by simpa using h0
 by_cases h1:s=[116,104,101,110]
 ·have HB:Hid (cQ s=true):=jd (by rw[h1];decide)
  have f1:(BA s==(⟨#[116,104,101,110]⟩:ByteArray))=true:=by rw[h1];exact(bU [116,104,101,110] [116,104,101,110]).trans (by decide)
  have e1:(s==[116,104,101,110])=true:=by rw[h1];decide
  clear h1
  go_enter Tryz.func58,Tryz.ntmps58
  go_wp2_with fail
  go_ret
  exact⟨by rw[HB.o];rfl,rfl⟩
 have f1:(BA s==(⟨#[116,104,101,110]⟩:ByteArray))=false:=(bU s [116,104,101,110]).trans (by simpa using h1)
 have e1:(s==[116,104,101,110])=false:=by simpa using h1
 by_cases h2:s=[101,108,105,102]
 ·have HB:Hid (cQ s=true):=jd (by rw[h2];decide)
  have f2:(BA s==(⟨#[101,108,105,102]⟩:ByteArray))=true:=by rw[h2];exact(bU [101,108,105,102] [101,108,105,102]).trans (by decide)
  have e2:(s==[101,108,105,102])=true:=by rw[h2];decide
  clear h2
  go_enter Tryz.func58,Tryz.ntmps58
  go_wp2_with fail
  go_ret
  exact⟨by rw[HB.o];rfl,rfl⟩
 have f2:(BA s==(⟨#[101,108,105,102]⟩:ByteArray))=false:=(bU s [101,108,105,102]).trans (by simpa using h2)
 have e2:(s==[101,108,105,102])=false:=by simpa using h2
 by_cases h3:s=[101,108,115,101]
 ·have HB:Hid (cQ s=true):=jd (by rw[h3];decide)
  have f3:(BA s==(⟨#[101,108,115,101]⟩:ByteArray))=true:=by rw[h3];exact(bU [101,108,115,101] [101,108,115,101]).trans (by decide)
  have e3:(s==[101,108,115,101])=true:=by rw[h3];decide
  clear h3
  go_enter Tryz.func58,Tryz.ntmps58
  go_wp2_with fail
  go_ret
  exact⟨by rw[HB.o];rfl,rfl⟩
 have f3:(BA s==(⟨#[101,108,115,101]⟩:ByteArray))=false:=(bU s [101,108,115,101]).trans (by simpa using h3)
 have e3:(s==[101,108,115,101])=false:=by simpa using h3
 by_cases h4:s=[102,105]
 ·have HB:Hid (cQ s=true):=jd (by rw[h4];decide)
  have f4:(BA s==(⟨#[102,105]⟩:ByteArray))=true:=by rw[h4];exact(bU [102,105] [102,105]).trans (by decide)
  have e4:(s==[102,105])=true:=by rw[h4];decide
  clear h4
  go_enter Tryz.func58,Tryz.ntmps58
  go_wp2_with fail
  go_ret
  exact⟨by rw[HB.o];rfl,rfl⟩
 have f4:(BA s==(⟨#[102,105]⟩:ByteArray))=false:=(bU s [102,105]).trans (by simpa using h4)
 have e4:(s==[102,105])=false:=by simpa using h4
 by_cases h5:s=[100,111]
 ·have HB:Hid (cQ s=true):=jd (by rw[h5];decide)
  have f5:(BA s==(⟨#[100,111]⟩:ByteArray))=true:=by rw[h5];exact(bU [100,111] [100,111]).trans (by decide)
  have e5:(s==[100,111])=true:=by rw[h5];decide
  clear h5
  go_enter Tryz.func58,Tryz.ntmps58
  go_wp2_with fail
  go_ret
  exact⟨by rw[HB.o];rfl,rfl⟩
 have f5:(BA s==(⟨#[100,111]⟩:ByteArray))=false:=(bU s [100,111]).trans (by simpa using h5)
 have e5:(s==[100,111])=false:=by simpa using h5
 by_cases h6:s=[100,111,110,101]
 ·have HB:Hid (cQ s=true):=jd (by rw[h6];decide)
  have f6:(BA s==(⟨#[100,111,110,101]⟩:ByteArray))=true:=by rw[h6];exact(bU [100,111,110,101] [100,111,110,101]).trans (by decide)
  have e6:(s==[100,111,110,101])=true:=by rw[h6];decide
  clear h6
  go_enter Tryz.func58,Tryz.ntmps58
  go_wp2_with fail
  go_ret
  exact⟨by rw[HB.o];rfl,rfl⟩
 have f6:(BA s==(⟨#[100,111,110,101]⟩:ByteArray))=false:=(bU s [100,111,110,101]).trans (by simpa using h6)
 have e6:(s==[100,111,110,101])=false:=by simpa using h6
 have HB:Hid (cQ s=false):=jd (by unfold cQ;simp[cx,cu,eB,dF,rFi,rDo,bp,-List.cons.injEq,h0,h1,h2,h3,h4,h5,h6])
 clear h0 h1 h2 h3 h4 h5 h6
 go_enter Tryz.func58,Tryz.ntmps58
 go_wp2_with fail
 go_ret
 exact⟨by rw[HB.o];rfl,rfl⟩
theorem yu {p:Ps} (h:ag p≠1):aI p=[]:=by
 obtain⟨r,e⟩:=p
 cases r with
 |nil=>rfl
 |cons t r=>
  have h':¬t.kind=1:=h
  unfold aI
  simp[h']
theorem Cs {t:Tk} {r:List Tk} {e:Nat} (h:gB t.text=false):aI ⟨t::r,e⟩=[]:=by
 unfold aI
 simp[h]
theorem Cy {t:Tk} {r:List Tk} {e:Nat} (hk:t.kind=1) (h:gB t.text=true):aI ⟨t::r,e⟩=t.text:=by
 unfold aI
 simp[h,hk]
theorem ib (T:TT) (w:World) (g d:Nat) (p:Ps) (h:RP T w g d p) (hE:bW w):
  Calls Tryz.prog 59 #[.pointer (some ⟨g,0,none⟩)] w fun x w'=>x= .returned (.string (BA (aI p)))∧Kept (fun _=>False) w w':=by
 have HP:=jd h;have HE:=jd hE
 obtain⟨at_,hd,hr⟩:=h
 have HR:=jd hr
 have hs:=hr.short;have hle:=hr.le;have hlt:=hr.lt
 obtain⟨N,hN⟩:∃N,T.L.length=N:=⟨_,rfl⟩
 rw[hN] at hs hle
 have HN:=jd hN
 by_cases hk:ag p=1
 ·obtain⟨r,e⟩:=p
  cases r with
  |nil=>cases hk
  |cons t r=>
   obtain⟨ha,ht,_⟩:=dc hd
   have ha':at_<N:=by rw[←hN];exact ha
   have hkt:t.kind=1:=hk
   obtain⟨b,off,e1,t0,t1,tl⟩:=jl hr.tok ht
   have HAD:=jd e1;have HT1:=jd t1
   obtain⟨p,hp⟩:∃p,(⟨t::r,e⟩:Ps)=p:=⟨_,rfl⟩
   have hkp:ag p=1:=by rw[←hp];exact hk
   rw[hp] at HP
   obtain⟨rb,hrb⟩:∃rb,gB t.text=rb:=⟨_,rfl⟩
   have HKP:=jd hkp
   have HRV:Hid (aI p=if rb then t.text else[]):=jd (by
    rw[←hp]
    cases rb with
    |true=>exact Cy hkt hrb
    |false=>exact Cs hrb)
   have HRB:=jd hrb
   obtain⟨tx,htx⟩:∃tx,t.text=tx:=⟨_,rfl⟩
   rw[htx] at HRB HRV HT1
   rw[hp]
   clear hd hr hN hk ha ht e1 t0 t1 hp hkp hrb htx hkt
   go_enter Tryz.func59,Tryz.ntmps59
   go_wp2_with fail
   refine bG 17 [stV (.pointer (some ⟨g,0,none⟩)),stV (.int .i64 ((1:Nat):Int)),stV (.bool false),stV (.bool false),stV (.pointer (some ⟨g,0,none⟩)),stV (.pointer (some ⟨g,0,none⟩)),stV (.pointer (some ⟨g,0,none⟩)),stV (.slice (some ⟨b,off,none⟩) N T.c),stV (.pointer (some ⟨g,0,none⟩)),stV (.pointer (some ⟨g,0,none⟩)),stV (.pointer (some ⟨g,1,none⟩)),stV (.int .i64 (at_:Int)),stV (.pointer (some ⟨b,off+at_*3,none⟩)),stV (.pointer (some ⟨b,off+at_*3+1,none⟩)),stV (.string (BA tx)),stV (.bool rb),stV (.bool (!rb))] (by kernel_rfl) (by kernel_rfl) ?_ ?_
   ·refine ai (fun a' w' hI hag hf K hK=>?_) ?_
    ·have s0:=hag.same 0 (by decide)
     clear hag
     go_wp2_with fail
     exact hK _ _ hI (Ja _ _) rfl
    refine ai (fun a' w' hI hag hf K hK=>?_) ?_
    ·obtain⟨⟨_,h0,rfl⟩,-⟩:ah _ _ a' w' [0]:=hf
     clear hag
     go_wp2_with fail
     refine(cX T _ g d p (HP.o.au hI)).mono ?_
     rintro e wn ⟨rfl,hkn⟩
     rw[HKP.o]
     go_wp2_with fail
     exact hK _ _ (hI.trans hkn (fun _ _ h=>h)) hkn rfl
    iterate 13
     refine ai (fun a' w' hI hag hf K hK=>?_) ?_
     ·obtain⟨⟨_,h0,rfl⟩,⟨_,h1,rfl⟩,⟨_,h2,rfl⟩,-⟩:=hf
      have s0:=hag.same 0 (by decide)
      clear hag
      have RX:=HR.o.au hI
      obtain⟨⟨c0,c1,c2,c3⟩,-⟩:=RX.cells
      rw[HN.o] at c0
      clear RX
      rw[HAD.o] at c0
      have RX:=HR.o.au hI
      obtain⟨⟨c0,c1,c2,c3⟩,-⟩:=RX.cells
      rw[HN.o] at c0
      clear RX
      have tt:=hI.cell HT1.o (fun h=>h)
      go_wp2_with fail
      exact hK _ _ hI (Ja _ _) rfl
    refine ai (fun a' w' hI hag hf K hK=>?_) ?_
    ·obtain⟨⟨_,h14,rfl⟩,⟨_,h3,rfl⟩,-⟩:ah _ _ a' w' [14,3]:=hf
     clear hag
     go_wp2_with fail
     refine(rJ _ tx (HE.o.au hI)).mono ?_
     rintro e wn ⟨rfl,hwn⟩
     obtain rfl:=hwn.symm
     rw[HRB.o]
     go_wp2_with fail
     exact hK _ _ hI (Ja _ _) rfl
    refine ai (fun a' w' hI hag hf K hK=>?_) ?_
    ·obtain⟨⟨_,h0,rfl⟩,⟨_,h1,rfl⟩,-⟩:=hf
     clear hag
     go_wp2_with fail
     exact hK _ _ hI (Ja _ _) rfl
    exact trivial
   ·intro vs wz hI hvs
    simp only[pzz,aW,Act.put,Nat.reduceAdd,spv (hvs 0 _ _ rfl rfl) rfl,spv (hvs 1 _ _ rfl rfl) rfl,spv (hvs 2 _ _ rfl rfl) rfl,spv (hvs 3 _ _ rfl rfl) rfl,spv (hvs 4 _ _ rfl rfl) rfl,spv (hvs 5 _ _ rfl rfl) rfl,spv (hvs 6 _ _ rfl rfl) rfl,spv (hvs 7 _ _ rfl rfl) rfl,spv (hvs 8 _ _ rfl rfl) rfl,spv (hvs 9 _ _ rfl rfl) rfl,spv (hvs 10 _ _ rfl rfl) rfl,spv (hvs 11 _ _ rfl rfl) rfl,spv (hvs 12 _ _ rfl rfl) rfl,spv (hvs 13 _ _ rfl rfl) rfl,spv (hvs 14 _ _ rfl rfl) rfl,spv (hvs 15 _ _ rfl rfl) rfl,spv (hvs 16 _ _ rfl rfl) rfl]
    clear hvs
    have KZ:=jd hI
    clear hI
    cases rb with
    |false=>
     go_wp2_with fail
     go_ret
     exact⟨by rw[HRV.o];rfl,KZ.o⟩
    |true=>
     obtain⟨wy,rfl⟩:∃wy:World,wy=wz:=⟨_,rfl⟩
     have HR0:=jd HR.o
     replace HR:=jd (HR.o.au KZ.o)
     replace HT1:=jd (KZ.o.cell HT1.o (fun h=>h))
     go_wp2_with fail
     refine bG 11 [stV (.pointer (some ⟨g,0,none⟩)),stV (.pointer (some ⟨g,0,none⟩)),stV (.pointer (some ⟨g,0,none⟩)),stV (.slice (some ⟨b,off,none⟩) N T.c),stV (.pointer (some ⟨g,0,none⟩)),stV (.pointer (some ⟨g,0,none⟩)),stV (.pointer (some ⟨g,1,none⟩)),stV (.int .i64 (at_:Int)),stV (.pointer (some ⟨b,off+at_*3,none⟩)),stV (.pointer (some ⟨b,off+at_*3+1,none⟩)),stV (.string (BA tx))] (by kernel_rfl) (by kernel_rfl) ?_ ?_
     ·iterate 11
       refine ai (fun a' w' hI hag hf K hK=>?_) ?_
       ·obtain⟨⟨_,h0,rfl⟩,⟨_,h1,rfl⟩,-⟩:=hf
        have s0:=hag.same 0 (by decide)
        clear hag
        have RX:=HR.o.au hI
        obtain⟨⟨c0,c1,c2,c3⟩,-⟩:=RX.cells
        rw[HN.o] at c0
        clear RX
        rw[HAD.o] at c0
        have RX:=HR.o.au hI
        obtain⟨⟨c0,c1,c2,c3⟩,-⟩:=RX.cells
        rw[HN.o] at c0
        clear RX
        have tt:=hI.cell HT1.o (fun h=>h)
        go_wp2_with fail
        exact hK _ _ hI (Ja _ _) rfl
      exact trivial
     ·intro vs wq hI hvs
      simp only[pzz,aW,Act.put,Nat.reduceAdd,spv (hvs 0 _ _ rfl rfl) rfl,spv (hvs 1 _ _ rfl rfl) rfl,spv (hvs 2 _ _ rfl rfl) rfl,spv (hvs 3 _ _ rfl rfl) rfl,spv (hvs 4 _ _ rfl rfl) rfl,spv (hvs 5 _ _ rfl rfl) rfl,spv (hvs 6 _ _ rfl rfl) rfl,spv (hvs 7 _ _ rfl rfl) rfl,spv (hvs 8 _ _ rfl rfl) rfl,spv (hvs 9 _ _ rfl rfl) rfl,spv (hvs 10 _ _ rfl rfl) rfl]
      clear hvs
      have KQ:=jd hI
      clear hI
      go_wp2_with fail
      go_ret
      exact⟨by rw[HRV.o];rfl,KZ.o.trans KQ.o (fun _ _ h=>h)⟩
 ·have HKV:=jd (yu hk)
  have hne:((ag p:Int) !=1)=true:=by simp[bne];omega
  have hne2:(ag p !=1)=true:=by simp[bne];exact hk
  obtain⟨kp,hkp⟩:∃kp,ag p=kp:=⟨_,rfl⟩
  have HKP:=jd hkp
  rw[hkp] at hne hne2
  clear hd hr hN hk hkp
  go_enter Tryz.func59,Tryz.ntmps59
  go_wp2_with fail
  refine bG 17 [stV (.pointer (some ⟨g,0,none⟩)),stV (.int .i64 (kp:Int)),stV (.bool true),stV (.bool true),stV undef,stV undef,stV undef,stV undef,stV undef,stV undef,stV undef,stV undef,stV undef,stV undef,stV undef,stV undef,stV undef] (by kernel_rfl) (by kernel_rfl) ?_ ?_
  ·refine ai (fun a' w' hI hag hf K hK=>?_) ?_
   ·have s0:=hag.same 0 (by decide)
    clear hag
    go_wp2_with fail
    exact hK _ _ hI (Ja _ _) rfl
   refine ai (fun a' w' hI hag hf K hK=>?_) ?_
   ·obtain⟨⟨_,h0,rfl⟩,-⟩:ah _ _ a' w' [0]:=hf
    clear hag
    go_wp2_with fail
    refine(cX T _ g d p (HP.o.au hI)).mono ?_
    rintro e wn ⟨rfl,hkn⟩
    rw[HKP.o]
    go_wp2_with fail
    exact hK _ _ (hI.trans hkn (fun _ _ h=>h)) hkn rfl
   iterate 15
    refine ai (fun a' w' hI hag hf K hK=>?_) ?_
    ·obtain⟨⟨_,h0,rfl⟩,⟨_,h1,rfl⟩,⟨_,h2,rfl⟩,-⟩:=hf
     have s0:=hag.same 0 (by decide)
     clear hag
     go_wp2_with fail
     exact hK _ _ hI (Ja _ _) rfl
   exact trivial
  ·intro vs wz hI hvs
   simp only[pzz,aW,Act.put,Nat.reduceAdd,spv (hvs 0 _ _ rfl rfl) rfl,spv (hvs 1 _ _ rfl rfl) rfl,spv (hvs 2 _ _ rfl rfl) rfl,spv (hvs 3 _ _ rfl rfl) rfl,spv (hvs 4 _ _ rfl rfl) rfl,spv (hvs 5 _ _ rfl rfl) rfl,spv (hvs 6 _ _ rfl rfl) rfl,spv (hvs 7 _ _ rfl rfl) rfl,spv (hvs 8 _ _ rfl rfl) rfl,spv (hvs 9 _ _ rfl rfl) rfl,spv (hvs 10 _ _ rfl rfl) rfl,spv (hvs 11 _ _ rfl rfl) rfl,spv (hvs 12 _ _ rfl rfl) rfl,spv (hvs 13 _ _ rfl rfl) rfl,spv (hvs 14 _ _ rfl rfl) rfl,spv (hvs 15 _ _ rfl rfl) rfl,spv (hvs 16 _ _ rfl rfl) rfl]
   clear hvs
   have KZ:=jd hI
   clear hI
   go_wp2_with fail
   go_ret
   exact⟨by rw[HKV.o];rfl,KZ.o⟩
theorem qY {p:Ps} {s:LB} (h:aI p=s) (hs:s≠[]):∃t r,p.r=t::r∧t.kind=1∧t.text=s∧gB s=true:=by
 obtain⟨r,e⟩:=p
 cases r with
 |nil=>exact absurd h.symm hs
 |cons t r=>
  unfold aI at h
  dsimp only at h
  split at h
  ·rename_i h1
   exact⟨t,r,rfl,h1.1,h,by rw[←h];exact h1.2⟩
  ·exact absurd h.symm hs
theorem fW (T:TT) (w:World) (g d:Nat) (p:Ps) (h:RP T w g d p) (hE:bW w) (s:LB) (hs0:s≠[]):
  Calls Tryz.prog 108 #[.pointer (some ⟨g,0,none⟩),.string (BA s)] w (uW T w g d (.tuple #[]) (ay s p)):=by
 have HV:=jd (ib T w g d p h hE)
 have HP:=jd h
 obtain⟨rv,hrv⟩:∃rv,aI p=rv:=⟨_,rfl⟩
 rw[hrv] at HV
 by_cases hs:rv=s
 ·have HM:Hid (ay s p=aJ p):=jd (by unfold ay;rw[Jt (hrv.trans hs)])
  obtain⟨t,r,hpr,_⟩:=qY (hrv.trans hs) hs0
  have HPR:=jd hpr
  have d1:(BA rv !=BA s)=false:=by rw[hs];simp[bne,bU]
  have d2:(rv !=s)=false:=by rw[hs];simp
  have d3:(rv==s)=true:=by rw[hs];simp
  clear hs h hE hrv hpr hs0
  go_enter Tryz.func108,Tryz.ntmps108
  go_wp2_with fail
  refine HV.o.mono ?_
  rintro x w1 ⟨rfl,k1⟩
  obtain⟨at_,hd,hr⟩:=HP.o.au k1
  rw[HPR.o] at hd
  obtain⟨ha,ht,hd2⟩:=dc hd
  obtain⟨⟨c0,c1,c2,c3⟩,f1,f2,f3⟩:=hr.cells
  have hs:=hr.short
  have hlt:=hr.lt
  have HRR:=jd hr;have HA:=jd ha;have HD2:=jd hd2;have K1:=jd k1
  have q1:at_≤2048:=by omega
  have KK:Hid (Kept (fun b=>b=g) w1 (w1.setCell ⟨g,1,none⟩ (.int .i64 ((at_+1:Nat):Int)))):=jd ((Ja (fun b=>b=g) w1).set g 1 (fun _=>rfl) _)
  clear hd hr ht ha hd2 hs k1
  go_wp2_with fail
  go_end0
  exact⟨rfl,by rw[HM.o];exact⟨at_+1,by unfold aJ;rw[HPR.o];exact HD2.o,HRR.o.setAt HA.o⟩,(K1.o.mono (fun _ _ h=>h.elim)).trans KK.o (fun _ _ h=>h)⟩
 ·have HM:Hid (ay s p=bm p 5):=jd (by unfold ay;rw[Js (fun e=>hs (hrv.symm.trans e))])
  have d1:(BA rv !=BA s)=true:=by simp[bne,bU,hs]
  have d2:(rv !=s)=true:=by simp[bne,hs]
  have d3:(rv==s)=false:=by simp[hs]
  clear hs h hE hrv hs0
  go_enter Tryz.func108,Tryz.ntmps108
  go_wp2_with fail
  refine HV.o.mono ?_
  rintro x w1 ⟨rfl,k1⟩
  have K1:=jd k1
  have HFL:=jd (dV T w1 g d p (HP.o.au k1) 5)
  clear k1
  go_wp2_with fail
  refine HFL.o.mono ?_
  rintro x w2 ⟨rfl,r2,k2⟩
  have R2:=jd r2;have K2:=jd ((K1.o.mono (S':=fun b=>b=g) (fun _ _ h=>h.elim)).trans k2 (fun _ _ h=>h))
  clear r2 k2
  go_wp2_with fail
  go_end0
  exact⟨rfl,by rw[HM.o];exact R2.o,K2.o⟩
def zU (T:TT) (w:World) (g d:Nat) (l:LP) (p:Ps) (x:Ending) (w':World):Prop:=
 ∃v,x= .returned v∧WAt w' (fun b=>w.heap.size≤b) v l∧RP T w' g d p∧Kept (fun b=>b=g) w w'
def stW (F:Nat→Prop) (l:LP):fO:=⟨fun v w=>WAt w F v l,fun _ _ _ hk h=>h.kept hk (fun _ _ h=>h)⟩
def F8 (F:Nat→Prop) (l:LP) (e:Nat):fO:=⟨fun v w=>∃u,v= .tuple #[u,.int .i64 (e:Int)]∧WAt w F u l,fun _ _ _ hk ⟨u,h1,h2⟩=>⟨u,h1,h2.kept hk (fun _ _ h=>h)⟩⟩
theorem yB {p:Ps} (h:ag p≠1):aP p=([],bm p 5):=by
 obtain⟨r,e⟩:=p
 cases r with
 |nil=>rfl
 |cons t r=>
  have h':¬t.kind=1:=h
  unfold aP
  simp[h']
def pwF (s:LB):LP×Nat:=match bC s with
 |.ok l=>(l,0)
 |.error e=>([],e)
theorem CA {t:Tk} {r:List Tk} {e:Nat} (hk:t.kind=1):aP ⟨t::r,e⟩=((pwF t.text).1,if(pwF t.text).2=0 then⟨r,e⟩ else bm ⟨r,e⟩ (pwF t.text).2):=by
 unfold aP pwF
 simp only[hk,if_true]
 cases hp:bC t.text with
 |ok l=>rfl
 |error e'=>
  have:e'≠0:=pU hp
  simp[this]
theorem lJ (T:TT) (w:World) (g d:Nat) (p:Ps) (h:RP T w g d p) (hE:dm w):
  Calls Tryz.prog 98 #[.pointer (some ⟨g,0,none⟩)] w (zU T w g d (aP p).1 (aP p).2):=by
 have HK:=jd (cX T w g d p h)
 have HP:=jd h;have HE:=jd hE
 by_cases hk:ag p=1
 ·obtain⟨at_,hd,hr⟩:=h
  have hs:=hr.short;have hle:=hr.le;have hlt:=hr.lt
  have HR0:=jd hr
  obtain⟨r,e⟩:=p
  cases r with
  |nil=>cases hk
  |cons t r=>
   obtain⟨ha,ht,hd2⟩:=dc hd
   obtain⟨N,hN⟩:∃N,T.L.length=N:=⟨_,rfl⟩
   rw[hN] at hs hle
   have HN:=jd hN
   have ha':at_<N:=by rw[←hN];exact ha
   have hkt:t.kind=1:=hk
   obtain⟨b,off,e1,t0,t1,tl⟩:=jl hr.tok ht
   have hbg:b≠g:=hr.ne b (by rw[show T.v= .slice T.ad T.L.length T.c from rfl,e1];exact rfl)
   have htl:=(hr.toks t (List.mem_of_getElem? ht)).2
   have HAD:=jd e1;have HT0:=jd t1;have HD2:=jd hd2;have HBG:=jd hbg;have HA:=jd ha
   have HWE:=jd (CA (r:=r) (e:=e) hkt)
   obtain⟨p,hp⟩:∃p,(⟨t::r,e⟩:Ps)=p:=⟨_,rfl⟩
   have hkp:ag p=1:=by rw[←hp];exact hk
   rw[hp] at HP HK HWE⊢
   rw[hkp] at HK
   obtain⟨tx,htx⟩:∃tx,t.text=tx:=⟨_,rfl⟩
   rw[htx] at HT0 HWE htl
   have HTL:=jd htl
   have htz:(BA tx).size≤2048:=by rw[aq];exact htl
   clear hd hr hN hk ha ht e1 t0 t1 hp hkp htx hkt hd2 htl hbg
   go_enter Tryz.func98,Tryz.ntmps98
   go_wp2_with fail
   refine HK.o.mono ?_
   rintro x w1 ⟨rfl,k1⟩
   have K1:=jd k1
   have HR:=jd (HR0.o.au k1)
   have HT1:=jd (k1.cell HT0.o (fun h=>h))
   have hblt:b<w1.heap.size:=World.block_lt_of_cell? w1 _ HT1.o
   have HPW:=jd (fun wx (kx:Kept (fun _=>False) w1 wx)=>lL wx tx ((HE.o.au k1).au kx) (by have:=HTL.o;omega))
   have hz1:=k1.size
   have HZ1:=jd hz1
   obtain⟨wl,hwl⟩:∃wl,(pwF tx).1=wl:=⟨_,rfl⟩
   obtain⟨we,hwe⟩:∃we,(pwF tx).2=we:=⟨_,rfl⟩
   rw[hwl,hwe] at HWE
   have HPF:Hid (∀{wx:World} {x:Ending} {w':World},w1.heap.size≤wx.heap.size→cW wx tx x w'→∃u,x= .returned (.tuple #[u,.int .i64 (we:Int)])∧WAt w' (fun b=>w1.heap.size≤b) u wl):=jd (by
    intro hz hx
    unfold cW at hx
    unfold pwF at hwl hwe
    cases hp:bC tx with
    |ok l=>
     rw[hp] at hx hwl hwe
     obtain⟨v,rfl,hv⟩:=hx
     subst hwl;subst hwe
     exact⟨v,rfl,hv.mono (fun b _ hb=>lt9 hz hb)⟩
    |error e'=>
     rw[hp] at hx hwl hwe
     subst hwl;subst hwe
     exact⟨_,hx,WAt.nil _ _⟩)
   clear k1 hwl hwe
   go_wp2_with fail
   refine bG 16 [stV (.pointer (some ⟨g,0,none⟩)),stV (.pointer (some ⟨g,0,none⟩)),stV (.pointer (some ⟨g,0,none⟩)),stV (.slice (some ⟨b,off,none⟩) N T.c),stV (.pointer (some ⟨g,0,none⟩)),stV (.pointer (some ⟨g,0,none⟩)),stV (.pointer (some ⟨g,1,none⟩)),stV (.int .i64 (at_:Int)),stV (.pointer (some ⟨b,off+at_*3,none⟩)),stV (.pointer (some ⟨b,off+at_*3+1,none⟩)),stV (.string (BA tx)),F8 (fun b=>w1.heap.size≤b) wl we,F8 (fun b=>w1.heap.size≤b) wl we,stW (fun b=>w1.heap.size≤b) wl,stV (.int .i64 (we:Int)),stW (fun b=>w1.heap.size≤b) wl] (by kernel_rfl) (by kernel_rfl) ?_ ?_
   ·iterate 11
     refine ai (fun a' w' hI hag hf K hK=>?_) ?_
     ·obtain⟨⟨_,h0,rfl⟩,⟨_,h1,rfl⟩,-⟩:=hf
      have s0:=hag.same 0 (by decide)
      clear hag
      have RX:=HR.o.au hI
      obtain⟨⟨c0,c1,c2,c3⟩,-⟩:=RX.cells
      rw[HN.o] at c0
      clear RX
      rw[HAD.o] at c0
      have RX:=HR.o.au hI
      obtain⟨⟨c0,c1,c2,c3⟩,-⟩:=RX.cells
      rw[HN.o] at c0
      clear RX
      have tt:=hI.cell HT1.o (fun h=>h)
      go_wp2_with fail
      exact hK _ _ hI (Ja _ _) rfl
    refine ai (fun a' w' hI hag hf K hK=>?_) ?_
    ·obtain⟨⟨_,h10,rfl⟩,-⟩:ah _ _ a' w' [10]:=hf
     clear hag
     go_wp2_with fail
     refine(HPW.o _ hI).mono ?_
     rintro ex wn ⟨hx,hkn⟩
     obtain⟨u,rfl,hu⟩:=HPF.o hI.size hx
     go_wp2_with fail
     exact hK _ _ (hI.trans hkn (fun _ _ h=>h)) hkn ⟨u,rfl,hu⟩
    refine ai (fun a' w' hI hag hf K hK=>?_) ?_
    ·obtain⟨⟨v11,h11,e11⟩,-⟩:ah _ _ a' w' [11]:=hf
     clear hag
     go_wp2_with fail
     exact hK _ _ hI (Ja _ _) e11
    refine ai (fun a' w' hI hag hf K hK=>?_) ?_
    ·obtain⟨⟨v12,h12,e12⟩,-⟩:ah _ _ a' w' [12]:=hf
     clear hag
     obtain⟨u,rfl,hu⟩:=e12
     go_wp2_with fail
     exact hK _ _ hI (Ja _ _) hu
    refine ai (fun a' w' hI hag hf K hK=>?_) ?_
    ·obtain⟨⟨v12,h12,e12⟩,-⟩:ah _ _ a' w' [12]:=hf
     clear hag
     obtain⟨u,rfl,hu⟩:=e12
     go_wp2_with fail
     exact hK _ _ hI (Ja _ _) rfl
    refine ai (fun a' w' hI hag hf K hK=>?_) ?_
    ·obtain⟨⟨v13,h13,e13⟩,-⟩:ah _ _ a' w' [13,11,0,1,2,3,4,5,6,7,8,9,10,12]:=hf
     clear hag
     go_wp2_with fail
     exact hK _ _ hI (Ja _ _) e13
    exact trivial
   ·intro vs wz hI hvs
    have q11:=hvs 11 _ _ rfl rfl
    have q12:=hvs 12 _ _ rfl rfl
    have q13:=hvs 13 _ _ rfl rfl
    have q15:=hvs 15 _ _ rfl rfl
    simp only[pzz,aW,Act.put,Nat.reduceAdd,spv (hvs 0 _ _ rfl rfl) rfl,spv (hvs 1 _ _ rfl rfl) rfl,spv (hvs 2 _ _ rfl rfl) rfl,spv (hvs 3 _ _ rfl rfl) rfl,spv (hvs 4 _ _ rfl rfl) rfl,spv (hvs 5 _ _ rfl rfl) rfl,spv (hvs 6 _ _ rfl rfl) rfl,spv (hvs 7 _ _ rfl rfl) rfl,spv (hvs 8 _ _ rfl rfl) rfl,spv (hvs 9 _ _ rfl rfl) rfl,spv (hvs 10 _ _ rfl rfl) rfl,spv (hvs 14 _ _ rfl rfl) rfl]
    clear hvs
    generalize vs 11=x11 at*
    generalize vs 12=x12 at*
    generalize vs 13=x13 at*
    generalize vs 15=x15 at*
    have KZ:=jd hI
    have RZ:=jd (HR.o.au hI)
    have HW:=jd (show WAt wz _ x15 wl from q15)
    clear hI q11 q12 q13 q15
    obtain⟨⟨c0,c1,c2,c3⟩,f1,f2,f3⟩:=RZ.o.cells
    have hlz:g<wz.heap.size:=RZ.o.lt
    have q1:at_≤2048:=by omega
    have KS:Hid (Kept (fun b=>b=g) wz (wz.setCell ⟨g,1,none⟩ (.int .i64 ((at_+1:Nat):Int)))):=jd ((Ja (fun b=>b=g) wz).set g 1 (fun _=>rfl) _)
    have RS:Hid (RA T (wz.setCell ⟨g,1,none⟩ (.int .i64 ((at_+1:Nat):Int))) g (at_+1) d e):=jd (RZ.o.setAt HA.o)
    have HWS:=jd (HW.o.kept KS.o (fun b hb e=>by have e':b=g:=e;have hb':w1.heap.size≤b:=hb;have:=HR.o.lt;omega))
    have KW:Hid (Kept (fun b=>b=g) w (wz.setCell ⟨g,1,none⟩ (.int .i64 ((at_+1:Nat):Int)))):=jd ((((K1.o.trans KZ.o (fun _ _ h=>h)).mono (S':=fun b=>b=g) (fun _ _ h=>h.elim))).trans KS.o (fun _ _ h=>h))
    by_cases hw0:we=0
    ·have d1:((we:Int) !=0)=false:=by rw[hw0];rfl
     have d2:(we !=0)=false:=by rw[hw0];rfl
     rw[Jt hw0] at HWE
     clear hw0
     go_wp2_with fail
     go_ret
     exact⟨_,rfl,by rw[HWE.o];exact HWS.o.mono (fun b _ hb=>lt9 HZ1.o hb),by rw[HWE.o];exact⟨at_+1,HD2.o,RS.o⟩,KW.o⟩
    ·have d1:((we:Int) !=0)=true:=by simp[bne];omega
     have d2:(we !=0)=true:=by simp[bne];omega
     rw[Js hw0] at HWE
     have HFL:=jd (dV T (wz.setCell ⟨g,1,none⟩ (.int .i64 ((at_+1:Nat):Int))) g d ⟨r,e⟩ ⟨at_+1,HD2.o,RS.o⟩ we)
     clear hw0
     go_wp2_with fail
     refine HFL.o.mono ?_
     rintro ex w9 ⟨rfl,r9,k9⟩
     have R9:=jd r9;have K9:=jd k9
     clear r9 k9
     go_wp2_with fail
     go_ret
     exact⟨_,rfl,by rw[HWE.o];exact(HWS.o.kept K9.o (fun b hb e=>by have e':b=g:=e;have hb':w1.heap.size≤b:=hb;have:=HR.o.lt;omega)).mono (fun b _ hb=>lt9 HZ1.o hb),by rw[HWE.o];exact R9.o,KW.o.trans K9.o (fun _ _ h=>h)⟩
 ·have HWE:=jd (yB hk)
  have d1:((ag p:Int) !=1)=true:=by simp[bne];omega
  have d2:(ag p !=1)=true:=by simp[bne];exact hk
  obtain⟨kp,hkp⟩:∃kp,ag p=kp:=⟨_,rfl⟩
  rw[hkp] at d1 d2 HK
  rw[HWE.o]
  clear hk hkp h
  go_enter Tryz.func98,Tryz.ntmps98
  go_wp2_with fail
  refine HK.o.mono ?_
  rintro x w1 ⟨rfl,k1⟩
  have K1:=jd k1
  have HFL:=jd (dV T w1 g d p (HP.o.au k1) 5)
  clear k1
  go_wp2_with fail
  refine HFL.o.mono ?_
  rintro x w2 ⟨rfl,r2,k2⟩
  have R2:=jd r2;have K2:=jd ((K1.o.mono (S':=fun b=>b=g) (fun _ _ h=>h.elim)).trans k2 (fun _ _ h=>h))
  clear r2 k2
  go_wp2_with fail
  go_ret
  exact⟨_,rfl,WAt.nil _ _,R2.o,K2.o⟩
