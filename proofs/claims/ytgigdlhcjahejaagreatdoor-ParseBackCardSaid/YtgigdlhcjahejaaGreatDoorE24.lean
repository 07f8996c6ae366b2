/- Of the proof of ParseBack: ParA, ParB. -/
import Derived.Test.YtgigdlhcjahejaaGreatDoorE23
namespace Go.Proofs.YtgigdlhcjahejaaGreatDoor
open Go Go.RowKit Go.Lw
set_option maxRecDepth 100000
set_option linter.unusedVariables false
set_option linter.unusedSimpArgs false
attribute [local go_sem] au
structure TT where
 ad:Option Addr
 c:Nat
 L:List Tk
abbrev TT.v (T:TT):Value:= .slice T.ad T.L.length T.c
structure RA (T:TT) (w:World) (g at_ d e:Nat):Prop where
 box:w.heap[g]? =some (.cells #[.slice T.ad T.L.length T.c,.int .i64 (at_:Int),.int .i64 (d:Int),.int .i64 (e:Int)] 70 (0,0))
 tok:Rd w 3 T.v T.L.length (T.L.flatMap Tk.cells)
 ne:∀b,blk T.v b→b≠g
 le:at_≤T.L.length
 short:T.L.length≤2048
 dp:d≤1000
 toks:∀t∈T.L,t.kind≤11∧t.text.length≤2048
theorem RA.kept {T:TT} {S:Nat→Prop} {w w':World} {g at_ d e:Nat} (h:RA T w g at_ d e) (k:Kept S w w') (hg:¬S g) (hv:∀b,blk T.v b→¬S b):RA T w' g at_ d e:=
 ⟨k.heap h.box hg,h.tok.kept k hv,h.ne,h.le,h.short,h.dp,h.toks⟩
theorem RA.ag {T:TT} {w w':World} {g at_ d e:Nat} (h:RA T w g at_ d e) (k:Kept (fun _=>False) w w'):RA T w' g at_ d e:=h.kept k (fun h=>h) (fun _ _ h=>h)
theorem RA.cells {T:TT} {w:World} {g at_ d e:Nat} (h:RA T w g at_ d e):
  (w.cell? ⟨g,0,none⟩=some (.slice T.ad T.L.length T.c)∧w.cell? ⟨g,1,none⟩=some (.int .i64 (at_:Int))∧w.cell? ⟨g,2,none⟩=some (.int .i64 (d:Int))∧w.cell? ⟨g,3,none⟩=some (.int .i64 (e:Int)))∧
  (w.frozen? ⟨g,1,none⟩=false∧w.frozen? ⟨g,2,none⟩=false∧w.frozen? ⟨g,3,none⟩=false):=
 ⟨⟨aq h.box 0,aq h.box 1,aq h.box 2,aq h.box 3⟩,aS h.box 1,aS h.box 2,aS h.box 3⟩
theorem RA.lt {T:TT} {w:World} {g at_ d e:Nat} (h:RA T w g at_ d e):g<w.heap.size:=aj h.box
theorem iV {w:World} {T:TT} (h:Rd w 3 T.v T.L.length (T.L.flatMap Tk.cells)) {k:Nat} {t:Tk} (hk:T.L[k]? =some t):
  ∃b off,T.ad=some ⟨b,off,none⟩∧w.cell? ⟨b,off+k*3,none⟩=some (.int .i64 (t.kind:Int))∧w.cell? ⟨b,off+k*3+1,none⟩=some (.string (BA t.text))∧b<w.heap.size:=by
 have key:=fun j hj=>lS Tk.cells 3 T.L (fun _ _=>rfl) k t j hk hj
 obtain⟨_,a,cap,e,_,_,hc⟩:=h
 obtain⟨b,off,e2,h0⟩:=hc (k*3+0) _ (key 0 (by decide))
 obtain⟨b',off',e3,h1⟩:=hc (k*3+1) _ (key 1 (by decide))
 cases e
 rw[e2] at e3
 cases e3
 exact⟨b,off,e2,h0,by rw[Nat.add_assoc];exact h1,World.block_lt_of_cell? w _ h0⟩
theorem RA.setAt {T:TT} {w:World} {g at_ d e:Nat} (h:RA T w g at_ d e) {a:Nat} (ha:a≤T.L.length):RA T (w.setCell ⟨g,1,none⟩ (.int .i64 (a:Int))) g a d e:=
 have k:Kept (fun b=>b=g) w (w.setCell ⟨g,1,none⟩ (.int .i64 (a:Int))):=(Ja (fun b=>b=g) w).set g 1 (fun _=>rfl) _
 ⟨heap_set h.box 1 _,h.tok.kept k (fun b hb e=>h.ne b hb e),h.ne,ha,h.short,h.dp,h.toks⟩
theorem RA.FQ {T:TT} {w:World} {g at_ d e:Nat} (h:RA T w g at_ d e) {a:Nat} (ha:a≤1000):RA T (w.setCell ⟨g,2,none⟩ (.int .i64 (a:Int))) g at_ a e:=
 have k:Kept (fun b=>b=g) w (w.setCell ⟨g,2,none⟩ (.int .i64 (a:Int))):=(Ja (fun b=>b=g) w).set g 2 (fun _=>rfl) _
 ⟨heap_set h.box 2 _,h.tok.kept k (fun b hb e=>h.ne b hb e),h.ne,h.le,h.short,ha,h.toks⟩
theorem RA.Gi {T:TT} {w:World} {g at_ d e:Nat} (h:RA T w g at_ d e) (a:Nat):RA T (w.setCell ⟨g,3,none⟩ (.int .i64 (a:Int))) g at_ d a:=
 have k:Kept (fun b=>b=g) w (w.setCell ⟨g,3,none⟩ (.int .i64 (a:Int))):=(Ja (fun b=>b=g) w).set g 3 (fun _=>rfl) _
 ⟨heap_set h.box 3 _,h.tok.kept k (fun b hb e=>h.ne b hb e),h.ne,h.le,h.short,h.dp,h.toks⟩
def RP (T:TT) (w:World) (g d:Nat) (p:Ps):Prop:=∃at_,T.L.drop at_=p.r∧RA T w g at_ d p.e
theorem RP.ag {T:TT} {w w':World} {g d:Nat} {p:Ps} (h:RP T w g d p) (k:Kept (fun _=>False) w w'):RP T w' g d p:=by
 obtain⟨a,h1,h2⟩:=h
 exact⟨a,h1,h2.ag k⟩
theorem RP.lt {T:TT} {w:World} {g d:Nat} {p:Ps} (h:RP T w g d p):g<w.heap.size:=by
 obtain⟨a,h1,h2⟩:=h
 exact h2.lt
theorem RP.len {T:TT} {w:World} {g d:Nat} {p:Ps} (h:RP T w g d p):p.r.length≤2048:=by
 obtain⟨a,h1,h2⟩:=h
 have:=h2.short
 rw[←h1,List.length_drop];omega
theorem AW {L:List Tk} {a:Nat} (h:L.drop a=[]):L.length≤a:=by
 have:=congrArg List.length h
 rw[List.length_drop] at this
 simp at this;omega
theorem cZ {L:List Tk} {a:Nat} {t:Tk} {r:List Tk} (h:L.drop a=t::r):a<L.length∧L[a]? =some t∧L.drop (a+1)=r:=by
 have h1:a<L.length:=by
  have:=congrArg List.length h
  rw[List.length_drop] at this
  simp at this;omega
 rw[List.drop_eq_getElem_cons h1] at h
 cases h
 exact⟨h1,Je h1,rfl⟩
set_option maxHeartbeats 8000000 in
theorem cT (T:TT) (w:World) (g d:Nat) (p:Ps) (h:RP T w g d p):
  Calls Tryz.prog 26 #[.pointer (some ⟨g,0,none⟩)] w fun x w'=>x= .returned (.int .i64 (ai p:Int))∧Kept (fun _=>False) w w':=by
 obtain⟨at_,hd,hr⟩:=h
 obtain⟨⟨c0,c1,c2,c3⟩,f1,f2,f3⟩:=hr.cells
 obtain⟨r,e⟩:=p
 have hle:=hr.le;have hs:=hr.short
 have HR:=jd hr
 obtain⟨N,hN⟩:∃N,T.L.length=N:=⟨_,rfl⟩
 rw[hN] at c0 hle hs
 have HN:=jd hN
 cases r with
 |nil=>
  have ha:N≤at_:=by rw[←hN];exact AW hd
  have d1:decide ((at_:Int)≥(N:Int))=true:=Jc (by omega)
  have d2:decide (N≤at_)=true:=Jc ha
  clear hd hr hN
  go_enter Tryz.func26,Tryz.ntmps26
  go_wp2_with (go_quiet (fail))
  go_ret
  exact⟨rfl,aU _ _⟩
 |cons t r=>
  obtain⟨ha,ht,_⟩:=cZ hd
  rw[hN] at ha
  have d1:decide ((at_:Int)≥(N:Int))=false:=Jd (by omega)
  have d2:decide (N≤at_)=false:=Jd (by omega)
  obtain⟨b,off,e1,t0,t1,tl⟩:=iV hr.tok ht
  rw[e1] at c0
  have hk:ai ⟨t::r,e⟩=t.kind:=rfl
  rw[hk]
  clear hd hr hN ht e1
  go_enter Tryz.func26,Tryz.ntmps26
  go_wp2_with (go_quiet (fail))
  go_ret
  exact⟨rfl,by first|exact aU _ _|exact(aU _ _).trans (aU _ _) (fun _ _ h=>h)⟩
def wI (T:TT) (w:World) (g d:Nat) (v:Value) (p:Ps) (x:Ending) (w':World):Prop:=x= .returned v∧RP T w' g d p∧Kept (fun b=>b=g) w w'
theorem wL (r:List Tk) (e e':Nat):bd ⟨r,e⟩ e'=⟨[],if e=0 then e' else e⟩:=rfl
set_option maxHeartbeats 8000000 in
theorem dC (T:TT) (w:World) (g d:Nat) (p:Ps) (h:RP T w g d p) (e':Nat):
  Calls Tryz.prog 28 #[.pointer (some ⟨g,0,none⟩),.int .i64 (e':Int)] w (wI T w g d (.tuple #[]) (bd p e')):=by
 obtain⟨at_,hd,hr⟩:=h
 obtain⟨⟨c0,c1,c2,c3⟩,f1,f2,f3⟩:=hr.cells
 obtain⟨r,e⟩:=p
 have hs:=hr.short
 have hlt:=hr.lt
 have HR:=jd hr
 obtain⟨N,hN⟩:∃N,T.L.length=N:=⟨_,rfl⟩
 rw[hN] at c0 hs
 have HN:=jd hN
 have HDN:Hid (T.L.drop N=[]):=jd (by rw[←hN];exact List.drop_length)
 clear hd hr hN
 by_cases h0:e=0
 ·have d1:((e:Int)==0)=true:=by rw[h0];rfl
  have HF:Hid (bd ⟨r,e⟩ e'=⟨[],e'⟩):=jd (by rw[wL,if_pos h0])
  have R1:=HR.o.Gi e'
  obtain⟨⟨g0,g1,g2,g3⟩,k1,k2,k3⟩:=R1.cells
  rw[HN.o] at g0
  have HR1:=jd R1
  have KK:Hid (Kept (fun b=>b=g) w ((w.setCell ⟨g,3,none⟩ (.int .i64 (e':Int))).setCell ⟨g,1,none⟩ (.int .i64 (N:Int)))):=jd (((Ja (fun b=>b=g) w).set g 3 (fun _=>rfl) _).set g 1 (fun _=>rfl) _)
  clear h0 R1
  go_enter Tryz.func28,Tryz.ntmps28
  go_wp2_with fail
  go_end0
  exact⟨rfl,by rw[HF.o];exact⟨N,HDN.o,HR1.o.setAt (by rw[HN.o];exact Jb _)⟩,KK.o⟩
 ·have d1:((e:Int)==0)=false:=by apply beq_eq_false_iff_ne.2;omega
  have HF:Hid (bd ⟨r,e⟩ e'=⟨[],e⟩):=jd (by rw[wL,if_neg h0])
  have KK:Hid (Kept (fun b=>b=g) w (w.setCell ⟨g,1,none⟩ (.int .i64 (N:Int)))):=jd ((Ja (fun b=>b=g) w).set g 1 (fun _=>rfl) _)
  clear h0
  go_enter Tryz.func28,Tryz.ntmps28
  go_wp2_with fail
  go_end0
  exact⟨rfl,by rw[HF.o];exact⟨N,HDN.o,HR.o.setAt (by rw[HN.o];exact Jb _)⟩,KK.o⟩
set_option maxHeartbeats 8000000 in
theorem fm (T:TT) (w:World) (g d:Nat) (p:Ps) (h:RP T w g d p) (k:Nat) (hk0:k≠0):
  Calls Tryz.prog 55 #[.pointer (some ⟨g,0,none⟩),.int .i64 (k:Int)] w (wI T w g d (.bool (decide (ai p=k))) (if ai p=k then aC p else p)):=by
 have HK:=jd (cT T w g d p h)
 have HH:=jd h
 clear h
 by_cases hk:ai p=k
 ·have d1:((ai p:Int) !=(k:Int))=false:=by rw[hk];simp
  have d2:decide (ai p=k)=true:=Jc hk
  have d3:(ai p !=k)=false:=by rw[hk];simp
  have HI:Hid ((if ai p=k then aC p else p)=aC p):=jd (if_pos hk)
  have hne:p.r≠[]:=fun e=>by
   have:ai p=0:=by unfold ai;rw[e]
   omega
  have HNE:=jd hne
  obtain⟨kp,hkp⟩:∃kp,ai p=kp:=⟨_,rfl⟩
  rw[HI.o,d2]
  rw[hkp] at HK d1 d3
  clear hk d2 hkp hne HI
  go_enter Tryz.func55,Tryz.ntmps55
  go_wp2_with fail
  refine HK.o.mono ?_
  rintro x w1 ⟨rfl,k1⟩
  obtain⟨at_,hd,hr⟩:=HH.o.ag k1
  obtain⟨r,e⟩:=p
  cases r with
  |nil=>exact absurd rfl HNE.o
  |cons t r=>
   obtain⟨ha,ht,hd2⟩:=cZ hd
   obtain⟨⟨c0,c1,c2,c3⟩,f1,f2,f3⟩:=hr.cells
   have hs:=hr.short
   have hlt:=hr.lt
   have HRR:=jd hr;have HA:=jd ha;have HD2:=jd hd2;have K1:=jd k1
   have q1:at_≤2048:=by omega
   have KK:Hid (Kept (fun b=>b=g) w1 (w1.setCell ⟨g,1,none⟩ (.int .i64 ((at_+1:Nat):Int)))):=jd ((Ja (fun b=>b=g) w1).set g 1 (fun _=>rfl) _)
   clear hd hr ht ha hd2 hs k1
   go_wp2_with fail
   go_ret
   exact⟨rfl,⟨at_+1,HD2.o,HRR.o.setAt HA.o⟩,K1.o.mono (fun _ _ h=>h.elim)|>.trans KK.o (fun _ _ h=>h)⟩
 ·have d1:((ai p:Int) !=(k:Int))=true:=by simp[bne];omega
  have d2:decide (ai p=k)=false:=Jd hk
  have d3:(ai p !=k)=true:=by simp[bne];exact hk
  have HI:Hid ((if ai p=k then aC p else p)=p):=jd (if_neg hk)
  obtain⟨kp,hkp⟩:∃kp,ai p=kp:=⟨_,rfl⟩
  rw[HI.o,d2]
  rw[hkp] at HK d1 d3
  clear hk d2 hkp HI
  go_enter Tryz.func55,Tryz.ntmps55
  go_wp2_with fail
  refine HK.o.mono ?_
  rintro x w1 ⟨rfl,k1⟩
  have K1:=jd k1
  clear k1
  go_wp2_with fail
  go_ret
  exact⟨rfl,HH.o.ag K1.o,K1.o.mono (fun _ _ h=>h.elim)⟩
set_option maxHeartbeats 8000000 in
theorem sS (T:TT) (w:World) (g d:Nat) (p:Ps) (h:RP T w g d p):
  Calls Tryz.prog 57 #[.pointer (some ⟨g,0,none⟩)] w (wI T w g d (.bool (aM p).1) (aM p).2):=by
 have H1:=jd (fm T w g d p h 3 (by decide))
 by_cases h3:ai p=3
 ·have e1:(aM p).1=true:=by unfold aM;rw[if_pos (.inl h3)]
  have e2:(aM p).2=aC p:=by unfold aM;rw[if_pos (.inl h3)]
  rw[if_pos h3,Jc h3] at H1
  rw[e1,e2]
  clear h3 e1 e2 h
  go_enter Tryz.func57,Tryz.ntmps57
  go_wp2_with fail
  refine H1.o.mono ?_
  rintro x w1 ⟨rfl,r1,k1⟩
  have R1:=jd r1;have K1:=jd k1
  clear r1 k1
  go_wp2_with fail
  go_ret
  exact⟨rfl,R1.o,K1.o⟩
 ·rw[if_neg h3,Jd h3] at H1
  have H2:=jd (fun w1 (h1:RP T w1 g d p)=>fm T w1 g d p h1 2 (by decide))
  by_cases h2:ai p=2
  ·have e1:(aM p).1=true:=by unfold aM;rw[if_pos (.inr h2)]
   have e2:(aM p).2=aC p:=by unfold aM;rw[if_pos (.inr h2)]
   rw[if_pos h2,Jc h2] at H2
   rw[e1,e2]
   clear h3 h2 e1 e2 h
   go_enter Tryz.func57,Tryz.ntmps57
   go_wp2_with fail
   refine H1.o.mono ?_
   rintro x w1 ⟨rfl,r1,k1⟩
   have R1:=jd r1;have K1:=jd k1
   clear r1 k1
   go_wp2_with fail
   refine(H2.o _ R1.o).mono ?_
   rintro x w2 ⟨rfl,r2,k2⟩
   have R2:=jd r2;have K2:=jd (K1.o.trans k2 (fun _ _ h=>h))
   clear r2 k2
   go_wp2_with fail
   go_ret
   exact⟨rfl,R2.o,K2.o⟩
  ·have e1:(aM p).1=false:=by unfold aM;rw[if_neg (fun e=>e.elim h3 h2)]
   have e2:(aM p).2=p:=by unfold aM;rw[if_neg (fun e=>e.elim h3 h2)]
   rw[if_neg h2,Jd h2] at H2
   rw[e1,e2]
   clear h3 h2 e1 e2 h
   go_enter Tryz.func57,Tryz.ntmps57
   go_wp2_with fail
   refine H1.o.mono ?_
   rintro x w1 ⟨rfl,r1,k1⟩
   have R1:=jd r1;have K1:=jd k1
   clear r1 k1
   go_wp2_with fail
   refine(H2.o _ R1.o).mono ?_
   rintro x w2 ⟨rfl,r2,k2⟩
   have R2:=jd r2;have K2:=jd (K1.o.trans k2 (fun _ _ h=>h))
   clear r2 k2
   go_wp2_with fail
   go_ret
   exact⟨rfl,R2.o,K2.o⟩
theorem CG {p:Ps} (h:ai p=2):aA (aC p)=aA p:=by
 obtain⟨r,e⟩:=p
 cases r with
 |nil=>cases h
 |cons t r=>
  have h':t.kind=2:=h
  unfold aA aC
  simp[h']
theorem CF {p:Ps} (h:ai p≠2):aA p=p:=by
 obtain⟨r,e⟩:=p
 cases r with
 |nil=>rfl
 |cons t r=>
  have h':t.kind≠2:=h
  unfold aA
  simp[h']
theorem gm {p:Ps} (h:ai p≠0):(aC p).r.length+1=p.r.length:=by
 obtain⟨r,e⟩:=p
 cases r with
 |nil=>exact absurd rfl h
 |cons t r=>rfl
theorem vl (p:Ps):(aC p).r.length≤p.r.length:=by
 obtain⟨r,e⟩:=p
 cases r with
 |nil=>exact Jb _
 |cons t r=>exact Nat.le_succ _
theorem qV (p:Ps):(aA p).r.length≤p.r.length:=by
 unfold aA
 exact(List.dropWhile_suffix _).length_le
set_option maxHeartbeats 8000000 in
theorem fp (T:TT) (w:World) (g d:Nat) (p:Ps) (h:RP T w g d p):
  Calls Tryz.prog 25 #[.pointer (some ⟨g,0,none⟩)] w (wI T w g d (.tuple #[]) (aA p)):=by
 have HH:=jd h
 obtain⟨N,hN⟩:∃N,p.r.length=N:=⟨_,rfl⟩
 have HN:=jd hN
 clear h hN
 go_enter Tryz.func25,Tryz.ntmps25
 go_wp2_with fail
 go_loopg [2] N (fun gk s2 wx=>∃q:Ps,gk=q.r.length∧RP T wx g d q∧aA q=aA p∧Kept (fun b=>b=g) w wx)
 case atStart=>exact⟨p,HN.o.symm,HH.o,rfl,Ja _ _⟩
 case round=>
  obtain⟨q,rfl,hq,hqr,hqk⟩:=hrel
  have HQ:=jd hq;have HQR:=jd hqr;have HQK:=jd hqk
  have H2:=jd (fm T wr g d q hq 2 (by decide))
  clear hq hqr hqk
  by_cases h2:ai q=2
  ·rw[if_pos h2,Jc h2] at H2
   have HE:=jd (CG h2)
   have HL:=jd (gm (p:=q) (by omega))
   clear h2
   go_wp2_with fail
   refine H2.o.mono ?_
   rintro x w2 ⟨rfl,r2,k2⟩
   have R2:=jd r2;have K2:=jd (HQK.o.trans k2 (fun _ _ h=>h))
   clear r2 k2
   try (go_wp2_with fail)
   go_roundg ((aC q).r.length)
   case measure=>have:=HL.o;omega
   case rel=>exact⟨aC q,rfl,R2.o,by rw[HE.o,HQR.o],K2.o⟩
  ·rw[if_neg h2,Jd h2] at H2
   have HE:=jd (CF h2)
   clear h2
   go_wp2_with fail
   refine H2.o.mono ?_
   rintro x w2 ⟨rfl,r2,k2⟩
   have R2:=jd r2;have K2:=jd (HQK.o.trans k2 (fun _ _ h=>h))
   clear r2 k2
   go_wp2_with fail
   go_end0
   exact⟨rfl,by rw[←HQR.o,HE.o];exact R2.o,K2.o⟩
set_option maxHeartbeats 8000000 in
theorem A5 (w:World) (s:LB):Calls Tryz.prog 58 #[.string (BA s)] w fun x w'=>x= .returned (.bool (dD s))∧w'=w:=by
 by_cases h0:s=[125]
 ·have HB:Hid (dD s=true):=jd (by rw[h0];decide)
  have f0:(BA s==(⟨#[125]⟩:ByteArray))=true:=by rw[h0];exact(bR [125] [125]).trans (by decide)
  have e0:(s==[125])=true:=by rw[h0];decide
  clear h0
  go_enter Tryz.func58,Tryz.ntmps58
  go_wp2_with fail
  go_ret
  exact⟨by rw[HB.o];rfl,rfl⟩
 have f0:(BA s==(⟨#[125]⟩:ByteArray))=false:=(bR s [125]).trans (by simpa using h0)
 have e0:(s==[125])=false:=by simpa using h0
 by_cases h1:s=[116,104,101,110]
 ·have HB:Hid (dD s=true):=jd (by rw[h1];decide)
  have f1:(BA s==(⟨#[116,104,101,110]⟩:ByteArray))=true:=by rw[h1];exact(bR [116,104,101,110] [116,104,101,110]).trans (by decide)
  have e1:(s==[116,104,101,110])=true:=by rw[h1];decide
  clear h1
  go_enter Tryz.func58,Tryz.ntmps58
  go_wp2_with fail
  go_ret
  exact⟨by rw[HB.o];rfl,rfl⟩
 have f1:(BA s==(⟨#[116,104,101,110]⟩:ByteArray))=false:=(bR s [116,104,101,110]).trans (by simpa using h1)
 have e1:(s==[116,104,101,110])=false:=by simpa using h1
 by_cases h2:s=[101,108,105,102]
 ·have HB:Hid (dD s=true):=jd (by rw[h2];decide)
  have f2:(BA s==(⟨#[101,108,105,102]⟩:ByteArray))=true:=by rw[h2];exact(bR [101,108,105,102] [101,108,105,102]).trans (by decide)
  have e2:(s==[101,108,105,102])=true:=by rw[h2];decide
  clear h2
  go_enter Tryz.func58,Tryz.ntmps58
  go_wp2_with fail
  go_ret
  exact⟨by rw[HB.o];rfl,rfl⟩
 have f2:(BA s==(⟨#[101,108,105,102]⟩:ByteArray))=false:=(bR s [101,108,105,102]).trans (by simpa using h2)
 have e2:(s==[101,108,105,102])=false:=by simpa using h2
 by_cases h3:s=[101,108,115,101]
 ·have HB:Hid (dD s=true):=jd (by rw[h3];decide)
  have f3:(BA s==(⟨#[101,108,115,101]⟩:ByteArray))=true:=by rw[h3];exact(bR [101,108,115,101] [101,108,115,101]).trans (by decide)
  have e3:(s==[101,108,115,101])=true:=by rw[h3];decide
  clear h3
  go_enter Tryz.func58,Tryz.ntmps58
  go_wp2_with fail
  go_ret
  exact⟨by rw[HB.o];rfl,rfl⟩
 have f3:(BA s==(⟨#[101,108,115,101]⟩:ByteArray))=false:=(bR s [101,108,115,101]).trans (by simpa using h3)
 have e3:(s==[101,108,115,101])=false:=by simpa using h3
 by_cases h4:s=[102,105]
 ·have HB:Hid (dD s=true):=jd (by rw[h4];decide)
  have f4:(BA s==(⟨#[102,105]⟩:ByteArray))=true:=by rw[h4];exact(bR [102,105] [102,105]).trans (by decide)
  have e4:(s==[102,105])=true:=by rw[h4];decide
  clear h4
  go_enter Tryz.func58,Tryz.ntmps58
  go_wp2_with fail
  go_ret
  exact⟨by rw[HB.o];rfl,rfl⟩
 have f4:(BA s==(⟨#[102,105]⟩:ByteArray))=false:=(bR s [102,105]).trans (by simpa using h4)
 have e4:(s==[102,105])=false:=by simpa using h4
 by_cases h5:s=[100,111]
 ·have HB:Hid (dD s=true):=jd (by rw[h5];decide)
  have f5:(BA s==(⟨#[100,111]⟩:ByteArray))=true:=by rw[h5];exact(bR [100,111] [100,111]).trans (by decide)
  have e5:(s==[100,111])=true:=by rw[h5];decide
  clear h5
  go_enter Tryz.func58,Tryz.ntmps58
  go_wp2_with fail
  go_ret
  exact⟨by rw[HB.o];rfl,rfl⟩
 have f5:(BA s==(⟨#[100,111]⟩:ByteArray))=false:=(bR s [100,111]).trans (by simpa using h5)
 have e5:(s==[100,111])=false:=by simpa using h5
 by_cases h6:s=[100,111,110,101]
 ·have HB:Hid (dD s=true):=jd (by rw[h6];decide)
  have f6:(BA s==(⟨#[100,111,110,101]⟩:ByteArray))=true:=by rw[h6];exact(bR [100,111,110,101] [100,111,110,101]).trans (by decide)
  have e6:(s==[100,111,110,101])=true:=by rw[h6];decide
  clear h6
  go_enter Tryz.func58,Tryz.ntmps58
  go_wp2_with fail
  go_ret
  exact⟨by rw[HB.o];rfl,rfl⟩
 have f6:(BA s==(⟨#[100,111,110,101]⟩:ByteArray))=false:=(bR s [100,111,110,101]).trans (by simpa using h6)
 have e6:(s==[100,111,110,101])=false:=by simpa using h6
 have HB:Hid (dD s=false):=jd (by unfold dD;simp[eO,bN,cK,df,rFi,rDo,bM,-List.cons.injEq,h0,h1,h2,h3,h4,h5,h6])
 clear h0 h1 h2 h3 h4 h5 h6
 go_enter Tryz.func58,Tryz.ntmps58
 go_wp2_with fail
 go_ret
 exact⟨by rw[HB.o];rfl,rfl⟩
theorem yp {p:Ps} (h:ai p≠1):aG p=[]:=by
 obtain⟨r,e⟩:=p
 cases r with
 |nil=>rfl
 |cons t r=>
  have h':¬t.kind=1:=h
  unfold aG
  simp[h']
theorem Db {t:Tk} {r:List Tk} {e:Nat} (h:cX t.text=false):aG ⟨t::r,e⟩=[]:=by
 unfold aG
 simp[h]
theorem Cm {t:Tk} {r:List Tk} {e:Nat} (hk:t.kind=1) (h:cX t.text=true):aG ⟨t::r,e⟩=t.text:=by
 unfold aG
 simp[h,hk]
set_option maxHeartbeats 16000000 in
theorem ib (T:TT) (w:World) (g d:Nat) (p:Ps) (h:RP T w g d p) (hE:bW w):
  Calls Tryz.prog 59 #[.pointer (some ⟨g,0,none⟩)] w fun x w'=>x= .returned (.string (BA (aG p)))∧Kept (fun _=>False) w w':=by
 have HP:=jd h;have HE:=jd hE
 obtain⟨at_,hd,hr⟩:=h
 have HR:=jd hr
 have hs:=hr.short;have hle:=hr.le;have hlt:=hr.lt
 obtain⟨N,hN⟩:∃N,T.L.length=N:=⟨_,rfl⟩
 rw[hN] at hs hle
 have HN:=jd hN
 by_cases hk:ai p=1
 ·obtain⟨r,e⟩:=p
  cases r with
  |nil=>cases hk
  |cons t r=>
   obtain⟨ha,ht,_⟩:=cZ hd
   have ha':at_<N:=by rw[←hN];exact ha
   have hkt:t.kind=1:=hk
   obtain⟨b,off,e1,t0,t1,tl⟩:=iV hr.tok ht
   have HAD:=jd e1;have HT1:=jd t1
   obtain⟨p,hp⟩:∃p,(⟨t::r,e⟩:Ps)=p:=⟨_,rfl⟩
   have hkp:ai p=1:=by rw[←hp];exact hk
   rw[hp] at HP
   obtain⟨rb,hrb⟩:∃rb,cX t.text=rb:=⟨_,rfl⟩
   have HKP:=jd hkp
   have HRV:Hid (aG p=if rb then t.text else[]):=jd (by
    rw[←hp]
    cases rb with
    |true=>exact Cm hkt hrb
    |false=>exact Db hrb)
   have HRB:=jd hrb
   obtain⟨tx,htx⟩:∃tx,t.text=tx:=⟨_,rfl⟩
   rw[htx] at HRB HRV HT1
   rw[hp]
   clear hd hr hN hk ha ht e1 t0 t1 hp hkp hrb htx hkt
   go_enter Tryz.func59,Tryz.ntmps59
   go_wp2_with fail
   refine bE 17 [stV (.pointer (some ⟨g,0,none⟩)),stV (.int .i64 ((1:Nat):Int)),stV (.bool false),stV (.bool false),stV (.pointer (some ⟨g,0,none⟩)),stV (.pointer (some ⟨g,0,none⟩)),stV (.pointer (some ⟨g,0,none⟩)),stV (.slice (some ⟨b,off,none⟩) N T.c),stV (.pointer (some ⟨g,0,none⟩)),stV (.pointer (some ⟨g,0,none⟩)),stV (.pointer (some ⟨g,1,none⟩)),stV (.int .i64 (at_:Int)),stV (.pointer (some ⟨b,off+at_*3,none⟩)),stV (.pointer (some ⟨b,off+at_*3+1,none⟩)),stV (.string (BA tx)),stV (.bool rb),stV (.bool (!rb))] (by kernel_rfl) (by kernel_rfl) ?_ ?_
   ·refine ae (fun a' w' hI hag hf K hK=>?_) ?_
    ·have s0:=hag.same 0 (by decide)
     clear hag
     go_wp2_with fail
     exact hK _ _ hI (Ja _ _) rfl
    refine ae (fun a' w' hI hag hf K hK=>?_) ?_
    ·obtain⟨⟨_,h0,rfl⟩,-⟩:ay _ _ a' w' [0]:=hf
     clear hag
     go_wp2_with fail
     refine(cT T _ g d p (HP.o.ag hI)).mono ?_
     rintro e wn ⟨rfl,hkn⟩
     rw[HKP.o]
     go_wp2_with fail
     exact hK _ _ (hI.trans hkn (fun _ _ h=>h)) hkn rfl
    iterate 13
     refine ae (fun a' w' hI hag hf K hK=>?_) ?_
     ·obtain⟨⟨_,h0,rfl⟩,⟨_,h1,rfl⟩,⟨_,h2,rfl⟩,-⟩:=hf
      have s0:=hag.same 0 (by decide)
      clear hag
      have RX:=HR.o.ag hI
      obtain⟨⟨c0,c1,c2,c3⟩,-⟩:=RX.cells
      rw[HN.o] at c0
      clear RX
      rw[HAD.o] at c0
      have RX:=HR.o.ag hI
      obtain⟨⟨c0,c1,c2,c3⟩,-⟩:=RX.cells
      rw[HN.o] at c0
      clear RX
      have tt:=hI.cell HT1.o (fun h=>h)
      go_wp2_with fail
      exact hK _ _ hI (Ja _ _) rfl
    refine ae (fun a' w' hI hag hf K hK=>?_) ?_
    ·obtain⟨⟨_,h14,rfl⟩,⟨_,h3,rfl⟩,-⟩:ay _ _ a' w' [14,3]:=hf
     clear hag
     go_wp2_with fail
     refine(pK _ tx (HE.o.ag hI)).mono ?_
     rintro e wn ⟨rfl,hwn⟩
     obtain rfl:=hwn.symm
     rw[HRB.o]
     go_wp2_with fail
     exact hK _ _ hI (Ja _ _) rfl
    refine ae (fun a' w' hI hag hf K hK=>?_) ?_
    ·obtain⟨⟨_,h0,rfl⟩,⟨_,h1,rfl⟩,-⟩:=hf
     clear hag
     go_wp2_with fail
     exact hK _ _ hI (Ja _ _) rfl
    exact trivial
   ·intro vs wz hI hvs
    simp only[pzz,aL,Act.put,Nat.reduceAdd,spv (hvs 0 _ _ rfl rfl) rfl,spv (hvs 1 _ _ rfl rfl) rfl,spv (hvs 2 _ _ rfl rfl) rfl,spv (hvs 3 _ _ rfl rfl) rfl,spv (hvs 4 _ _ rfl rfl) rfl,spv (hvs 5 _ _ rfl rfl) rfl,spv (hvs 6 _ _ rfl rfl) rfl,spv (hvs 7 _ _ rfl rfl) rfl,spv (hvs 8 _ _ rfl rfl) rfl,spv (hvs 9 _ _ rfl rfl) rfl,spv (hvs 10 _ _ rfl rfl) rfl,spv (hvs 11 _ _ rfl rfl) rfl,spv (hvs 12 _ _ rfl rfl) rfl,spv (hvs 13 _ _ rfl rfl) rfl,spv (hvs 14 _ _ rfl rfl) rfl,spv (hvs 15 _ _ rfl rfl) rfl,spv (hvs 16 _ _ rfl rfl) rfl]
    clear hvs
    have KZ:=jd hI
    clear hI
    cases rb with
    |false=>
     go_wp2_with fail
     go_ret
     exact⟨by rw[HRV.o];rfl,KZ.o⟩
    |true=>
     obtain⟨wy,rfl⟩:∃wy:World,wy=wz:=⟨_,rfl⟩
     have HR0:=jd HR.o
     replace HR:=jd (HR.o.ag KZ.o)
     replace HT1:=jd (KZ.o.cell HT1.o (fun h=>h))
     go_wp2_with fail
     refine bE 11 [stV (.pointer (some ⟨g,0,none⟩)),stV (.pointer (some ⟨g,0,none⟩)),stV (.pointer (some ⟨g,0,none⟩)),stV (.slice (some ⟨b,off,none⟩) N T.c),stV (.pointer (some ⟨g,0,none⟩)),stV (.pointer (some ⟨g,0,none⟩)),stV (.pointer (some ⟨g,1,none⟩)),stV (.int .i64 (at_:Int)),stV (.pointer (some ⟨b,off+at_*3,none⟩)),stV (.pointer (some ⟨b,off+at_*3+1,none⟩)),stV (.string (BA tx))] (by kernel_rfl) (by kernel_rfl) ?_ ?_
     ·iterate 11
       refine ae (fun a' w' hI hag hf K hK=>?_) ?_
       ·obtain⟨⟨_,h0,rfl⟩,⟨_,h1,rfl⟩,-⟩:=hf
        have s0:=hag.same 0 (by decide)
        clear hag
        have RX:=HR.o.ag hI
        obtain⟨⟨c0,c1,c2,c3⟩,-⟩:=RX.cells
        rw[HN.o] at c0
        clear RX
        rw[HAD.o] at c0
        have RX:=HR.o.ag hI
        obtain⟨⟨c0,c1,c2,c3⟩,-⟩:=RX.cells
        rw[HN.o] at c0
        clear RX
        have tt:=hI.cell HT1.o (fun h=>h)
        go_wp2_with fail
        exact hK _ _ hI (Ja _ _) rfl
      exact trivial
     ·intro vs wq hI hvs
      simp only[pzz,aL,Act.put,Nat.reduceAdd,spv (hvs 0 _ _ rfl rfl) rfl,spv (hvs 1 _ _ rfl rfl) rfl,spv (hvs 2 _ _ rfl rfl) rfl,spv (hvs 3 _ _ rfl rfl) rfl,spv (hvs 4 _ _ rfl rfl) rfl,spv (hvs 5 _ _ rfl rfl) rfl,spv (hvs 6 _ _ rfl rfl) rfl,spv (hvs 7 _ _ rfl rfl) rfl,spv (hvs 8 _ _ rfl rfl) rfl,spv (hvs 9 _ _ rfl rfl) rfl,spv (hvs 10 _ _ rfl rfl) rfl]
      clear hvs
      have KQ:=jd hI
      clear hI
      go_wp2_with fail
      go_ret
      exact⟨by rw[HRV.o];rfl,KZ.o.trans KQ.o (fun _ _ h=>h)⟩
 ·have HKV:=jd (yp hk)
  have hne:((ai p:Int) !=1)=true:=by simp[bne];omega
  have hne2:(ai p !=1)=true:=by simp[bne];exact hk
  obtain⟨kp,hkp⟩:∃kp,ai p=kp:=⟨_,rfl⟩
  have HKP:=jd hkp
  rw[hkp] at hne hne2
  clear hd hr hN hk hkp
  go_enter Tryz.func59,Tryz.ntmps59
  go_wp2_with fail
  refine bE 17 [stV (.pointer (some ⟨g,0,none⟩)),stV (.int .i64 (kp:Int)),stV (.bool true),stV (.bool true),stV undef,stV undef,stV undef,stV undef,stV undef,stV undef,stV undef,stV undef,stV undef,stV undef,stV undef,stV undef,stV undef] (by kernel_rfl) (by kernel_rfl) ?_ ?_
  ·refine ae (fun a' w' hI hag hf K hK=>?_) ?_
   ·have s0:=hag.same 0 (by decide)
    clear hag
    go_wp2_with fail
    exact hK _ _ hI (Ja _ _) rfl
   refine ae (fun a' w' hI hag hf K hK=>?_) ?_
   ·obtain⟨⟨_,h0,rfl⟩,-⟩:ay _ _ a' w' [0]:=hf
    clear hag
    go_wp2_with fail
    refine(cT T _ g d p (HP.o.ag hI)).mono ?_
    rintro e wn ⟨rfl,hkn⟩
    rw[HKP.o]
    go_wp2_with fail
    exact hK _ _ (hI.trans hkn (fun _ _ h=>h)) hkn rfl
   iterate 15
    refine ae (fun a' w' hI hag hf K hK=>?_) ?_
    ·obtain⟨⟨_,h0,rfl⟩,⟨_,h1,rfl⟩,⟨_,h2,rfl⟩,-⟩:=hf
     have s0:=hag.same 0 (by decide)
     clear hag
     go_wp2_with fail
     exact hK _ _ hI (Ja _ _) rfl
   exact trivial
  ·intro vs wz hI hvs
   simp only[pzz,aL,Act.put,Nat.reduceAdd,spv (hvs 0 _ _ rfl rfl) rfl,spv (hvs 1 _ _ rfl rfl) rfl,spv (hvs 2 _ _ rfl rfl) rfl,spv (hvs 3 _ _ rfl rfl) rfl,spv (hvs 4 _ _ rfl rfl) rfl,spv (hvs 5 _ _ rfl rfl) rfl,spv (hvs 6 _ _ rfl rfl) rfl,spv (hvs 7 _ _ rfl rfl) rfl,spv (hvs 8 _ _ rfl rfl) rfl,spv (hvs 9 _ _ rfl rfl) rfl,spv (hvs 10 _ _ rfl rfl) rfl,spv (hvs 11 _ _ rfl rfl) rfl,spv (hvs 12 _ _ rfl rfl) rfl,spv (hvs 13 _ _ rfl rfl) rfl,spv (hvs 14 _ _ rfl rfl) rfl,spv (hvs 15 _ _ rfl rfl) rfl,spv (hvs 16 _ _ rfl rfl) rfl]
   clear hvs
   have KZ:=jd hI
   clear hI
   go_wp2_with fail
   go_ret
   exact⟨by rw[HKV.o];rfl,KZ.o⟩
end Go.Proofs.YtgigdlhcjahejaaGreatDoor
