/- Of the proof of ParseBreaks: ParG, ParH, ParP. -/
import Derived.Test.YtgigdlhcjahejaaGreatDoorD30
import Derived.Test.YtgigdlhcjahejaaGreatDoorD14
namespace Go.Proofs.YtgigdlhcjahejaaGreatDoor
open Go Go.RowKit Go.Lw
set_option maxRecDepth 100000
set_option linter.unusedVariables false
set_option linter.unusedSimpArgs false
attribute [local go_sem] av
set_option maxHeartbeats 16000000 in
theorem yP (n:Nat) (HL:Hid (CJ 107 dQ .block n)):CJ 109 dQ .body (n+1):=by
 intro T w g d p x hx hp hE hgn ht
 rw[run] at hx
 obtain⟨y,hy,hX⟩:=Option.map_eq_some_iff.1 hx
 have HXN:Hid (x.ns=y.ns):=jd (by rw[←hX])
 have HXP:Hid (x.p=ay ct y.p):=jd (by rw[←hX])
 obtain⟨W0,hW0⟩:∃W0,w.alloc (.cells zN 27)=W0:=⟨_,rfl⟩
 have hs0:W0.heap.size=w.heap.size+1:=by rw[←hW0,World.size_alloc]
 have KA:Hid (Kept (fun _=>False) w W0):=jd (by rw[←hW0];exact(Kept.refl _ w).alloc _)
 have PA:Hid (NBx W0 w.heap.size zN):=jd (by rw[←hW0];exact heap_alloc w _)
 have HW0:=jd hW0
 have HR:=jd (ft T W0 g d p (hp.ah KA.o) (hE.ah KA.o) rDo (by decide))
 have hgl:=hp.lt
 have HY:=jd hy;have HE:=jd hE;have HGN:=jd hgn;have HTB:=jd ht
 clear hx hp hE hgn ht hW0 hy hX
 go_enter Tryz.func109,Tryz.ntmps109
 go_wp2_with fail
 rw[HW0.o]
 refine HR.o.mono ?_
 rintro e w1 ⟨rfl,r1,k1⟩
 have R1:=jd r1;have K1:=jd k1
 have P1:=jd (k1.heap PA.o (fun e=>by have e':w.heap.size=g:=e;omega))
 have HC:=jd (HL.o T w1 g d _ y HY.o r1 ((HE.o.ah KA.o).cX k1 HGN.o) HGN.o HTB.o)
 have hz1:=k1.size
 have HZ1:Hid (w.heap.size+1≤w1.heap.size):=jd (by omega)
 clear r1 k1
 go_wp2_with fail
 refine HC.o.mono ?_
 rintro e w2 ⟨v,nd,hns,rfl,hv,r2,k2⟩
 have R2:=jd r2;have K2:=jd k2;have HNS:=jd hns
 have hz2:=k2.size
 obtain⟨vk,vb,vs,aa,an,ac,wa,wn,wc,ra,rn,rc,ka,kn,kc,rfl⟩:=hv.agg
 have HV:=jd hv
 have PR2:NBx w2 w.heap.size zN:=K2.o.heap P1.o (fun e=>by have e':w.heap.size=g:=e;omega)
 have hlt2:w.heap.size<w2.heap.size:=aj PR2
 have HPR2:=jd PR2
 have HF:=jd (fun wx (kx:Kept (fun _=>False) w2 wx)=>ft T wx g d y.p (R2.o.ah kx) ((((HE.o.ah KA.o).cX K1.o HGN.o).cX k2 HGN.o).ah kx) ct (by decide))
 clear hv r2 k2 hns PR2
 go_wp2_with fail
 refine(HF.o _ ((Kept.refl _ w2).alloc _)).mono ?_
 rintro e w4 ⟨rfl,r4,k4⟩
 have R4:=jd r4
 have K24:Hid (Kept (fun i=>i=g) w2 w4):=jd ((((Kept.refl (fun _=>False) w2).alloc _).mono (S':=fun i=>i=g) (fun _ _ h=>h.elim)).trans k4 (fun _ _ h=>h))
 have hgw:=R2.o.lt
 have P4:NBx w4 w2.heap.size #[.int .i64 vk,.bool vb,.string (BA vs),.slice aa an ac,.slice wa wn wc,.slice ra rn rc,.slice ka kn kc]:=k4.heap (heap_alloc w2 _) (fun e=>by have e':w2.heap.size=g:=e;omega)
 have PR4:NBx w4 w.heap.size zN:=K24.o.heap HPR2.o (fun e=>by have e':w.heap.size=g:=e;omega)
 clear r4 k4
 obtain⟨⟨c0,c1,c2,c3,c4,c5,c6⟩,f0,f1,f2,f3,f4,f5,f6⟩:=NBx.cells PR4
 obtain⟨⟨e0,e1,e2,e3,e4,e5,e6⟩,-⟩:=NBx.cells P4
 have hlt4:w.heap.size<w4.heap.size:=aj PR4
 have K7:Hid (Kept (fun i=>i=w.heap.size) w4 (st7 w4 w.heap.size (.int .i64 vk) (.bool vb) (.string (BA vs)) (.slice aa an ac) (.slice wa wn wc) (.slice ra rn rc) (.slice ka kn kc))):=jd (bd (Kept.refl (fun i=>i=w.heap.size) w4) (fun _=>rfl) _ _ _ _ _ _ _)
 have B7:=jd (bG PR4 (.int .i64 vk) (.bool vb) (.string (BA vs)) (.slice aa an ac) (.slice wa wn wc) (.slice ra rn rc) (.slice ka kn kc))
 have HV4:=jd (HV.o.kept K24.o (fun b hb e=>by have e':b=g:=e;have hb':w1.heap.size≤b:=hb;have:=HZ1.o;omega))
 go_wp2_with fail
 refine bodyPost_ret (v:= .agg #[.int .i64 vk,.bool vb,.string (BA vs),.slice aa an ac,.slice wa wn wc,.slice ra rn rc,.slice ka kn kc]) ?_ rfl ?_
 ·exact results_cell_row rfl _ _ w.heap.size 27 _ (0,0) _ (by rfl) B7.o Tryz.underlying27 rfl (by kernel_rfl)
 exact bY (HXN.o.trans HNS.o) (HV4.o.mono (fun b _ hb=>by have h1:=HZ1.o;have hb':w1.heap.size≤b:=hb;omega)) (by rw[HXP.o];exact R4.o) ((((KA.o.mono (S':=fun i=>i=g) (fun _ _ h=>h.elim)).trans K1.o (fun _ _ h=>h)).trans K2.o (fun _ _ h=>h)).trans K24.o (fun _ _ h=>h)) K7.o hgl HTB.o
theorem wH {w:World} {F:Nat→Prop} {bb:Nat} {cs:Array Value} {nd:Nd} (h:w.heap[bb]? =some (.cells cs 27 (0,0))) (hv:NAt w F (.agg cs) nd) (hF:F bb):cy w F (.slice (some ⟨bb,0,none⟩) 1 1) [nd]:=by
 refine⟨[(nd,.agg cs)],rfl,?_,fun b hb=>?_,fun x hx=>by rw[List.mem_singleton.1 hx];exact hv⟩
 ·have hl:(NC (nd,.agg cs)).length=7:=hv.vc
  refine⟨by simpa using hl,_,_,rfl,Nat.le_refl _,by unfold maxLen;decide,fun j u hj=>⟨bb,0,rfl,?_⟩⟩
  rw[Nat.zero_add,au h j]
  simpa[NC,VC] using hj
 ·have e:b=bb:=gH hb
  rw[e]
  exact⟨hF,aj h⟩
set_option maxHeartbeats 16000000 in
theorem wj (n:Nat) (HL:Hid (CJ 107 dQ .block n)):CJ 103 ef .group (n+1):=by
 intro T w g d p x hx hp hE hgn ht
 rw[run] at hx
 obtain⟨y,hy,hX⟩:=Option.map_eq_some_iff.1 hx
 have HXN:Hid (x.ns=[ndK 10 y.ns]):=jd (by rw[←hX])
 have HXP:Hid (x.p=ay gA y.p):=jd (by rw[←hX])
 obtain⟨W0,hW0⟩:∃W0,w.alloc (.cells zN 27)=W0:=⟨_,rfl⟩
 have hs0:W0.heap.size=w.heap.size+1:=by rw[←hW0,World.size_alloc]
 have KA:Hid (Kept (fun _=>False) w W0):=jd (by rw[←hW0];exact(Kept.refl _ w).alloc _)
 have PA:Hid (NBx W0 w.heap.size zN):=jd (by rw[←hW0];exact heap_alloc w _)
 have HW0:=jd hW0
 have HC:=jd (HL.o T W0 g d p y hy (hp.ah KA.o) (hE.ah KA.o) hgn ht)
 have HZ1:Hid (w.heap.size+1≤W0.heap.size):=jd (by omega)
 have hgl:=hp.lt
 have HY:=jd hy;have HE:=jd hE;have HGN:=jd hgn;have HTB:=jd ht
 clear hx hp hE hgn ht hW0 hy hX
 go_enter Tryz.func103,Tryz.ntmps103
 go_wp2_with fail
 rw[HW0.o]
 refine HC.o.mono ?_
 rintro e w2 ⟨v,nd,hns,rfl,hv,r2,k2⟩
 have R2:=jd r2;have K2:=jd k2;have HNS:=jd hns
 have hz2:=k2.size
 obtain⟨vk,vb,vs,aa,an,ac,wa,wn,wc,ra,rn,rc,ka,kn,kc,rfl⟩:=hv.agg
 have HV:=jd hv
 have PR2:NBx w2 w.heap.size zN:=K2.o.heap PA.o (fun e=>by have e':w.heap.size=g:=e;omega)
 have hlt2:w.heap.size<w2.heap.size:=aj PR2
 have HPR2:=jd PR2
 have HF:=jd (fun wx (kx:Kept (fun _=>False) w2 wx)=>ft T wx g d y.p (R2.o.ah kx) (((HE.o.ah KA.o).cX k2 HGN.o).ah kx) gA (by decide))
 clear hv r2 k2 hns PR2
 go_wp2_with fail
 obtain⟨W3,hW3⟩:∃W3,w2.alloc (.cells #[.int .i64 vk,.bool vb,.string (BA vs),.slice aa an ac,.slice wa wn wc,.slice ra rn rc,.slice ka kn kc] 27)=W3:=⟨_,rfl⟩
 have hs3:W3.heap.size=w2.heap.size+1:=by rw[←hW3,World.size_alloc]
 have K3:Hid (Kept (fun _=>False) w2 W3):=jd (by rw[←hW3];exact(Kept.refl _ w2).alloc _)
 have L3:Hid (W3.heap[w2.heap.size]? =some (.cells #[.int .i64 vk,.bool vb,.string (BA vs),.slice aa an ac,.slice wa wn wc,.slice ra rn rc,.slice ka kn kc] 27 (0,0))):=jd (by rw[←hW3];exact heap_alloc w2 _)
 rw[hW3]
 refine(HF.o _ (K3.o.alloc _)).mono ?_
 rintro e w4 ⟨rfl,r4,k4⟩
 have R4:=jd r4
 have K34:Hid (Kept (fun i=>i=g) W3 w4):=jd ((((Kept.refl (fun _=>False) W3).alloc _).mono (S':=fun i=>i=g) (fun _ _ h=>h.elim)).trans k4 (fun _ _ h=>h))
 have K24:Hid (Kept (fun i=>i=g) w2 w4):=jd ((K3.o.mono (S':=fun i=>i=g) (fun _ _ h=>h.elim)).trans K34.o (fun _ _ h=>h))
 have hgw:=R2.o.lt
 have L4:=K34.o.heap L3.o (fun e=>by have e':w2.heap.size=g:=e;omega)
 have P4:NBx w4 (w2.heap.size+1) #[.int .i64 10,.bool false,.string ⟨#[]⟩,.slice none 0 0,.slice none 0 0,.slice none 0 0,.slice (some ⟨w2.heap.size,0,none⟩) 1 1]:=by
  rw[←hs3]
  exact k4.heap (heap_alloc W3 _) (fun e=>by have e':W3.heap.size=g:=e;omega)
 have PR4:NBx w4 w.heap.size zN:=K24.o.heap HPR2.o (fun e=>by have e':w.heap.size=g:=e;omega)
 have HL4:=jd L4
 clear r4 k4 hW3
 obtain⟨⟨c0,c1,c2,c3,c4,c5,c6⟩,f0,f1,f2,f3,f4,f5,f6⟩:=NBx.cells PR4
 obtain⟨⟨e0,e1,e2,e3,e4,e5,e6⟩,-⟩:=NBx.cells P4
 have hlt4:w.heap.size<w4.heap.size:=aj PR4
 have hne:w.heap.size≠w2.heap.size+1:=by omega
 have K7:Hid (Kept (fun i=>i=w.heap.size) w4 (st7 w4 w.heap.size (.int .i64 10) (.bool false) (.string ⟨#[]⟩) (.slice none 0 0) (.slice none 0 0) (.slice none 0 0) (.slice (some ⟨w2.heap.size,0,none⟩) 1 1))):=jd (bd (Kept.refl (fun i=>i=w.heap.size) w4) (fun _=>rfl) _ _ _ _ _ _ _)
 have B7:=jd (bG PR4 (.int .i64 10) (.bool false) (.string ⟨#[]⟩) (.slice none 0 0) (.slice none 0 0) (.slice none 0 0) (.slice (some ⟨w2.heap.size,0,none⟩) 1 1))
 have HV4:Hid (NAt w4 (fun b=>w.heap.size+1≤b) (.agg #[.int .i64 10,.bool false,.string ⟨#[]⟩,.slice none 0 0,.slice none 0 0,.slice none 0 0,.slice (some ⟨w2.heap.size,0,none⟩) 1 1]) (ndK 10 [nd])):=jd (by
  have hv4:NAt w4 (fun b=>w.heap.size+1≤b) (.agg #[.int .i64 vk,.bool vb,.string (BA vs),.slice aa an ac,.slice wa wn wc,.slice ra rn rc,.slice ka kn kc]) nd:=(HV.o.mono (fun b _ hb=>Nat.le_trans HZ1.o hb)).kept K24.o (fun b hb e=>by have e':b=g:=e;have hb':w.heap.size+1≤b:=hb;omega)
  exact NAt.shut (n:=ndK 10 [nd]) (bO.nil _ _) (bO.nil _ _) (bO.nil _ _) (wH HL4.o hv4 (by show w.heap.size+1≤w2.heap.size;omega)))
 go_wp2_with fail
 refine bodyPost_ret (v:= .agg #[.int .i64 10,.bool false,.string ⟨#[]⟩,.slice none 0 0,.slice none 0 0,.slice none 0 0,.slice (some ⟨w2.heap.size,0,none⟩) 1 1]) ?_ rfl ?_
 ·exact results_cell_row rfl _ _ w.heap.size 27 _ (0,0) _ (by rfl) B7.o Tryz.underlying27 rfl (by kernel_rfl)
 refine gr ?_ (fun nd h=>by rw[HXN.o] at h;cases h;rfl)
 exact bY (by rw[HXN.o,HNS.o]) HV4.o (by rw[HXP.o];exact R4.o) (((KA.o.mono (S':=fun i=>i=g) (fun _ _ h=>h.elim)).trans K2.o (fun _ _ h=>h)).trans K24.o (fun _ _ h=>h)) K7.o hgl HTB.o
end Go.Proofs.YtgigdlhcjahejaaGreatDoor
namespace Go.Proofs.YtgigdlhcjahejaaGreatDoor
open Go Go.RowKit Go.Lw
set_option linter.unusedVariables false
set_option linter.unusedSimpArgs false
def Job.p:Job→Ps
 |.block _ p|.list _ p|.kids _ _ p|.chain _ p|.chainL _ _ p|.pipe _ p|.pipeL _ _ p|.command _ p|.read _ _ p|.branches _ _ p|.loop _ _ p|.body _ p|.each _ p|.group _ p=>p
abbrev Ps.len (p:Ps):Nat:=p.r.length
theorem Bn (p:Ps) (e:Nat):(aX p e).len≤p.len:=Nat.zero_le _
theorem ee (p:Ps):(aC p).len≤p.len:=by
 show p.r.tail.length≤_
 rw[List.length_tail];exact Nat.sub_le _ _
theorem dI {p:Ps} (h:af p≠0):(aC p).len<p.len:=by
 show p.r.tail.length<p.r.length
 unfold af at h
 split at h
 ·exact absurd rfl h
 ·rename_i t r e;rw[e];simp
theorem uu (p:Ps):(aE p).2.len≤p.len:=by
 unfold aE
 split
 ·exact ee p
 ·exact Nat.le_refl _
theorem jK {p:Ps} (h:(aE p).1=true):(aE p).2.len<p.len:=by
 unfold aE at h⊢
 split at h
 ·rename_i e;rw[if_pos e];exact dI (by rcases e with e|e<;>rw[e]<;>decide)
 ·cases h
theorem AS {α:Type} (f:α→Bool):∀l:List α,(l.dropWhile f).length≤l.length
 |[]=>Nat.le_refl _
 |x::l=>by
  rw[List.dropWhile_cons]
  split
  ·have:=AS f l;simp;omega
  ·exact Nat.le_refl _
theorem cd (p:Ps):(az p).len≤p.len:=AS _ _
theorem bS (s:List UInt8) (p:Ps):(ay s p).len≤p.len:=by
 unfold ay
 split
 ·exact ee p
 ·exact Bn p 5
theorem bT {p:Ps} (h:aG p≠[]):af p=1:=by
 obtain⟨r,e⟩:=p
 cases r with
 |nil=>exact absurd rfl h
 |cons t r=>
  unfold aG at h
  simp only at h
  split at h
  ·rename_i e2;exact e2.1
  ·exact absurd rfl h
theorem ev {p:Ps} (h:aG p≠[]):(aC p).len<p.len:=dI (by rw[bT h];decide)
theorem sX (p:Ps):(aL p).2.len≤p.len:=by
 obtain⟨r,e⟩:=p
 unfold aL
 cases r with
 |nil=>exact Nat.zero_le _
 |cons t r=>
  simp only
  split
  ·split
   ·exact Nat.le_succ _
   ·exact Nat.zero_le _
  ·exact Nat.zero_le _
theorem ep {p:Ps} (h:af p=1):(aL p).2.len<p.len:=by
 obtain⟨r,e⟩:=p
 cases r with
 |nil=>cases h
 |cons t r=>
  have h':t.kind=1:=h
  unfold aL
  simp only
  rw[if_pos h']
  split
  ·exact Nat.lt_succ_self _
  ·exact Nat.succ_pos _
theorem dg {p:Ps} {x:(Int×List Prt)×Ps} (h:aT p=some x):x.2.len<p.len:=by
 unfold aT at h
 split at h
 ·cases h
 ·rename_i e
  cases h
  exact Nat.lt_of_le_of_lt (sX _) (dI (by omega))
theorem nz:∀(n:Nat) (p:Ps),(aZ n p).2.len≤p.len
 |0,p=>Nat.le_refl _
 |n+1,p=>by
  unfold aZ
  split
  ·exact Nat.le_refl _
  ·rename_i x p' h
   exact Nat.le_trans (nz n p') (Nat.le_of_lt (dg h))
theorem lX:∀(n:Nat) (p:Ps),p.len<n→aZ (n+1) p=aZ n p
 |0,p,h=>by omega
 |n+1,p,h=>by
  conv=>lhs;unfold aZ
  conv=>rhs;unfold aZ
  cases e:aT p with
  |none=>rfl
  |some x=>
   obtain⟨x,p'⟩:=x
   have h2:p'.len<p.len:=dg e
   simp only
   rw[lX n p' (by omega)]
theorem rL (n k:Nat) (p:Ps) (h:p.len<n):aZ (n+k) p=aZ n p:=by
 induction k with
 |zero=>rfl
 |succ k ih=>rw[←Nat.add_assoc,lX _ p (by omega),ih]
theorem mg (p:Ps):aY p=match aT p with
  |none=>([],p)
  |some (x,p')=>(x::(aY p').1,(aY p').2):=by
 conv=>lhs;unfold aY
 unfold aZ
 cases e:aT p with
 |none=>rfl
 |some x=>
  obtain⟨x,p'⟩:=x
  have h2:p'.len<p.len:=dg e
  simp only
  unfold aY
  obtain⟨k,hk⟩:∃k,p.r.length=(p'.r.length+1)+k:=⟨p.r.length -(p'.r.length+1),by have:p'.r.length<p.r.length:=h2;omega⟩
  rw[hk,rL _ _ _ (Nat.lt_succ_self _)]
theorem pB (p:Ps):(aY p).2.len≤p.len:=nz _ _
theorem dF {m:Sm} {p:Ps} {x:Sm×Ps} (h:aQ m p=some x):x.2.len<p.len:=by
 unfold aQ at h
 split at h
 ·rename_i y p' e
  cases h
  exact dg e
 ·split at h
  ·cases h
  ·rename_i t r e
   have hl:r.length<p.len:=by show _<p.r.length;rw[e];simp
   split at h
   ·rename_i hk
    split at h
    ·cases h;exact hl
    ·split at h
     ·cases h;exact Nat.lt_of_le_of_lt (Nat.zero_le _) hl
     ·cases h
      exact ep (by unfold af;rw[e];exact hk)
   ·cases h
theorem fW:∀(n:Nat) (m:Sm) (p:Ps),(aD n m p).2.len≤p.len
 |0,m,p=>Nat.le_refl _
 |n+1,m,p=>by
  unfold aD
  split
  ·exact Nat.le_refl _
  ·rename_i x h
   exact Nat.le_trans (fW n x.1 x.2) (Nat.le_of_lt (dF h))
theorem lV:∀(n:Nat) (m:Sm) (p:Ps),p.len<n→aD (n+1) m p=aD n m p
 |0,m,p,h=>by omega
 |n+1,m,p,h=>by
  conv=>lhs;unfold aD
  conv=>rhs;unfold aD
  cases e:aQ m p with
  |none=>rfl
  |some x=>
   have h2:=dF e
   simp only
   exact lV n x.1 x.2 (by omega)
theorem rY (n k:Nat) (m:Sm) (p:Ps) (h:p.len<n):aD (n+k) m p=aD n m p:=by
 induction k with
 |zero=>rfl
 |succ k ih=>rw[←Nat.add_assoc,lV _ m p (by omega),ih]
theorem pN (p:Ps):(aV p).2.len≤p.len:=by
 unfold aV
 simp only
 split
 ·exact Nat.zero_le _
 ·exact fW _ _ _
theorem pc:∀(n:Nat) (p:Ps),(bm n p).2.len≤p.len
 |0,p=>Nat.le_refl _
 |n+1,p=>by
  unfold bm
  split
  ·exact Nat.le_trans (pc n _) (sX p)
  ·exact Nat.le_refl _
theorem oy (p:Ps):(bR p).2.2.len≤p.len:=by
 unfold bR
 simp only
 refine Nat.le_trans (cd _) ?_
 have h1:∀q:List UInt8×Ps,q.2.len≤p.len→(if(aE (bm ((ay rIn (az q.2)).r.length+1) (ay rIn (az q.2))).2).1=true then(aE (bm ((ay rIn (az q.2)).r.length+1) (ay rIn (az q.2))).2).2 else aX (bm ((ay rIn (az q.2)).r.length+1) (ay rIn (az q.2))).2 5).len≤p.len:=fun q hq=>by
  have h2:(bm ((ay rIn (az q.2)).r.length+1) (ay rIn (az q.2))).2.len≤p.len:=Nat.le_trans (pc _ _) (Nat.le_trans (bS _ _) (Nat.le_trans (cd _) hq))
  split
  ·exact Nat.le_trans (uu _) h2
  ·exact Nat.zero_le _
 refine h1 _ ?_
 obtain⟨r,e⟩:=p
 cases r with
 |nil=>exact Nat.le_refl _
 |cons t r=>
  simp only
  split
  ·exact Nat.le_succ _
  ·exact Nat.zero_le _
theorem dM:∀(n:Nat) (j:Job) (x:Rd9),run n j=some x→x.p.len≤j.p.len
 |0,_,_,h=>by cases h
 |n+1,j,x,h=>by
  have ih:=dM n
  cases j<;>unfold run at h
  case block d p=>
   obtain⟨y,hy,rfl⟩:=Option.map_eq_some_iff.1 h
   have h1:=ih _ _ hy
   show(if _ then _ else _:Ps).len≤p.len
   split
   ·exact Nat.le_trans h1 (cd p)
   ·exact Nat.zero_le _
  case list d p=>
   obtain⟨y,hy,rfl⟩:=Option.map_eq_some_iff.1 h
   have h1:=ih _ _ hy
   exact h1
  case kids d acc p=>
   obtain⟨y,hy,hz⟩:=Option.bind_eq_some_iff.1 h
   have h1:y.p.len≤p.len:=ih _ _ hy
   have h2:(az (aE y.p).2).len≤p.len:=Nat.le_trans (cd _) (Nat.le_trans (uu _) h1)
   split at hz
   ·split at hz
    ·have h3:=ih _ _ hz
     exact Nat.le_trans h3 h2
    ·cases hz;exact h2
   ·cases hz;exact h1
  case chain d p=>
   obtain⟨y,hy,hz⟩:=Option.bind_eq_some_iff.1 h
   have h1:=ih _ _ hy
   have h2:=ih _ _ hz
   exact Nat.le_trans h2 h1
  case chainL d l p=>
   split at h
   ·obtain⟨y,hy,hz⟩:=Option.bind_eq_some_iff.1 h
    have h1:=ih _ _ hy
    have h2:=ih _ _ hz
    exact Nat.le_trans h2 (Nat.le_trans h1 (Nat.le_trans (cd _) (ee p)))
   ·cases h;exact Nat.le_refl _
  case pipe d p=>
   obtain⟨y,hy,rfl⟩:=Option.map_eq_some_iff.1 h
   have h1:=ih _ _ hy
   refine Nat.le_trans h1 ?_
   show(if _ then _ else _:Ps).len≤p.len
   split
   ·exact ee p
   ·exact Nat.le_refl _
  case pipeL d acc p=>
   obtain⟨y,hy,hz⟩:=Option.bind_eq_some_iff.1 h
   have h1:y.p.len≤p.len:=ih _ _ hy
   split at hz
   ·have h3:=ih _ _ hz
    exact Nat.le_trans h3 (Nat.le_trans (cd _) (Nat.le_trans (ee _) h1))
   ·cases hz;exact h1
  case command d p=>
   split at h
   ·cases h;exact pN p
   ·split at h
    ·cases h;exact Nat.zero_le _
    ·split at h
     ·cases h;exact Nat.zero_le _
     ·obtain⟨y,hy,rfl⟩:=Option.map_eq_some_iff.1 h
      have h1:=ih _ _ hy
      exact Nat.le_trans (pB _) (Nat.le_trans h1 (ee p))
  case read d s p=>
   split at h
   ·have h1:=ih _ _ h
    exact h1
   ·split at h
    ·have h1:=ih _ _ h
     exact h1
    ·split at h
     ·have h1:=ih _ _ h
      exact h1
     ·split at h
      ·have h1:=ih _ _ h
       exact h1
      ·have h1:=ih _ _ h
       exact h1
  case branches d acc p=>
   obtain⟨y,hy,h⟩:=Option.bind_eq_some_iff.1 h
   obtain⟨z,hz,h⟩:=Option.bind_eq_some_iff.1 h
   have h7:=ih _ _ hy
   have h8:=ih _ _ hz
   have h1:z.p.len≤p.len:=Nat.le_trans h8 (Nat.le_trans (bS _ _) h7)
   split at h
   ·have h9:=ih _ _ h
    exact Nat.le_trans h9 (Nat.le_trans (ee _) h1)
   ·split at h
    ·obtain⟨u,hu,rfl⟩:=Option.map_eq_some_iff.1 h
     have h9:=ih _ _ hu
     exact Nat.le_trans (bS _ _) (Nat.le_trans h9 (Nat.le_trans (ee _) h1))
    ·cases h;exact Nat.le_trans (bS _ _) h1
  case loop d k p=>
   obtain⟨y,hy,h⟩:=Option.bind_eq_some_iff.1 h
   obtain⟨z,hz,rfl⟩:=Option.map_eq_some_iff.1 h
   have h1:=ih _ _ hy
   have h2:=ih _ _ hz
   exact Nat.le_trans h2 h1
  case body d p=>
   obtain⟨y,hy,rfl⟩:=Option.map_eq_some_iff.1 h
   have h1:=ih _ _ hy
   exact Nat.le_trans (bS _ _) (Nat.le_trans h1 (bS _ _))
  case each d p=>
   obtain⟨y,hy,rfl⟩:=Option.map_eq_some_iff.1 h
   have h1:=ih _ _ hy
   exact Nat.le_trans h1 (oy p)
  case group d p=>
   obtain⟨y,hy,rfl⟩:=Option.map_eq_some_iff.1 h
   have h1:=ih _ _ hy
   exact Nat.le_trans (bS _ _) h1
def Job.single:Job→Prop
 |.kids _ _ _|.pipeL _ _ _=>False
 |.chainL _ x _=>∃n,x=[n]
 |_=>True
def Job.many:Job→Prop
 |.kids _ _ _|.pipeL _ _ _=>True
 |_=>False
def Job.acc:Job→List Nd
 |.kids _ acc _|.pipeL _ acc _=>acc
 |_=>[]
theorem nh (k:Int) (l:List Nd):∃n,ez k l=[n]:=by
 unfold ez
 split
 ·exact⟨_,rfl⟩
 ·exact⟨_,rfl⟩
theorem cu:∀(n:Nat) (j:Job) (x:Rd9),run n j=some x→(j.single→∃nd,x.ns=[nd])∧(j.many→∃nd l,x.ns=j.acc++nd::l)
 |0,_,_,h=>by cases h
 |n+1,j,x,h=>by
  have ih:=cu n
  cases j<;>unfold run at h
  case block d p=>
   obtain⟨y,hy,rfl⟩:=Option.map_eq_some_iff.1 h
   exact⟨fun _=>(ih _ _ hy).1 trivial,fun h=>h.elim⟩
  case list d p=>
   obtain⟨y,hy,rfl⟩:=Option.map_eq_some_iff.1 h
   exact⟨fun _=>nh _ _,fun h=>h.elim⟩
  case kids d acc p=>
   obtain⟨y,hy,hz⟩:=Option.bind_eq_some_iff.1 h
   obtain⟨nd,hnd⟩:=(ih _ _ hy).1 trivial
   refine⟨fun h=>h.elim,fun _=>?_⟩
   rw[hnd] at hz
   split at hz
   ·split at hz
    ·obtain⟨m,l,e⟩:=(ih _ _ hz).2 trivial
     exact⟨nd,m::l,by rw[e];show(acc++[nd])++_=acc++_;simp⟩
    ·cases hz;exact⟨nd,[],rfl⟩
   ·cases hz;exact⟨nd,[],rfl⟩
  case chain d p=>
   obtain⟨y,hy,hz⟩:=Option.bind_eq_some_iff.1 h
   obtain⟨nd,hnd⟩:=(ih _ _ hy).1 trivial
   exact⟨fun _=>(ih _ _ hz).1 ⟨nd,hnd⟩,fun h=>h.elim⟩
  case chainL d l p=>
   refine⟨fun hs=>?_,fun h=>h.elim⟩
   split at h
   ·obtain⟨y,hy,hz⟩:=Option.bind_eq_some_iff.1 h
    exact(ih _ _ hz).1 ⟨_,rfl⟩
   ·cases h;exact hs
  case pipe d p=>
   obtain⟨y,hy,rfl⟩:=Option.map_eq_some_iff.1 h
   refine⟨fun _=>?_,fun h=>h.elim⟩
   show∃nd,(if aG p=eD then _ else _:List Nd)=[nd]
   split
   ·exact⟨_,rfl⟩
   ·exact nh _ _
  case pipeL d acc p=>
   obtain⟨y,hy,hz⟩:=Option.bind_eq_some_iff.1 h
   obtain⟨nd,hnd⟩:=(ih _ _ hy).1 trivial
   refine⟨fun h=>h.elim,fun _=>?_⟩
   rw[hnd] at hz
   split at hz
   ·obtain⟨m,l,e⟩:=(ih _ _ hz).2 trivial
    exact⟨nd,m::l,by rw[e];show(acc++[nd])++_=acc++_;simp⟩
   ·cases hz;exact⟨nd,[],rfl⟩
  case command d p=>
   refine⟨fun _=>?_,fun h=>h.elim⟩
   split at h
   ·cases h;exact⟨_,rfl⟩
   ·split at h
    ·cases h;exact⟨_,rfl⟩
    ·split at h
     ·cases h;exact⟨_,rfl⟩
     ·obtain⟨y,hy,rfl⟩:=Option.map_eq_some_iff.1 h
      obtain⟨nd,hnd⟩:=(ih _ _ hy).1 trivial
      exact⟨fM (aY y.p).1 nd,by show List.map _ _=_;rw[hnd];rfl⟩
  case read d s p=>
   refine⟨fun _=>?_,fun h=>h.elim⟩
   split at h
   ·exact(ih _ _ h).1 trivial
   ·split at h
    ·exact(ih _ _ h).1 trivial
    ·split at h
     ·exact(ih _ _ h).1 trivial
     ·split at h
      ·exact(ih _ _ h).1 trivial
      ·exact(ih _ _ h).1 trivial
  case branches d acc p=>
   refine⟨fun _=>?_,fun h=>h.elim⟩
   obtain⟨y,hy,h⟩:=Option.bind_eq_some_iff.1 h
   obtain⟨z,hz,h⟩:=Option.bind_eq_some_iff.1 h
   split at h
   ·exact(ih _ _ h).1 trivial
   ·split at h
    ·obtain⟨u,hu,rfl⟩:=Option.map_eq_some_iff.1 h
     exact⟨_,rfl⟩
    ·cases h;exact⟨_,rfl⟩
  case loop d k p=>
   obtain⟨y,hy,h⟩:=Option.bind_eq_some_iff.1 h
   obtain⟨z,hz,rfl⟩:=Option.map_eq_some_iff.1 h
   exact⟨fun _=>⟨_,rfl⟩,fun h=>h.elim⟩
  case body d p=>
   obtain⟨y,hy,rfl⟩:=Option.map_eq_some_iff.1 h
   exact⟨fun _=>(ih _ _ hy).1 trivial,fun h=>h.elim⟩
  case each d p=>
   obtain⟨y,hy,rfl⟩:=Option.map_eq_some_iff.1 h
   exact⟨fun _=>⟨_,rfl⟩,fun h=>h.elim⟩
  case group d p=>
   obtain⟨y,hy,rfl⟩:=Option.map_eq_some_iff.1 h
   exact⟨fun _=>⟨_,rfl⟩,fun h=>h.elim⟩
def Job.BF:Job→Nat
 |.command _ _=>0
 |.pipeL _ _ _=>1
 |.pipe _ _=>2
 |.chainL _ _ _=>2
 |.chain _ _=>3
 |.kids _ _ _=>4
 |.list _ _=>5
 |.block _ _=>6
 |.group _ _=>7
 |.branches _ _ _=>7
 |.body _ _=>8
 |.loop _ _ _=>9
 |.each _ _=>9
 |.read _ _ _=>10
def Job.size (j:Job):Nat:=12*j.p.len+j.BF
theorem tX:∀(m:Nat) (j:Job),j.size<m→∃x,aK j x
 |0,j,h=>by omega
 |m+1,j,h=>by
  have ih:∀j':Job,j'.size<j.size→∃x,aK j' x:=fun j' hj=>tX m j' (by omega)
  have lt:∀j':Job,j'.p.len≤j.p.len→j'.BF<j.BF→∃x,aK j' x:=fun j' h1 h2=>ih j' (by unfold Job.size;omega)
  have ls:∀j':Job,j'.p.len<j.p.len→∃x,aK j' x:=fun j' h1=>ih j' (by
   have h2:j'.BF≤10:=by cases j'<;>simp[Job.BF]
   unfold Job.size;omega)
  cases j
  case block d p=>
   obtain⟨x,n,hx⟩:=lt (.list d (az p)) (cd p) (by decide:(5:Nat)<6)
   exact⟨_,n+1,by rw[run,hx];rfl⟩
  case list d p=>
   obtain⟨x,n,hx⟩:=lt (.kids d [] p) (Nat.le_refl _) (by decide:(4:Nat)<5)
   exact⟨_,n+1,by rw[run,hx];rfl⟩
  case kids d acc p=>
   obtain⟨x,n,hx⟩:=lt (.chain d p) (Nat.le_refl _) (by decide:(3:Nat)<4)
   have h1:x.p.len≤p.len:=dM _ _ _ hx
   by_cases c1:(aE x.p).1=true
   ·by_cases c2:af (az (aE x.p).2)≠0∧ey (aG (az (aE x.p).2))=false
    ·obtain⟨y,k,hy⟩:=ls (.kids d (acc++x.ns) (az (aE x.p).2)) (Nat.lt_of_le_of_lt (cd _) (Nat.lt_of_lt_of_le (jK c1) h1))
     refine⟨y,max n k+1,?_⟩
     rw[run,aK.le hx (Nat.le_max_left n k)]
     show(if _ then(if _ then _ else _) else _)=_
     rw[if_pos c1,if_pos c2,aK.le hy (Nat.le_max_right n k)]
    ·refine⟨⟨acc++x.ns,true,az (aE x.p).2⟩,n+1,?_⟩
     rw[run,hx]
     show(if _ then(if _ then _ else _) else _)=_
     rw[if_pos c1,if_neg c2]
   ·refine⟨⟨acc++x.ns,false,x.p⟩,n+1,?_⟩
    rw[run,hx]
    show(if _ then _ else _)=_
    rw[if_neg c1]
  case chain d p=>
   obtain⟨x,n,hx⟩:=lt (.pipe d p) (Nat.le_refl _) (by decide:(2:Nat)<3)
   have h1:=dM _ _ _ hx
   obtain⟨y,k,hy⟩:=lt (.chainL d x.ns x.p) h1 (by decide:(2:Nat)<3)
   refine⟨y,max n k+1,?_⟩
   rw[run,aK.le hx (Nat.le_max_left n k)]
   exact aK.le hy (Nat.le_max_right n k)
  case chainL d l p=>
   by_cases c:af p=4∨af p=5
   ·have hk:af p≠0:=by rcases c with c|c<;>rw[c]<;>decide
    obtain⟨x,n,hx⟩:=ls (.pipe d (az (aC p))) (Nat.lt_of_le_of_lt (cd _) (dI hk))
    have h1:x.p.len≤(az (aC p)).len:=dM _ _ _ hx
    obtain⟨y,k,hy⟩:=ls (.chainL d [ndK (if af p=4 then 3 else 4) (l++x.ns)] x.p) (Nat.lt_of_le_of_lt h1 (Nat.lt_of_le_of_lt (cd _) (dI hk)))
    refine⟨y,max n k+1,?_⟩
    rw[run,if_pos c,aK.le hx (Nat.le_max_left n k)]
    exact aK.le hy (Nat.le_max_right n k)
   ·exact⟨_,1,by rw[run,if_neg c]⟩
  case pipe d p=>
   have h1:(if aG p=eD then aC p else p).len≤p.len:=by
    split
    ·exact ee p
    ·exact Nat.le_refl _
   obtain⟨x,n,hx⟩:=lt (.pipeL d [] (if aG p=eD then aC p else p)) h1 (by decide:(1:Nat)<2)
   exact⟨_,n+1,by rw[run,hx];rfl⟩
  case pipeL d acc p=>
   obtain⟨x,n,hx⟩:=lt (.command d p) (Nat.le_refl _) (by decide:(0:Nat)<1)
   have h1:x.p.len≤p.len:=dM _ _ _ hx
   by_cases c:af x.p=6
   ·obtain⟨y,k,hy⟩:=ls (.pipeL d (acc++x.ns) (az (aC x.p))) (Nat.lt_of_le_of_lt (cd _) (Nat.lt_of_lt_of_le (dI (by rw[c];decide)) h1))
    refine⟨y,max n k+1,?_⟩
    rw[run,aK.le hx (Nat.le_max_left n k)]
    show(if _ then _ else _)=_
    rw[if_pos c,aK.le hy (Nat.le_max_right n k)]
   ·refine⟨⟨acc++x.ns,false,x.p⟩,n+1,?_⟩
    rw[run,hx]
    show(if _ then _ else _)=_
    rw[if_neg c]
  case command d p=>
   by_cases c1:aG p=[]
   ·exact⟨_,1,by rw[run,if_pos c1]⟩
   ·by_cases c2:i7 (aG p)=false
    ·exact⟨_,1,by rw[run,if_neg c1,if_pos c2]⟩
    ·by_cases c3:16≤d
     ·exact⟨_,1,by rw[run,if_neg c1,if_neg c2,if_pos c3]⟩
     ·obtain⟨x,n,hx⟩:=ls (.read (d+1) (aG p) (aC p)) (ev c1)
      exact⟨_,n+1,by rw[run,if_neg c1,if_neg c2,if_neg c3,hx];rfl⟩
  case read d s p=>
   by_cases c1:s=rIf
   ·obtain⟨x,n,hx⟩:=lt (.branches d [] p) (Nat.le_refl _) (by decide:(7:Nat)<10)
    exact⟨x,n+1,by rw[run,if_pos c1,hx]⟩
   ·by_cases c2:s=ed
    ·obtain⟨x,n,hx⟩:=lt (.loop d 7 p) (Nat.le_refl _) (by decide:(9:Nat)<10)
     exact⟨x,n+1,by rw[run,if_neg c1,if_pos c2,hx]⟩
    ·by_cases c3:s=ej
     ·obtain⟨x,n,hx⟩:=lt (.loop d 8 p) (Nat.le_refl _) (by decide:(9:Nat)<10)
      exact⟨x,n+1,by rw[run,if_neg c1,if_neg c2,if_pos c3,hx]⟩
     ·by_cases c4:s=ig
      ·obtain⟨x,n,hx⟩:=lt (.each d p) (Nat.le_refl _) (by decide:(9:Nat)<10)
       exact⟨x,n+1,by rw[run,if_neg c1,if_neg c2,if_neg c3,if_pos c4,hx]⟩
      ·obtain⟨x,n,hx⟩:=lt (.group d p) (Nat.le_refl _) (by decide:(7:Nat)<10)
       exact⟨x,n+1,by rw[run,if_neg c1,if_neg c2,if_neg c3,if_neg c4,hx]⟩
  case branches d acc p=>
   obtain⟨x,n,hx⟩:=lt (.block d p) (Nat.le_refl _) (by decide:(6:Nat)<7)
   have h1:(ay dy x.p).len≤p.len:=Nat.le_trans (bS _ _) (dM _ _ _ hx)
   obtain⟨y,k,hy⟩:=lt (.block d (ay dy x.p)) h1 (by decide:(6:Nat)<7)
   have h2:y.p.len≤p.len:=Nat.le_trans (dM _ _ _ hy) h1
   by_cases c1:aG y.p=eh
   ·obtain⟨z,i,hz⟩:=ls (.branches d (acc++x.ns++y.ns) (aC y.p)) (Nat.lt_of_lt_of_le (ev (by rw[c1];decide)) h2)
    refine⟨z,max (max n k) i+1,?_⟩
    rw[run,aK.le hx (by omega)]
    show Option.bind (run _ _) _=_
    rw[aK.le hy (by omega)]
    show(if _ then _ else _)=_
    rw[if_pos c1,aK.le hz (by omega)]
   ·by_cases c2:aG y.p=eE
    ·obtain⟨z,i,hz⟩:=ls (.block d (aC y.p)) (Nat.lt_of_lt_of_le (ev (by rw[c2];decide)) h2)
     refine⟨⟨[ndK 6 (acc++x.ns++y.ns++z.ns)],false,ay rFi z.p⟩,max (max n k) i+1,?_⟩
     rw[run,aK.le hx (by omega)]
     show Option.bind (run _ _) _=_
     rw[aK.le hy (by omega)]
     show(if _ then _ else(if _ then _ else _))=_
     rw[if_neg c1,if_pos c2,aK.le hz (by omega)]
     rfl
    ·refine⟨⟨[ndK 6 (acc++x.ns++y.ns)],false,ay rFi y.p⟩,max n k+1,?_⟩
     rw[run,aK.le hx (by omega)]
     show Option.bind (run _ _) _=_
     rw[aK.le hy (by omega)]
     show(if _ then _ else(if _ then _ else _))=_
     rw[if_neg c1,if_neg c2]
  case loop d k p=>
   obtain⟨x,n,hx⟩:=lt (.block d p) (Nat.le_refl _) (by decide:(6:Nat)<9)
   have h1:=dM _ _ _ hx
   obtain⟨y,i,hy⟩:=lt (.body d x.p) h1 (by decide:(8:Nat)<9)
   refine⟨⟨[ndK k (x.ns++y.ns)],false,y.p⟩,max n i+1,?_⟩
   rw[run,aK.le hx (Nat.le_max_left n i)]
   show Option.map _ (run _ _)=_
   rw[aK.le hy (Nat.le_max_right n i)]
   rfl
  case body d p=>
   obtain⟨x,n,hx⟩:=lt (.block d (ay rDo p)) (bS _ p) (by decide:(6:Nat)<8)
   exact⟨_,n+1,by rw[run,hx];rfl⟩
  case each d p=>
   obtain⟨x,n,hx⟩:=lt (.body d (bR p).2.2) (oy p) (by decide:(8:Nat)<9)
   exact⟨_,n+1,by rw[run,hx];rfl⟩
  case group d p=>
   obtain⟨x,n,hx⟩:=lt (.block d p) (Nat.le_refl _) (by decide:(6:Nat)<7)
   exact⟨_,n+1,by rw[run,hx];rfl⟩
theorem Bv (j:Job):∃x,aK j x:=tX (j.size+1) j (Nat.lt_succ_self _)
end Go.Proofs.YtgigdlhcjahejaaGreatDoor
