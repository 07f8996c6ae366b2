/- Of the proof of ParseKnown: ParG, ParH, ParP. -/
import Derived.Test.YtgigdlhcjahejaaGreatDoorC33
import Derived.Test.YtgigdlhcjahejaaGreatDoorC15
namespace Go.Proofs.YtgigdlhcjahejaaGreatDoor
open Go Go.RowKit Go.Lw
set_option maxRecDepth 100000
set_option linter.unusedVariables false
set_option linter.unusedSimpArgs false
attribute [local go_sem] aq
set_option maxHeartbeats 16000000 in
theorem wb (n:Nat) (HL:Hid (CJ 107 dB .block n)):CJ 109 dB .body (n+1):=by
 intro T w g d p x hx hp hE hgn ht
 rw[run] at hx
 obtain⟨y,hy,hX⟩:=Option.map_eq_some_iff.1 hx
 have HXN:Hid (x.ns=y.ns):=jd (by rw[←hX])
 have HXP:Hid (x.p=aH cy y.p):=jd (by rw[←hX])
 obtain⟨W0,hW0⟩:∃W0,w.alloc (.cells zN 27)=W0:=⟨_,rfl⟩
 have hs0:W0.heap.size=w.heap.size+1:=by rw[←hW0,World.size_alloc]
 have KA:Hid (Kept (fun _=>False) w W0):=jd (by rw[←hW0];exact(Kept.refl _ w).alloc _)
 have PA:Hid (NBx W0 w.heap.size zN):=jd (by rw[←hW0];exact heap_alloc w _)
 have HW0:=jd hW0
 have HR:=jd (eM T W0 g d p (hp.af KA.o) (hE.af KA.o) rDo (by decide))
 have hgl:=hp.lt
 have HY:=jd hy;have HE:=jd hE;have HGN:=jd hgn;have HTB:=jd ht
 clear hx hp hE hgn ht hW0 hy hX
 go_enter Tryz.func109,Tryz.ntmps109
 go_wp2_with fail
 rw[HW0.o]
 refine HR.o.mono ?_
 rintro e w1 ⟨rfl,r1,k1⟩
 have R1:=jd r1;have K1:=jd k1
 have P1:=jd (k1.heap PA.o (fun e=>by have e':w.heap.size=g:=e;omega))
 have HC:=jd (HL.o T w1 g d _ y HY.o r1 ((HE.o.af KA.o).cI k1 HGN.o) HGN.o HTB.o)
 have hz1:=k1.size
 have HZ1:Hid (w.heap.size+1≤w1.heap.size):=jd (by omega)
 clear r1 k1
 go_wp2_with fail
 refine HC.o.mono ?_
 rintro e w2 ⟨v,nd,hns,rfl,hv,r2,k2⟩
 have R2:=jd r2;have K2:=jd k2;have HNS:=jd hns
 have hz2:=k2.size
 obtain⟨vk,vb,vs,aa,an,ac,wa,wn,wc,ra,rn,rc,ka,kn,kc,rfl⟩:=hv.agg
 have HV:=jd hv
 have PR2:NBx w2 w.heap.size zN:=K2.o.heap P1.o (fun e=>by have e':w.heap.size=g:=e;omega)
 have hlt2:w.heap.size<w2.heap.size:=ah PR2
 have HPR2:=jd PR2
 have HF:=jd (fun wx (kx:Kept (fun _=>False) w2 wx)=>eM T wx g d y.p (R2.o.af kx) ((((HE.o.af KA.o).cI K1.o HGN.o).cI k2 HGN.o).af kx) cy (by decide))
 clear hv r2 k2 hns PR2
 go_wp2_with fail
 refine(HF.o _ ((Kept.refl _ w2).alloc _)).mono ?_
 rintro e w4 ⟨rfl,r4,k4⟩
 have R4:=jd r4
 have K24:Hid (Kept (fun i=>i=g) w2 w4):=jd ((((Kept.refl (fun _=>False) w2).alloc _).mono (S':=fun i=>i=g) (fun _ _ h=>h.elim)).trans k4 (fun _ _ h=>h))
 have hgw:=R2.o.lt
 have P4:NBx w4 w2.heap.size #[.int .i64 vk,.bool vb,.string (BA vs),.slice aa an ac,.slice wa wn wc,.slice ra rn rc,.slice ka kn kc]:=k4.heap (heap_alloc w2 _) (fun e=>by have e':w2.heap.size=g:=e;omega)
 have PR4:NBx w4 w.heap.size zN:=K24.o.heap HPR2.o (fun e=>by have e':w.heap.size=g:=e;omega)
 clear r4 k4
 obtain⟨⟨c0,c1,c2,c3,c4,c5,c6⟩,f0,f1,f2,f3,f4,f5,f6⟩:=NBx.cells PR4
 obtain⟨⟨e0,e1,e2,e3,e4,e5,e6⟩,-⟩:=NBx.cells P4
 have hlt4:w.heap.size<w4.heap.size:=ah PR4
 have K7:Hid (Kept (fun i=>i=w.heap.size) w4 (st7 w4 w.heap.size (.int .i64 vk) (.bool vb) (.string (BA vs)) (.slice aa an ac) (.slice wa wn wc) (.slice ra rn rc) (.slice ka kn kc))):=jd (aR (Kept.refl (fun i=>i=w.heap.size) w4) (fun _=>rfl) _ _ _ _ _ _ _)
 have B7:=jd (bg PR4 (.int .i64 vk) (.bool vb) (.string (BA vs)) (.slice aa an ac) (.slice wa wn wc) (.slice ra rn rc) (.slice ka kn kc))
 have HV4:=jd (HV.o.kept K24.o (fun b hb e=>by have e':b=g:=e;have hb':w1.heap.size≤b:=hb;have:=HZ1.o;omega))
 go_wp2_with fail
 refine bodyPost_ret (v:= .agg #[.int .i64 vk,.bool vb,.string (BA vs),.slice aa an ac,.slice wa wn wc,.slice ra rn rc,.slice ka kn kc]) ?_ rfl ?_
 ·exact results_cell_row rfl _ _ w.heap.size 27 _ (0,0) _ (by rfl) B7.o Tryz.underlying27 rfl (by kernel_rfl)
 exact bK (HXN.o.trans HNS.o) (HV4.o.mono (fun b _ hb=>by have h1:=HZ1.o;have hb':w1.heap.size≤b:=hb;omega)) (by rw[HXP.o];exact R4.o) ((((KA.o.mono (S':=fun i=>i=g) (fun _ _ h=>h.elim)).trans K1.o (fun _ _ h=>h)).trans K2.o (fun _ _ h=>h)).trans K24.o (fun _ _ h=>h)) K7.o hgl HTB.o
theorem tW {w:World} {F:Nat→Prop} {bb:Nat} {cs:Array Value} {nd:Nd} (h:w.heap[bb]? =some (.cells cs 27 (0,0))) (hv:NAt w F (.agg cs) nd) (hF:F bb):bW w F (.slice (some ⟨bb,0,none⟩) 1 1) [nd]:=by
 refine⟨[(nd,.agg cs)],rfl,?_,fun b hb=>?_,fun x hx=>by rw[List.mem_singleton.1 hx];exact hv⟩
 ·have hl:(NC (nd,.agg cs)).length=7:=hv.vc
  refine⟨by simpa using hl,_,_,rfl,Nat.le_refl _,by unfold maxLen;decide,fun j u hj=>⟨bb,0,rfl,?_⟩⟩
  rw[Nat.zero_add,au h j]
  simpa[NC,VC] using hj
 ·have e:b=bb:=fU hb
  rw[e]
  exact⟨hF,ah h⟩
set_option maxHeartbeats 16000000 in
theorem tE (n:Nat) (HL:Hid (CJ 107 dB .block n)):CJ 103 dF .group (n+1):=by
 intro T w g d p x hx hp hE hgn ht
 rw[run] at hx
 obtain⟨y,hy,hX⟩:=Option.map_eq_some_iff.1 hx
 have HXN:Hid (x.ns=[ndK 10 y.ns]):=jd (by rw[←hX])
 have HXP:Hid (x.p=aH jv y.p):=jd (by rw[←hX])
 obtain⟨W0,hW0⟩:∃W0,w.alloc (.cells zN 27)=W0:=⟨_,rfl⟩
 have hs0:W0.heap.size=w.heap.size+1:=by rw[←hW0,World.size_alloc]
 have KA:Hid (Kept (fun _=>False) w W0):=jd (by rw[←hW0];exact(Kept.refl _ w).alloc _)
 have PA:Hid (NBx W0 w.heap.size zN):=jd (by rw[←hW0];exact heap_alloc w _)
 have HW0:=jd hW0
 have HC:=jd (HL.o T W0 g d p y hy (hp.af KA.o) (hE.af KA.o) hgn ht)
 have HZ1:Hid (w.heap.size+1≤W0.heap.size):=jd (by omega)
 have hgl:=hp.lt
 have HY:=jd hy;have HE:=jd hE;have HGN:=jd hgn;have HTB:=jd ht
 clear hx hp hE hgn ht hW0 hy hX
 go_enter Tryz.func103,Tryz.ntmps103
 go_wp2_with fail
 rw[HW0.o]
 refine HC.o.mono ?_
 rintro e w2 ⟨v,nd,hns,rfl,hv,r2,k2⟩
 have R2:=jd r2;have K2:=jd k2;have HNS:=jd hns
 have hz2:=k2.size
 obtain⟨vk,vb,vs,aa,an,ac,wa,wn,wc,ra,rn,rc,ka,kn,kc,rfl⟩:=hv.agg
 have HV:=jd hv
 have PR2:NBx w2 w.heap.size zN:=K2.o.heap PA.o (fun e=>by have e':w.heap.size=g:=e;omega)
 have hlt2:w.heap.size<w2.heap.size:=ah PR2
 have HPR2:=jd PR2
 have HF:=jd (fun wx (kx:Kept (fun _=>False) w2 wx)=>eM T wx g d y.p (R2.o.af kx) (((HE.o.af KA.o).cI k2 HGN.o).af kx) jv (by decide))
 clear hv r2 k2 hns PR2
 go_wp2_with fail
 obtain⟨W3,hW3⟩:∃W3,w2.alloc (.cells #[.int .i64 vk,.bool vb,.string (BA vs),.slice aa an ac,.slice wa wn wc,.slice ra rn rc,.slice ka kn kc] 27)=W3:=⟨_,rfl⟩
 have hs3:W3.heap.size=w2.heap.size+1:=by rw[←hW3,World.size_alloc]
 have K3:Hid (Kept (fun _=>False) w2 W3):=jd (by rw[←hW3];exact(Kept.refl _ w2).alloc _)
 have L3:Hid (W3.heap[w2.heap.size]? =some (.cells #[.int .i64 vk,.bool vb,.string (BA vs),.slice aa an ac,.slice wa wn wc,.slice ra rn rc,.slice ka kn kc] 27 (0,0))):=jd (by rw[←hW3];exact heap_alloc w2 _)
 rw[hW3]
 refine(HF.o _ (K3.o.alloc _)).mono ?_
 rintro e w4 ⟨rfl,r4,k4⟩
 have R4:=jd r4
 have K34:Hid (Kept (fun i=>i=g) W3 w4):=jd ((((Kept.refl (fun _=>False) W3).alloc _).mono (S':=fun i=>i=g) (fun _ _ h=>h.elim)).trans k4 (fun _ _ h=>h))
 have K24:Hid (Kept (fun i=>i=g) w2 w4):=jd ((K3.o.mono (S':=fun i=>i=g) (fun _ _ h=>h.elim)).trans K34.o (fun _ _ h=>h))
 have hgw:=R2.o.lt
 have L4:=K34.o.heap L3.o (fun e=>by have e':w2.heap.size=g:=e;omega)
 have P4:NBx w4 (w2.heap.size+1) #[.int .i64 10,.bool false,.string ⟨#[]⟩,.slice none 0 0,.slice none 0 0,.slice none 0 0,.slice (some ⟨w2.heap.size,0,none⟩) 1 1]:=by
  rw[←hs3]
  exact k4.heap (heap_alloc W3 _) (fun e=>by have e':W3.heap.size=g:=e;omega)
 have PR4:NBx w4 w.heap.size zN:=K24.o.heap HPR2.o (fun e=>by have e':w.heap.size=g:=e;omega)
 have HL4:=jd L4
 clear r4 k4 hW3
 obtain⟨⟨c0,c1,c2,c3,c4,c5,c6⟩,f0,f1,f2,f3,f4,f5,f6⟩:=NBx.cells PR4
 obtain⟨⟨e0,e1,e2,e3,e4,e5,e6⟩,-⟩:=NBx.cells P4
 have hlt4:w.heap.size<w4.heap.size:=ah PR4
 have hne:w.heap.size≠w2.heap.size+1:=by omega
 have K7:Hid (Kept (fun i=>i=w.heap.size) w4 (st7 w4 w.heap.size (.int .i64 10) (.bool false) (.string ⟨#[]⟩) (.slice none 0 0) (.slice none 0 0) (.slice none 0 0) (.slice (some ⟨w2.heap.size,0,none⟩) 1 1))):=jd (aR (Kept.refl (fun i=>i=w.heap.size) w4) (fun _=>rfl) _ _ _ _ _ _ _)
 have B7:=jd (bg PR4 (.int .i64 10) (.bool false) (.string ⟨#[]⟩) (.slice none 0 0) (.slice none 0 0) (.slice none 0 0) (.slice (some ⟨w2.heap.size,0,none⟩) 1 1))
 have HV4:Hid (NAt w4 (fun b=>w.heap.size+1≤b) (.agg #[.int .i64 10,.bool false,.string ⟨#[]⟩,.slice none 0 0,.slice none 0 0,.slice none 0 0,.slice (some ⟨w2.heap.size,0,none⟩) 1 1]) (ndK 10 [nd])):=jd (by
  have hv4:NAt w4 (fun b=>w.heap.size+1≤b) (.agg #[.int .i64 vk,.bool vb,.string (BA vs),.slice aa an ac,.slice wa wn wc,.slice ra rn rc,.slice ka kn kc]) nd:=(HV.o.mono (fun b _ hb=>Nat.le_trans HZ1.o hb)).kept K24.o (fun b hb e=>by have e':b=g:=e;have hb':w.heap.size+1≤b:=hb;omega)
  exact NAt.shut (n:=ndK 10 [nd]) (bh.nil _ _) (bh.nil _ _) (bh.nil _ _) (tW HL4.o hv4 (by show w.heap.size+1≤w2.heap.size;omega)))
 go_wp2_with fail
 refine bodyPost_ret (v:= .agg #[.int .i64 10,.bool false,.string ⟨#[]⟩,.slice none 0 0,.slice none 0 0,.slice none 0 0,.slice (some ⟨w2.heap.size,0,none⟩) 1 1]) ?_ rfl ?_
 ·exact results_cell_row rfl _ _ w.heap.size 27 _ (0,0) _ (by rfl) B7.o Tryz.underlying27 rfl (by kernel_rfl)
 refine fG ?_ (fun nd h=>by rw[HXN.o] at h;cases h;rfl)
 exact bK (by rw[HXN.o,HNS.o]) HV4.o (by rw[HXP.o];exact R4.o) (((KA.o.mono (S':=fun i=>i=g) (fun _ _ h=>h.elim)).trans K2.o (fun _ _ h=>h)).trans K24.o (fun _ _ h=>h)) K7.o hgl HTB.o
end Go.Proofs.YtgigdlhcjahejaaGreatDoor
namespace Go.Proofs.YtgigdlhcjahejaaGreatDoor
open Go Go.RowKit Go.Lw
set_option linter.unusedVariables false
set_option linter.unusedSimpArgs false
def Job.p:Job→Ps
 |.block _ p|.list _ p|.kids _ _ p|.chain _ p|.chainL _ _ p|.pipe _ p|.pipeL _ _ p|.command _ p|.read _ _ p|.branches _ _ p|.loop _ _ p|.body _ p|.each _ p|.group _ p=>p
abbrev Ps.len (p:Ps):Nat:=p.r.length
theorem yt (p:Ps) (e:Nat):(bd p e).len≤p.len:=Nat.zero_le _
theorem dG (p:Ps):(az p).len≤p.len:=by
 show p.r.tail.length≤_
 rw[List.length_tail];exact Nat.sub_le _ _
theorem dk {p:Ps} (h:aj p≠0):(az p).len<p.len:=by
 show p.r.tail.length<p.r.length
 unfold aj at h
 split at h
 ·exact absurd rfl h
 ·rename_i t r e;rw[e];simp
theorem qU (p:Ps):(aW p).2.len≤p.len:=by
 unfold aW
 split
 ·exact dG p
 ·exact Nat.le_refl _
theorem i7 {p:Ps} (h:(aW p).1=true):(aW p).2.len<p.len:=by
 unfold aW at h⊢
 split at h
 ·rename_i e;rw[if_pos e];exact dk (by rcases e with e|e<;>rw[e]<;>decide)
 ·cases h
theorem xl {α:Type} (f:α→Bool):∀l:List α,(l.dropWhile f).length≤l.length
 |[]=>Nat.le_refl _
 |x::l=>by
  rw[List.dropWhile_cons]
  split
  ·have:=xl f l;simp;omega
  ·exact Nat.le_refl _
theorem bL (p:Ps):(aB p).len≤p.len:=xl _ _
theorem bD (s:List UInt8) (p:Ps):(aH s p).len≤p.len:=by
 unfold aH
 split
 ·exact dG p
 ·exact yt p 5
theorem gG {p:Ps} (h:aT p≠[]):aj p=1:=by
 obtain⟨r,e⟩:=p
 cases r with
 |nil=>exact absurd rfl h
 |cons t r=>
  unfold aT at h
  simp only at h
  split at h
  ·rename_i e2;exact e2.1
  ·exact absurd rfl h
theorem dI {p:Ps} (h:aT p≠[]):(az p).len<p.len:=dk (by rw[gG h];decide)
theorem rR (p:Ps):(aQ p).2.len≤p.len:=by
 obtain⟨r,e⟩:=p
 unfold aQ
 cases r with
 |nil=>exact Nat.zero_le _
 |cons t r=>
  simp only
  split
  ·split
   ·exact Nat.le_succ _
   ·exact Nat.zero_le _
  ·exact Nat.zero_le _
theorem eD {p:Ps} (h:aj p=1):(aQ p).2.len<p.len:=by
 obtain⟨r,e⟩:=p
 cases r with
 |nil=>cases h
 |cons t r=>
  have h':t.kind=1:=h
  unfold aQ
  simp only
  rw[if_pos h']
  split
  ·exact Nat.lt_succ_self _
  ·exact Nat.succ_pos _
theorem dA {p:Ps} {x:(Int×List Prt)×Ps} (h:bI p=some x):x.2.len<p.len:=by
 unfold bI at h
 split at h
 ·cases h
 ·rename_i e
  cases h
  exact Nat.lt_of_le_of_lt (rR _) (dk (by omega))
theorem mi:∀(n:Nat) (p:Ps),(bp n p).2.len≤p.len
 |0,p=>Nat.le_refl _
 |n+1,p=>by
  unfold bp
  split
  ·exact Nat.le_refl _
  ·rename_i x p' h
   exact Nat.le_trans (mi n p') (Nat.le_of_lt (dA h))
theorem kO:∀(n:Nat) (p:Ps),p.len<n→bp (n+1) p=bp n p
 |0,p,h=>by omega
 |n+1,p,h=>by
  conv=>lhs;unfold bp
  conv=>rhs;unfold bp
  cases e:bI p with
  |none=>rfl
  |some x=>
   obtain⟨x,p'⟩:=x
   have h2:p'.len<p.len:=dA e
   simp only
   rw[kO n p' (by omega)]
theorem qy (n k:Nat) (p:Ps) (h:p.len<n):bp (n+k) p=bp n p:=by
 induction k with
 |zero=>rfl
 |succ k ih=>rw[←Nat.add_assoc,kO _ p (by omega),ih]
theorem kf (p:Ps):a6 p=match bI p with
  |none=>([],p)
  |some (x,p')=>(x::(a6 p').1,(a6 p').2):=by
 conv=>lhs;unfold a6
 unfold bp
 cases e:bI p with
 |none=>rfl
 |some x=>
  obtain⟨x,p'⟩:=x
  have h2:p'.len<p.len:=dA e
  simp only
  unfold a6
  obtain⟨k,hk⟩:∃k,p.r.length=(p'.r.length+1)+k:=⟨p.r.length -(p'.r.length+1),by have:p'.r.length<p.r.length:=h2;omega⟩
  rw[hk,qy _ _ _ (Nat.lt_succ_self _)]
theorem nJ (p:Ps):(a6 p).2.len≤p.len:=mi _ _
theorem ew {m:Sm} {p:Ps} {x:Sm×Ps} (h:cb m p=some x):x.2.len<p.len:=by
 unfold cb at h
 split at h
 ·rename_i y p' e
  cases h
  exact dA e
 ·split at h
  ·cases h
  ·rename_i t r e
   have hl:r.length<p.len:=by show _<p.r.length;rw[e];simp
   split at h
   ·rename_i hk
    split at h
    ·cases h;exact hl
    ·split at h
     ·cases h;exact Nat.lt_of_le_of_lt (Nat.zero_le _) hl
     ·cases h
      exact eD (by unfold aj;rw[e];exact hk)
   ·cases h
theorem lW:∀(n:Nat) (m:Sm) (p:Ps),(aM n m p).2.len≤p.len
 |0,m,p=>Nat.le_refl _
 |n+1,m,p=>by
  unfold aM
  split
  ·exact Nat.le_refl _
  ·rename_i x h
   exact Nat.le_trans (lW n x.1 x.2) (Nat.le_of_lt (ew h))
theorem ld:∀(n:Nat) (m:Sm) (p:Ps),p.len<n→aM (n+1) m p=aM n m p
 |0,m,p,h=>by omega
 |n+1,m,p,h=>by
  conv=>lhs;unfold aM
  conv=>rhs;unfold aM
  cases e:cb m p with
  |none=>rfl
  |some x=>
   have h2:=ew e
   simp only
   exact ld n x.1 x.2 (by omega)
theorem pS (n k:Nat) (m:Sm) (p:Ps) (h:p.len<n):aM (n+k) m p=aM n m p:=by
 induction k with
 |zero=>rfl
 |succ k ih=>rw[←Nat.add_assoc,ld _ m p (by omega),ih]
theorem nM (p:Ps):(bO p).2.len≤p.len:=by
 unfold bO
 simp only
 split
 ·exact Nat.zero_le _
 ·exact lW _ _ _
theorem nS:∀(n:Nat) (p:Ps),(bF n p).2.len≤p.len
 |0,p=>Nat.le_refl _
 |n+1,p=>by
  unfold bF
  split
  ·exact Nat.le_trans (nS n _) (rR p)
  ·exact Nat.le_refl _
theorem oF (p:Ps):(dP p).2.2.len≤p.len:=by
 unfold dP
 simp only
 refine Nat.le_trans (bL _) ?_
 have h1:∀q:List UInt8×Ps,q.2.len≤p.len→(if(aW (bF ((aH rIn (aB q.2)).r.length+1) (aH rIn (aB q.2))).2).1=true then(aW (bF ((aH rIn (aB q.2)).r.length+1) (aH rIn (aB q.2))).2).2 else bd (bF ((aH rIn (aB q.2)).r.length+1) (aH rIn (aB q.2))).2 5).len≤p.len:=fun q hq=>by
  have h2:(bF ((aH rIn (aB q.2)).r.length+1) (aH rIn (aB q.2))).2.len≤p.len:=Nat.le_trans (nS _ _) (Nat.le_trans (bD _ _) (Nat.le_trans (bL _) hq))
  split
  ·exact Nat.le_trans (qU _) h2
  ·exact Nat.zero_le _
 refine h1 _ ?_
 obtain⟨r,e⟩:=p
 cases r with
 |nil=>exact Nat.le_refl _
 |cons t r=>
  simp only
  split
  ·exact Nat.le_succ _
  ·exact Nat.zero_le _
theorem dt:∀(n:Nat) (j:Job) (x:Rd9),run n j=some x→x.p.len≤j.p.len
 |0,_,_,h=>by cases h
 |n+1,j,x,h=>by
  have ih:=dt n
  cases j<;>unfold run at h
  case block d p=>
   obtain⟨y,hy,rfl⟩:=Option.map_eq_some_iff.1 h
   have h1:=ih _ _ hy
   show(if _ then _ else _:Ps).len≤p.len
   split
   ·exact Nat.le_trans h1 (bL p)
   ·exact Nat.zero_le _
  case list d p=>
   obtain⟨y,hy,rfl⟩:=Option.map_eq_some_iff.1 h
   have h1:=ih _ _ hy
   exact h1
  case kids d acc p=>
   obtain⟨y,hy,hz⟩:=Option.bind_eq_some_iff.1 h
   have h1:y.p.len≤p.len:=ih _ _ hy
   have h2:(aB (aW y.p).2).len≤p.len:=Nat.le_trans (bL _) (Nat.le_trans (qU _) h1)
   split at hz
   ·split at hz
    ·have h3:=ih _ _ hz
     exact Nat.le_trans h3 h2
    ·cases hz;exact h2
   ·cases hz;exact h1
  case chain d p=>
   obtain⟨y,hy,hz⟩:=Option.bind_eq_some_iff.1 h
   have h1:=ih _ _ hy
   have h2:=ih _ _ hz
   exact Nat.le_trans h2 h1
  case chainL d l p=>
   split at h
   ·obtain⟨y,hy,hz⟩:=Option.bind_eq_some_iff.1 h
    have h1:=ih _ _ hy
    have h2:=ih _ _ hz
    exact Nat.le_trans h2 (Nat.le_trans h1 (Nat.le_trans (bL _) (dG p)))
   ·cases h;exact Nat.le_refl _
  case pipe d p=>
   obtain⟨y,hy,rfl⟩:=Option.map_eq_some_iff.1 h
   have h1:=ih _ _ hy
   refine Nat.le_trans h1 ?_
   show(if _ then _ else _:Ps).len≤p.len
   split
   ·exact dG p
   ·exact Nat.le_refl _
  case pipeL d acc p=>
   obtain⟨y,hy,hz⟩:=Option.bind_eq_some_iff.1 h
   have h1:y.p.len≤p.len:=ih _ _ hy
   split at hz
   ·have h3:=ih _ _ hz
    exact Nat.le_trans h3 (Nat.le_trans (bL _) (Nat.le_trans (dG _) h1))
   ·cases hz;exact h1
  case command d p=>
   split at h
   ·cases h;exact nM p
   ·split at h
    ·cases h;exact Nat.zero_le _
    ·split at h
     ·cases h;exact Nat.zero_le _
     ·obtain⟨y,hy,rfl⟩:=Option.map_eq_some_iff.1 h
      have h1:=ih _ _ hy
      exact Nat.le_trans (nJ _) (Nat.le_trans h1 (dG p))
  case read d s p=>
   split at h
   ·have h1:=ih _ _ h
    exact h1
   ·split at h
    ·have h1:=ih _ _ h
     exact h1
    ·split at h
     ·have h1:=ih _ _ h
      exact h1
     ·split at h
      ·have h1:=ih _ _ h
       exact h1
      ·have h1:=ih _ _ h
       exact h1
  case branches d acc p=>
   obtain⟨y,hy,h⟩:=Option.bind_eq_some_iff.1 h
   obtain⟨z,hz,h⟩:=Option.bind_eq_some_iff.1 h
   have h7:=ih _ _ hy
   have h8:=ih _ _ hz
   have h1:z.p.len≤p.len:=Nat.le_trans h8 (Nat.le_trans (bD _ _) h7)
   split at h
   ·have h9:=ih _ _ h
    exact Nat.le_trans h9 (Nat.le_trans (dG _) h1)
   ·split at h
    ·obtain⟨u,hu,rfl⟩:=Option.map_eq_some_iff.1 h
     have h9:=ih _ _ hu
     exact Nat.le_trans (bD _ _) (Nat.le_trans h9 (Nat.le_trans (dG _) h1))
    ·cases h;exact Nat.le_trans (bD _ _) h1
  case loop d k p=>
   obtain⟨y,hy,h⟩:=Option.bind_eq_some_iff.1 h
   obtain⟨z,hz,rfl⟩:=Option.map_eq_some_iff.1 h
   have h1:=ih _ _ hy
   have h2:=ih _ _ hz
   exact Nat.le_trans h2 h1
  case body d p=>
   obtain⟨y,hy,rfl⟩:=Option.map_eq_some_iff.1 h
   have h1:=ih _ _ hy
   exact Nat.le_trans (bD _ _) (Nat.le_trans h1 (bD _ _))
  case each d p=>
   obtain⟨y,hy,rfl⟩:=Option.map_eq_some_iff.1 h
   have h1:=ih _ _ hy
   exact Nat.le_trans h1 (oF p)
  case group d p=>
   obtain⟨y,hy,rfl⟩:=Option.map_eq_some_iff.1 h
   have h1:=ih _ _ hy
   exact Nat.le_trans (bD _ _) h1
def Job.single:Job→Prop
 |.kids _ _ _|.pipeL _ _ _=>False
 |.chainL _ x _=>∃n,x=[n]
 |_=>True
def Job.many:Job→Prop
 |.kids _ _ _|.pipeL _ _ _=>True
 |_=>False
def Job.acc:Job→List Nd
 |.kids _ acc _|.pipeL _ acc _=>acc
 |_=>[]
theorem mg (k:Int) (l:List Nd):∃n,fN k l=[n]:=by
 unfold fN
 split
 ·exact⟨_,rfl⟩
 ·exact⟨_,rfl⟩
theorem bX:∀(n:Nat) (j:Job) (x:Rd9),run n j=some x→(j.single→∃nd,x.ns=[nd])∧(j.many→∃nd l,x.ns=j.acc++nd::l)
 |0,_,_,h=>by cases h
 |n+1,j,x,h=>by
  have ih:=bX n
  cases j<;>unfold run at h
  case block d p=>
   obtain⟨y,hy,rfl⟩:=Option.map_eq_some_iff.1 h
   exact⟨fun _=>(ih _ _ hy).1 trivial,fun h=>h.elim⟩
  case list d p=>
   obtain⟨y,hy,rfl⟩:=Option.map_eq_some_iff.1 h
   exact⟨fun _=>mg _ _,fun h=>h.elim⟩
  case kids d acc p=>
   obtain⟨y,hy,hz⟩:=Option.bind_eq_some_iff.1 h
   obtain⟨nd,hnd⟩:=(ih _ _ hy).1 trivial
   refine⟨fun h=>h.elim,fun _=>?_⟩
   rw[hnd] at hz
   split at hz
   ·split at hz
    ·obtain⟨m,l,e⟩:=(ih _ _ hz).2 trivial
     exact⟨nd,m::l,by rw[e];show(acc++[nd])++_=acc++_;simp⟩
    ·cases hz;exact⟨nd,[],rfl⟩
   ·cases hz;exact⟨nd,[],rfl⟩
  case chain d p=>
   obtain⟨y,hy,hz⟩:=Option.bind_eq_some_iff.1 h
   obtain⟨nd,hnd⟩:=(ih _ _ hy).1 trivial
   exact⟨fun _=>(ih _ _ hz).1 ⟨nd,hnd⟩,fun h=>h.elim⟩
  case chainL d l p=>
   refine⟨fun hs=>?_,fun h=>h.elim⟩
   split at h
   ·obtain⟨y,hy,hz⟩:=Option.bind_eq_some_iff.1 h
    exact(ih _ _ hz).1 ⟨_,rfl⟩
   ·cases h;exact hs
  case pipe d p=>
   obtain⟨y,hy,rfl⟩:=Option.map_eq_some_iff.1 h
   refine⟨fun _=>?_,fun h=>h.elim⟩
   show∃nd,(if aT p=fh then _ else _:List Nd)=[nd]
   split
   ·exact⟨_,rfl⟩
   ·exact mg _ _
  case pipeL d acc p=>
   obtain⟨y,hy,hz⟩:=Option.bind_eq_some_iff.1 h
   obtain⟨nd,hnd⟩:=(ih _ _ hy).1 trivial
   refine⟨fun h=>h.elim,fun _=>?_⟩
   rw[hnd] at hz
   split at hz
   ·obtain⟨m,l,e⟩:=(ih _ _ hz).2 trivial
    exact⟨nd,m::l,by rw[e];show(acc++[nd])++_=acc++_;simp⟩
   ·cases hz;exact⟨nd,[],rfl⟩
  case command d p=>
   refine⟨fun _=>?_,fun h=>h.elim⟩
   split at h
   ·cases h;exact⟨_,rfl⟩
   ·split at h
    ·cases h;exact⟨_,rfl⟩
    ·split at h
     ·cases h;exact⟨_,rfl⟩
     ·obtain⟨y,hy,rfl⟩:=Option.map_eq_some_iff.1 h
      obtain⟨nd,hnd⟩:=(ih _ _ hy).1 trivial
      exact⟨gz (a6 y.p).1 nd,by show List.map _ _=_;rw[hnd];rfl⟩
  case read d s p=>
   refine⟨fun _=>?_,fun h=>h.elim⟩
   split at h
   ·exact(ih _ _ h).1 trivial
   ·split at h
    ·exact(ih _ _ h).1 trivial
    ·split at h
     ·exact(ih _ _ h).1 trivial
     ·split at h
      ·exact(ih _ _ h).1 trivial
      ·exact(ih _ _ h).1 trivial
  case branches d acc p=>
   refine⟨fun _=>?_,fun h=>h.elim⟩
   obtain⟨y,hy,h⟩:=Option.bind_eq_some_iff.1 h
   obtain⟨z,hz,h⟩:=Option.bind_eq_some_iff.1 h
   split at h
   ·exact(ih _ _ h).1 trivial
   ·split at h
    ·obtain⟨u,hu,rfl⟩:=Option.map_eq_some_iff.1 h
     exact⟨_,rfl⟩
    ·cases h;exact⟨_,rfl⟩
  case loop d k p=>
   obtain⟨y,hy,h⟩:=Option.bind_eq_some_iff.1 h
   obtain⟨z,hz,rfl⟩:=Option.map_eq_some_iff.1 h
   exact⟨fun _=>⟨_,rfl⟩,fun h=>h.elim⟩
  case body d p=>
   obtain⟨y,hy,rfl⟩:=Option.map_eq_some_iff.1 h
   exact⟨fun _=>(ih _ _ hy).1 trivial,fun h=>h.elim⟩
  case each d p=>
   obtain⟨y,hy,rfl⟩:=Option.map_eq_some_iff.1 h
   exact⟨fun _=>⟨_,rfl⟩,fun h=>h.elim⟩
  case group d p=>
   obtain⟨y,hy,rfl⟩:=Option.map_eq_some_iff.1 h
   exact⟨fun _=>⟨_,rfl⟩,fun h=>h.elim⟩
def Job.yf:Job→Nat
 |.command _ _=>0
 |.pipeL _ _ _=>1
 |.pipe _ _=>2
 |.chainL _ _ _=>2
 |.chain _ _=>3
 |.kids _ _ _=>4
 |.list _ _=>5
 |.block _ _=>6
 |.group _ _=>7
 |.branches _ _ _=>7
 |.body _ _=>8
 |.loop _ _ _=>9
 |.each _ _=>9
 |.read _ _ _=>10
def Job.size (j:Job):Nat:=12*j.p.len+j.yf
theorem rO:∀(m:Nat) (j:Job),j.size<m→∃x,di j x
 |0,j,h=>by omega
 |m+1,j,h=>by
  have ih:∀j':Job,j'.size<j.size→∃x,di j' x:=fun j' hj=>rO m j' (by omega)
  have lt:∀j':Job,j'.p.len≤j.p.len→j'.yf<j.yf→∃x,di j' x:=fun j' h1 h2=>ih j' (by unfold Job.size;omega)
  have ls:∀j':Job,j'.p.len<j.p.len→∃x,di j' x:=fun j' h1=>ih j' (by
   have h2:j'.yf≤10:=by cases j'<;>simp[Job.yf]
   unfold Job.size;omega)
  cases j
  case block d p=>
   obtain⟨x,n,hx⟩:=lt (.list d (aB p)) (bL p) (by decide:(5:Nat)<6)
   exact⟨_,n+1,by rw[run,hx];rfl⟩
  case list d p=>
   obtain⟨x,n,hx⟩:=lt (.kids d [] p) (Nat.le_refl _) (by decide:(4:Nat)<5)
   exact⟨_,n+1,by rw[run,hx];rfl⟩
  case kids d acc p=>
   obtain⟨x,n,hx⟩:=lt (.chain d p) (Nat.le_refl _) (by decide:(3:Nat)<4)
   have h1:x.p.len≤p.len:=dt _ _ _ hx
   by_cases c1:(aW x.p).1=true
   ·by_cases c2:aj (aB (aW x.p).2)≠0∧gm (aT (aB (aW x.p).2))=false
    ·obtain⟨y,k,hy⟩:=ls (.kids d (acc++x.ns) (aB (aW x.p).2)) (Nat.lt_of_le_of_lt (bL _) (Nat.lt_of_lt_of_le (i7 c1) h1))
     refine⟨y,max n k+1,?_⟩
     rw[run,di.le hx (Nat.le_max_left n k)]
     show(if _ then(if _ then _ else _) else _)=_
     rw[if_pos c1,if_pos c2,di.le hy (Nat.le_max_right n k)]
    ·refine⟨⟨acc++x.ns,true,aB (aW x.p).2⟩,n+1,?_⟩
     rw[run,hx]
     show(if _ then(if _ then _ else _) else _)=_
     rw[if_pos c1,if_neg c2]
   ·refine⟨⟨acc++x.ns,false,x.p⟩,n+1,?_⟩
    rw[run,hx]
    show(if _ then _ else _)=_
    rw[if_neg c1]
  case chain d p=>
   obtain⟨x,n,hx⟩:=lt (.pipe d p) (Nat.le_refl _) (by decide:(2:Nat)<3)
   have h1:=dt _ _ _ hx
   obtain⟨y,k,hy⟩:=lt (.chainL d x.ns x.p) h1 (by decide:(2:Nat)<3)
   refine⟨y,max n k+1,?_⟩
   rw[run,di.le hx (Nat.le_max_left n k)]
   exact di.le hy (Nat.le_max_right n k)
  case chainL d l p=>
   by_cases c:aj p=4∨aj p=5
   ·have hk:aj p≠0:=by rcases c with c|c<;>rw[c]<;>decide
    obtain⟨x,n,hx⟩:=ls (.pipe d (aB (az p))) (Nat.lt_of_le_of_lt (bL _) (dk hk))
    have h1:x.p.len≤(aB (az p)).len:=dt _ _ _ hx
    obtain⟨y,k,hy⟩:=ls (.chainL d [ndK (if aj p=4 then 3 else 4) (l++x.ns)] x.p) (Nat.lt_of_le_of_lt h1 (Nat.lt_of_le_of_lt (bL _) (dk hk)))
    refine⟨y,max n k+1,?_⟩
    rw[run,if_pos c,di.le hx (Nat.le_max_left n k)]
    exact di.le hy (Nat.le_max_right n k)
   ·exact⟨_,1,by rw[run,if_neg c]⟩
  case pipe d p=>
   have h1:(if aT p=fh then az p else p).len≤p.len:=by
    split
    ·exact dG p
    ·exact Nat.le_refl _
   obtain⟨x,n,hx⟩:=lt (.pipeL d [] (if aT p=fh then az p else p)) h1 (by decide:(1:Nat)<2)
   exact⟨_,n+1,by rw[run,hx];rfl⟩
  case pipeL d acc p=>
   obtain⟨x,n,hx⟩:=lt (.command d p) (Nat.le_refl _) (by decide:(0:Nat)<1)
   have h1:x.p.len≤p.len:=dt _ _ _ hx
   by_cases c:aj x.p=6
   ·obtain⟨y,k,hy⟩:=ls (.pipeL d (acc++x.ns) (aB (az x.p))) (Nat.lt_of_le_of_lt (bL _) (Nat.lt_of_lt_of_le (dk (by rw[c];decide)) h1))
    refine⟨y,max n k+1,?_⟩
    rw[run,di.le hx (Nat.le_max_left n k)]
    show(if _ then _ else _)=_
    rw[if_pos c,di.le hy (Nat.le_max_right n k)]
   ·refine⟨⟨acc++x.ns,false,x.p⟩,n+1,?_⟩
    rw[run,hx]
    show(if _ then _ else _)=_
    rw[if_neg c]
  case command d p=>
   by_cases c1:aT p=[]
   ·exact⟨_,1,by rw[run,if_pos c1]⟩
   ·by_cases c2:lU (aT p)=false
    ·exact⟨_,1,by rw[run,if_neg c1,if_pos c2]⟩
    ·by_cases c3:16≤d
     ·exact⟨_,1,by rw[run,if_neg c1,if_neg c2,if_pos c3]⟩
     ·obtain⟨x,n,hx⟩:=ls (.read (d+1) (aT p) (az p)) (dI c1)
      exact⟨_,n+1,by rw[run,if_neg c1,if_neg c2,if_neg c3,hx];rfl⟩
  case read d s p=>
   by_cases c1:s=rIf
   ·obtain⟨x,n,hx⟩:=lt (.branches d [] p) (Nat.le_refl _) (by decide:(7:Nat)<10)
    exact⟨x,n+1,by rw[run,if_pos c1,hx]⟩
   ·by_cases c2:s=ee
    ·obtain⟨x,n,hx⟩:=lt (.loop d 7 p) (Nat.le_refl _) (by decide:(9:Nat)<10)
     exact⟨x,n+1,by rw[run,if_neg c1,if_pos c2,hx]⟩
    ·by_cases c3:s=dZ
     ·obtain⟨x,n,hx⟩:=lt (.loop d 8 p) (Nat.le_refl _) (by decide:(9:Nat)<10)
      exact⟨x,n+1,by rw[run,if_neg c1,if_neg c2,if_pos c3,hx]⟩
     ·by_cases c4:s=iv
      ·obtain⟨x,n,hx⟩:=lt (.each d p) (Nat.le_refl _) (by decide:(9:Nat)<10)
       exact⟨x,n+1,by rw[run,if_neg c1,if_neg c2,if_neg c3,if_pos c4,hx]⟩
      ·obtain⟨x,n,hx⟩:=lt (.group d p) (Nat.le_refl _) (by decide:(7:Nat)<10)
       exact⟨x,n+1,by rw[run,if_neg c1,if_neg c2,if_neg c3,if_neg c4,hx]⟩
  case branches d acc p=>
   obtain⟨x,n,hx⟩:=lt (.block d p) (Nat.le_refl _) (by decide:(6:Nat)<7)
   have h1:(aH eB x.p).len≤p.len:=Nat.le_trans (bD _ _) (dt _ _ _ hx)
   obtain⟨y,k,hy⟩:=lt (.block d (aH eB x.p)) h1 (by decide:(6:Nat)<7)
   have h2:y.p.len≤p.len:=Nat.le_trans (dt _ _ _ hy) h1
   by_cases c1:aT y.p=dU
   ·obtain⟨z,i,hz⟩:=ls (.branches d (acc++x.ns++y.ns) (az y.p)) (Nat.lt_of_lt_of_le (dI (by rw[c1];decide)) h2)
    refine⟨z,max (max n k) i+1,?_⟩
    rw[run,di.le hx (by omega)]
    show Option.bind (run _ _) _=_
    rw[di.le hy (by omega)]
    show(if _ then _ else _)=_
    rw[if_pos c1,di.le hz (by omega)]
   ·by_cases c2:aT y.p=et
    ·obtain⟨z,i,hz⟩:=ls (.block d (az y.p)) (Nat.lt_of_lt_of_le (dI (by rw[c2];decide)) h2)
     refine⟨⟨[ndK 6 (acc++x.ns++y.ns++z.ns)],false,aH rFi z.p⟩,max (max n k) i+1,?_⟩
     rw[run,di.le hx (by omega)]
     show Option.bind (run _ _) _=_
     rw[di.le hy (by omega)]
     show(if _ then _ else(if _ then _ else _))=_
     rw[if_neg c1,if_pos c2,di.le hz (by omega)]
     rfl
    ·refine⟨⟨[ndK 6 (acc++x.ns++y.ns)],false,aH rFi y.p⟩,max n k+1,?_⟩
     rw[run,di.le hx (by omega)]
     show Option.bind (run _ _) _=_
     rw[di.le hy (by omega)]
     show(if _ then _ else(if _ then _ else _))=_
     rw[if_neg c1,if_neg c2]
  case loop d k p=>
   obtain⟨x,n,hx⟩:=lt (.block d p) (Nat.le_refl _) (by decide:(6:Nat)<9)
   have h1:=dt _ _ _ hx
   obtain⟨y,i,hy⟩:=lt (.body d x.p) h1 (by decide:(8:Nat)<9)
   refine⟨⟨[ndK k (x.ns++y.ns)],false,y.p⟩,max n i+1,?_⟩
   rw[run,di.le hx (Nat.le_max_left n i)]
   show Option.map _ (run _ _)=_
   rw[di.le hy (Nat.le_max_right n i)]
   rfl
  case body d p=>
   obtain⟨x,n,hx⟩:=lt (.block d (aH rDo p)) (bD _ p) (by decide:(6:Nat)<8)
   exact⟨_,n+1,by rw[run,hx];rfl⟩
  case each d p=>
   obtain⟨x,n,hx⟩:=lt (.body d (dP p).2.2) (oF p) (by decide:(8:Nat)<9)
   exact⟨_,n+1,by rw[run,hx];rfl⟩
  case group d p=>
   obtain⟨x,n,hx⟩:=lt (.block d p) (Nat.le_refl _) (by decide:(6:Nat)<7)
   exact⟨_,n+1,by rw[run,hx];rfl⟩
theorem yI (j:Job):∃x,di j x:=rO (j.size+1) j (Nat.lt_succ_self _)
end Go.Proofs.YtgigdlhcjahejaaGreatDoor
