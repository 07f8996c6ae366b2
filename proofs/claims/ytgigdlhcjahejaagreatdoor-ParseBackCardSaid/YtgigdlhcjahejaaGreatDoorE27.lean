/- Of the proof of ParseBack: Duo, ParE, ParF, ParG. -/
import Derived.Test.YtgigdlhcjahejaaGreatDoorE26
import Derived.Test.YtgigdlhcjahejaaGreatDoorE25
namespace Go.Lw
open Go Go.RowKit
section
variable {P:Program} {Q:Exit→Act→World→Prop}
def duS (S1 S2:Nat→Prop) (b:Nat):Prop:=S1 b∨S2 b
def gL {S1 S2:Nat→Prop} (c2:Nat) (last:cS (Kept S1)) (specs:List (cS (Kept (duS S1 S2)))) (k:Nat) (v:Value) (w:World):Prop:=if k=c2 then last.1 v w else jX specs k v w
theorem dpv {S1 S2:Nat→Prop} {c0:Nat} {last:cS (Kept S1)} {specs:List (cS (Kept (duS S1 S2)))} {k:Nat} {c v:Value} {w:World} (h:gL c0 last specs k v w) (hk:k≠c0) (e:specs[k]? =some (rV c)):v=c:=by
 unfold gL at h
 rw[if_neg hk] at h
 exact rpv h e
def kM (S1 S2:Nat→Prop) (c1 c2 j:Nat) (w w':World):Prop:=if j=c2 then Kept S2 w w' else if j=c1 then Kept S1 w w' else Kept (fun _=>False) w w'
variable {S1 S2:Nat→Prop} {c1 c2:Nat} {last:cS (Kept S1)} {specs:List (cS (Kept (duS S1 S2)))} {l:List Oper} {I:Nat→World→Prop} {a0:Act} {o:Oper} {rest:List Oper}
theorem gp (hne:c1≠c2)
  (h:∀a w,I 0 w→ed l a0 a→ay l (gL c2 last specs) a w (ee o)→∀K:Act→World→Prop,(∀v w',I 1 w'→Kept S1 w w'→jX specs c1 v w'→K (a.put o.dst v) w')→wpList P l.toArray (Exit.then K Q) [o] a w) (k:eu P Q l [c1,c2] I (kM S1 S2 c1 c2) (gL c2 last specs) a0 (c1+1) rest):eu P Q l [c1,c2] I (kM S1 S2 c1 c2) (gL c2 last specs) a0 c1 (o::rest):=
 pH 0 rfl (fun a w hI hag hf K hK=>h a w hI hag hf K (fun v w' h1 h2 h3=>hK v w' h1 (by unfold kM;rw[if_neg hne,if_pos rfl];exact h2) (by unfold gL;rw[if_neg hne];exact h3))) k
theorem gn
  (h:∀a w,I 1 w→ed l a0 a→ay l (gL c2 last specs) a w (ee o)→∀K:Act→World→Prop,(∀v w',I 2 w'→Kept S2 w w'→last.1 v w'→K (a.put o.dst v) w')→wpList P l.toArray (Exit.then K Q) [o] a w) (k:eu P Q l [c1,c2] I (kM S1 S2 c1 c2) (gL c2 last specs) a0 (c2+1) rest):eu P Q l [c1,c2] I (kM S1 S2 c1 c2) (gL c2 last specs) a0 c2 (o::rest):=
 pH 1 rfl (fun a w hI hag hf K hK=>h a w hI hag hf K (fun v w' h1 h2 h3=>hK v w' h1 (by unfold kM;rw[if_pos rfl];exact h2) (by unfold gL;rw[if_pos rfl];exact h3))) k
theorem di {j:Nat} (hn:j∉[c1,c2])
  (h:∀s a w,I s w→ed l a0 a→ay l (gL c2 last specs) a w (ee o)→∀K:Act→World→Prop,(∀v w',I s w'→Kept (fun _=>False) w w'→jX specs j v w'→K (a.put o.dst v) w')→wpList P l.toArray (Exit.then K Q) [o] a w) (k:eu P Q l [c1,c2] I (kM S1 S2 c1 c2) (gL c2 last specs) a0 (j+1) rest):eu P Q l [c1,c2] I (kM S1 S2 c1 c2) (gL c2 last specs) a0 j (o::rest):=
 have h1:j≠c1:=fun e=>hn (by simp[e])
 have h2:j≠c2:=fun e=>hn (by simp[e])
 vF hn (fun s a w hI hag hf K hK=>h s a w hI hag hf K (fun v w' e1 e2 e3=>hK v w' e1 (by unfold kM;rw[if_neg h2,if_neg h1];exact e2) (by unfold gL;rw[if_neg h2];exact e3))) k
theorem cu {j:Nat} (hn:j∉[c1,c2]) (hp:nI l 8 j c2=true)
  (h:∀s,s≤1→∀a w,I s w→ed l a0 a→ay l (gL c2 last specs) a w (ee o)→∀K:Act→World→Prop,(∀v w',I s w'→Kept (fun _=>False) w w'→jX specs j v w'→K (a.put o.dst v) w')→wpList P l.toArray (Exit.then K Q) [o] a w) (k:eu P Q l [c1,c2] I (kM S1 S2 c1 c2) (gL c2 last specs) a0 (j+1) rest):eu P Q l [c1,c2] I (kM S1 S2 c1 c2) (gL c2 last specs) a0 j (o::rest):=
 have h1:j≠c1:=fun e=>hn (by simp[e])
 have h2:j≠c2:=fun e=>hn (by simp[e])
 ⟨fun s _ hpre a w hI hag hf K hK=>by
  rw[if_neg hn] at hK
  exact h s (hpre 1 c2 rfl hp) a w hI hag hf K (fun v w' e1 e2 e3=>hK v w' e1 (by unfold kM;rw[if_neg h2,if_neg h1];exact e2) (by unfold gL;rw[if_neg h2];exact e3)),k⟩
end
section
variable {P:Program} {Q:Exit→Act→World→Prop}
set_option maxHeartbeats 2000000 in
theorem AU {l:List Oper} {a0:Act} {w0:World} (n c1 c2:Nat) (S1 S2:Nat→Prop) (I:Nat→World→Prop) (last:cS (Kept S1)) (specs:List (cS (Kept (duS S1 S2))))
  (hok:lq a0.tmps.size n [c1,c2] l=true) (h0:I 0 w0.drew)
  (hs:eu P Q (l.take n) [c1,c2] I (kM S1 S2 c1 c2) (gL c2 last specs) a0 0 (l.take n))
  (hend:∀(vs:Nat→Value) w,I 2 w→(∀k o d,(l.take n)[k]? =some o→o.dst=some d→gL c2 last specs k (vs k) w)→wpList P l.toArray Q (l.drop n) (aL vs 0 (l.take n) a0) w):wpAny P .any l.toArray Q l.toArray.size (Array.replicate l.toArray.size false) a0 w0.drew:=by
 simp only[lq,fY,Bool.and_eq_true,decide_eq_true_eq,List.all_eq_true] at hok
 obtain⟨⟨⟨⟨⟨⟨⟨⟨h0',h1⟩,h2⟩,h3⟩,h4⟩,h5⟩,h6⟩,h7⟩,h8⟩:=hok
 have hord:∀k o,l[k]? =some o→∀e∈o.after,Region.binds .any e=true→e.on<k:=fun k o hk e he hb=>by have:=iC l 0 k o h3 hk e he hb;omega
 have hbig:∀k v w w',Kept (duS S1 S2) w w'→jX specs k v w→jX specs k v w':=fun k v w w' hr h=>by
  unfold jX at*
  split
  ·rename_i p hp
   rw[hp] at h
   exact p.2 v w w' hr h
  ·trivial
 have hR:∀j k v w w',j≠k→kM S1 S2 c1 c2 j w w'→gL c2 last specs k v w→gL c2 last specs k v w':=fun j k v w w' hjk hr h=>by
  unfold kM at hr;unfold gL at*
  split at h
  ·rename_i hk
   rw[if_pos hk]
   rw[if_neg (by omega)] at hr
   split at hr
   ·exact last.2 v w w' hr h
   ·exact last.2 v w w' (hr.mono (fun _ _ h=>h.elim)) h
  ·rename_i hk
   rw[if_neg hk]
   split at hr
   ·exact hbig k v w w' (hr.mono (fun _ _ h=>.inr h)) h
   ·split at hr
    ·exact hbig k v w w' (hr.mono (fun _ _ h=>.inl h)) h
    ·exact hbig k v w w' (hr.mono (fun _ _ h=>h.elim)) h
 refine(Cd (ch:=[c1,c2]) (I:=I) (R:=kM S1 S2 c1 c2) (Φ:=gL c2 last specs) n h0' h1 h2 hR hs h6 (fun t c d hc hd D hD hdep=>pD (kv [_,_] h8 t c d hc hd) hD hdep) hord (fun j o hj ho D hD hd i hi=>?_) (nr h5) (fun a w hI ha hf=>?_) _ _ _ _ (by simp) (fun k hk=>?_) ⟨0,⟨Nat.zero_le _,fun _ _ _ h=>by omega,fun i c _ _=>?_⟩,h0⟩ ⟨rfl,fun _ _=>rfl,rfl⟩ (fun k hk=>?_) (by simp) (fun k o ho hk=>?_))
 ·have:=jy (l.drop n) n (j -n) o h4 (by rw[List.getElem?_drop,show n+(j -n)=j by omega];exact ho) D hD hd i (by omega)
  exact this
 ·obtain⟨vs,rfl,hvs⟩:=mH h1 h2 ha (fun k hk=>hf k (by rw[List.length_take] at hk;omega))
  exact hend vs w hI hvs
 ·simp[Array.getD] at hk
 ·simp[Array.getD]
 ·simp[Array.getD] at hk
 ·simp[Array.getD] at hk
theorem bO {id:Nat} {l:List Oper} {a0:Act} {w0:World} (n c1 c2:Nat) (S1 S2:Nat→Prop) (I:Nat→World→Prop) (last:cS (Kept S1)) (specs:List (cS (Kept (duS S1 S2))))
  (hm:P.follows .mixedOrders=true) (hok:lq a0.tmps.size n [c1,c2] l=true) (h0:I 0 w0.drew)
  (hs:eu P Q (l.take n) [c1,c2] I (kM S1 S2 c1 c2) (gL c2 last specs) a0 0 (l.take n))
  (hend:∀(vs:Nat→Value) w,I 2 w→(∀k o d,(l.take n)[k]? =some o→o.dst=some d→gL c2 last specs k (vs k) w)→wpList P l.toArray Q (l.drop n) (aL vs 0 (l.take n) a0) w):(Code.region id l.toArray true).wp P Q a0 w0:=by
 exact wp_region_any hm (AU n c1 c2 S1 S2 I last specs hok h0 hs hend)
end
end Go.Lw
namespace Go.Proofs.YtgigdlhcjahejaaGreatDoor
open Go Go.RowKit Go.Lw
set_option maxRecDepth 100000
set_option linter.unusedVariables false
set_option linter.unusedSimpArgs false
attribute [local go_sem] au
theorem Bl {S:Nat→Prop} {w w':World} (h:Kept S w w') {b j:Nat} (hb:¬S b) (v:Value):Kept S (w.setCell ⟨b,j,none⟩ v) (w'.setCell ⟨b,j,none⟩ v):=by
 refine⟨h.os,h.tape,h.output,?_,fun k hk hS=>?_⟩
 ·have:=h.size
  simpa[World.setCell] using this
 ·have hk':k<w.heap.size:=by simpa[World.setCell] using hk
  have e:=h.block k hk' hS
  simp only[World.setCell,Array.getElem?_modify]
  split
  ·rename_i e2
   rw[e]
  ·exact e
def GNe (g:Nat):Prop:=1≠g∧4≠g∧5≠g∧3≠g∧2≠g∧0≠g
theorem bW.dk {w w':World} {g:Nat} (h:bW w) (k:Kept (fun i=>i=g) w w') (hg:GNe g):bW w':=h.kept k hg.1 hg.2.1 hg.2.2.1 hg.2.2.2.1 hg.2.2.2.2.1
theorem de.dk {w w':World} {g:Nat} (h:de w) (k:Kept (fun i=>i=g) w w') (hg:GNe g):de w':=h.kept k hg.1 hg.2.1 hg.2.2.1
structure RdI (wr:World) (T:TT) (g d:Nat) (p1:Ps) (lo b:Nat) (cs:Array Value) (s:Nat) (w':World):Prop where
 k0:s=0→Kept (fun _=>False) wr w'
 k1:s≤1→Kept (fun i=>i=g) wr w'
 p:1≤s→RP T w' g d p1
 k:Kept (fun i=>i=g∨lo≤i) wr w'
 box:NBx w' b cs
theorem RdI.start {wr:World} {T:TT} {g d:Nat} {p1:Ps} {lo b:Nat} {cs:Array Value} (h:NBx wr b cs):RdI wr T g d p1 lo b cs 0 wr.drew:=
 ⟨fun _=>(Ja _ wr).drew,fun _=>(Ja _ wr).drew,fun h=>absurd h (by decide),(Ja _ wr).drew,((Ja (fun _=>False) wr).drew).heap h (fun h=>h)⟩
theorem RdI.call {wr w' w'':World} {T:TT} {g d:Nat} {p1:Ps} {lo b:Nat} {cs:Array Value} (h:RdI wr T g d p1 lo b cs 0 w') (hk:Kept (fun i=>i=g) w' w'') (hp:RP T w'' g d p1) (hb:b≠g):RdI wr T g d p1 lo b cs 1 w'':=
 ⟨fun h=>(by cases h),fun _=>(h.k1 (Nat.zero_le _)).trans hk (fun _ _ h=>h),fun _=>hp,h.k.trans hk (fun i _ e=>.inl e),hk.heap h.box hb⟩
theorem RdI.app {wr w' w'':World} {T:TT} {g d:Nat} {p1:Ps} {lo b:Nat} {cs:Array Value} {v:Value} (h:RdI wr T g d p1 lo b cs 1 w') (hk:Kept (blk v) w' w'') (hv:∀i,blk v i→lo≤i∧i≠b) (hg:g<lo) (ht:∀i,blk T.v i→i<lo):RdI wr T g d p1 lo b cs 2 w'':=
 ⟨fun h=>(by cases h),fun h=>absurd h (by decide),fun _=>(by
  obtain⟨a,h1,h2⟩:=h.p (Jb _)
  exact⟨a,h1,h2.kept hk (fun e=>by have:=(hv _ e).1;omega) (fun i hi e=>by have:=(hv i e).1;have:=ht i hi;omega)⟩),h.k.trans hk (fun i _ e=>.inr (hv i e).1),hk.heap h.box (fun e=>(hv _ e).2 rfl)⟩
theorem RdI.ag {wr w' w'':World} {T:TT} {g d:Nat} {p1:Ps} {lo b:Nat} {cs:Array Value} {s:Nat} (h:RdI wr T g d p1 lo b cs s w') (hk:Kept (fun _=>False) w' w''):RdI wr T g d p1 lo b cs s w'':=
 ⟨fun e=>(h.k0 e).trans hk (fun _ _ h=>h),fun e=>(h.k1 e).trans hk (fun _ _ h=>h.elim),fun e=>(h.p e).ag hk,h.k.trans hk (fun _ _ h=>h.elim),hk.heap h.box (fun h=>h)⟩
def rEl {α:Type} {At:World→(Nat→Prop)→Value→α→Prop} (hA:AtP At) (S G:Nat→Prop) (hG:∀i,G i→¬S i) (x:α):cS (Kept S):=⟨fun v w=>At w G v x,fun _ _ _ hk h=>hA.kept h hk hG⟩
def rBu {α:Type} {At:World→(Nat→Prop)→Value→α→Prop} (hA:AtP At) (B:Value→Value) (S G:Nat→Prop) (hG:∀i,G i→¬S i) (x:α):cS (Kept S):=⟨fun v w=>∃u,v=B u∧At w G u x,fun _ _ _ hk ⟨u,h1,h2⟩=>⟨u,h1,hA.kept h2 hk hG⟩⟩
def oe {α:Type} {At:World→(Nat→Prop)→Value→α→Prop} (hA:AtP At) (C:α×Value→List Value) (ty:TypeId) (S G:Nat→Prop) (hG:∀i,G i→¬S i) (x:α):cS (Kept S):=
 ⟨fun v w=>∃bb u,v= .slice (some ⟨bb,0,none⟩) 1 1∧G bb∧w.heap[bb]? =some (.cells (C (x,u)).toArray ty (0,0))∧At w G u x,fun _ _ _ hk ⟨bb,u,h1,h2,h3,h4⟩=>⟨bb,u,h1,h2,hk.heap h3 (hG bb h2),hA.kept h4 hk hG⟩⟩
theorem dB {α:Type} {C:α×Value→List Value} {w:World} {bb n:Nat} {ty:TypeId} {x:α} {u:Value} (h:w.heap[bb]? =some (.cells (C (x,u)).toArray ty (0,0))) (hn:(C (x,u)).length=n):Rd w n (.slice (some ⟨bb,0,none⟩) 1 1) 1 (C (x,u)):=by
 refine⟨by rw[hn];omega,_,_,rfl,Jb _,by unfold maxLen;omega,fun j v hj=>⟨bb,0,rfl,?_⟩⟩
 rw[Nat.zero_add,aq h j]
 simpa using hj
def gB (S:Nat→Prop) (b j:Nat) (hb:¬S b) (Pr:Value→World→Prop) (hP:∀v w w',Kept S w w'→Pr v w→Pr v w'):cS (Kept S):=
 ⟨fun v w=>Pr v (w.setCell ⟨b,j,none⟩ v),fun v w w' hk h=>hP v _ _ (Bl hk hb v) h⟩
theorem iJ {w:World} {F:Nat→Prop} {v:Value} {l:LP} (h:WAt w F v l):v.oneCell'=true:=by
 obtain⟨a,n,c,rfl⟩:=h.slice
 rfl
def tD (T:TT) (w:World) (g d lo b:Nat) (k:Int) (ng:Bool) (nm:LB) (va vw vk:Value) (al:List (LB×LP)) (ws:List LP) (rs:List (Int×LP)) (ks:List Nd) (p:Ps) (x:Ending) (w':World):Prop:=
 x= .returned (.bool (bF p).isSome)∧(∃vr' F',NB w' lo b F' k ng nm va vw vr' vk al ws (rs++((bF p).map (·.1)).toList) ks)∧RP T w' g d (((bF p).map (·.2)).getD p)∧Kept (fun i=>i=g∨lo≤i) w w'
set_option maxHeartbeats 16000000 in
theorem rQ (T:TT) (w:World) (g d lo b:Nat) (F:Nat→Prop) (k:Int) (ng:Bool) (nm:LB) (va vw vr vk:Value) (al:List (LB×LP)) (ws:List LP) (rs:List (Int×LP)) (ks:List Nd) (p:Ps)
  (h:RP T w g d p) (hE:de w) (hN:NB w lo b F k ng nm va vw vr vk al ws rs ks) (hg:g<lo) (ht:∀i,blk T.v i→i<lo) (hr9:rs.length≤100000) (hgn:GNe g):
  Calls Tryz.prog 93 #[.pointer (some ⟨g,0,none⟩),.pointer (some ⟨b,0,none⟩)] w (tD T w g d lo b k ng nm va vw vk al ws rs ks p):=by
 have HK:=jd (cT T w g d p h)
 have HP:=jd h;have HE:=jd hE;have HN:=jd hN;have HG:=jd hg;have HTB:=jd ht
 have hlob:=hN.lob
 by_cases hk:ai p<7
 ·have hrd:bF p=none:=by unfold bF;rw[if_pos hk]
  have HRD:=jd hrd
  have d1:decide ((ai p:Int)<7)=true:=Jc (by omega)
  have d2:decide (ai p<7)=true:=Jc hk
  obtain⟨kp,hkp⟩:∃kp,ai p=kp:=⟨_,rfl⟩
  rw[hkp] at d1 d2 HK
  clear hk hkp hrd h hE hN ht
  go_enter Tryz.func93,Tryz.ntmps93
  go_wp2_with fail
  refine HK.o.mono ?_
  rintro x w1 ⟨rfl,k1⟩
  have K1:=jd k1
  clear k1
  go_wp2_with fail
  go_ret
  unfold tD
  rw[HRD.o]
  exact⟨rfl,⟨vr,F,by simpa using HN.o.kept K1.o (fun _ _ h=>h)⟩,HP.o.ag K1.o,K1.o.mono (fun _ _ h=>h.elim)⟩
 ·obtain⟨at_,hd,hr⟩:=h
  obtain⟨r,e⟩:=p
  cases r with
  |nil=>exact absurd (by decide:(0:Nat)<7) hk
  |cons t r=>
   obtain⟨ha,ht0,hd2⟩:=cZ hd
   have hs:=hr.short
   have HR0:=jd hr;have HD2:=jd hd2;have HA:=jd ha
   have q1:at_≤2048:=by omega
   obtain⟨p,hp⟩:∃p,(⟨t::r,e⟩:Ps)=p:=⟨_,rfl⟩
   rw[hp] at hk HP HK⊢
   have htl:aC p=⟨r,e⟩:=by rw[←hp];rfl
   have d1:decide ((ai p:Int)<7)=false:=Jd (by omega)
   have d2:decide (ai p<7)=false:=Jd hk
   have hrd:bF p=some (((ai p:Int),(aR ⟨r,e⟩).1),(aR ⟨r,e⟩).2):=by unfold bF;rw[if_neg hk,htl]
   obtain⟨kp,hkp⟩:∃kp,ai p=kp:=⟨_,rfl⟩
   rw[hkp] at d1 d2 HK hrd
   obtain⟨wl,hwl⟩:∃wl,(aR ⟨r,e⟩).1=wl:=⟨_,rfl⟩
   obtain⟨p1,hp1⟩:∃p1,(aR ⟨r,e⟩).2=p1:=⟨_,rfl⟩
   have HWP:=jd (fun wx (hx:RP T wx g d ⟨r,e⟩) (ex:de wx)=>lF T wx g d ⟨r,e⟩ hx ex)
   rw[hwl,hp1] at HWP hrd
   have HRD:=jd hrd
   clear hk hd hr hp hkp hrd ha ht0 hd2 htl hwl hp1 hs
   go_enter Tryz.func93,Tryz.ntmps93
   go_wp2_with fail
   refine HK.o.mono ?_
   rintro x w1 ⟨rfl,k1⟩
   have K1:=jd k1
   have hr1:=HR0.o.ag k1
   obtain⟨⟨c0,c1,c2,c3⟩,f1,f2,f3⟩:=hr1.cells
   have hlt:=hr1.lt
   have HR1:=jd hr1
   have KS:Hid (Kept (fun i=>i=g) w1 (w1.setCell ⟨g,1,none⟩ (.int .i64 ((at_:Int)+1)))):=jd ((Ja (fun i=>i=g) w1).set g 1 (fun _=>rfl) _)
   have RS:Hid (RP T (w1.setCell ⟨g,1,none⟩ (.int .i64 ((at_:Int)+1))) g d ⟨r,e⟩):=jd ⟨at_+1,HD2.o,HR1.o.setAt HA.o⟩
   clear hr1 k1
   go_wp2_with fail
   obtain⟨wr,hwr⟩:∃wr,w1.setCell ⟨g,1,none⟩ (.int .i64 ((at_:Int)+1))=wr:=⟨_,rfl⟩
   rw[hwr] at KS RS
   have KW:Hid (Kept (fun i=>i=g) w wr):=jd ((K1.o.mono (S':=fun i=>i=g) (fun _ _ h=>h.elim)).trans KS.o (fun _ _ h=>h))
   have hnr:=HN.o.kept KW.o (fun i hi e=>by have e':i=g:=e;omega)
   obtain⟨ra,rcp,rfl,hrl9⟩:=hnr.rr.slice
   obtain⟨m,hm⟩:∃m,rs.length=m:=⟨_,rfl⟩
   have hbg:b≠g:=by omega
   have hgz:g<wr.heap.size:=RS.o.lt
   have hnr':=hnr
   obtain⟨ps,hps,hown,hel⟩:=hnr'.rr
   have HM:=jd hm
   rw[hm] at hown hr9 hnr
   have HOWN:=jd hown
   have HNR:=jd hnr;have HPS:=jd hps;have HEL:=jd hel
   have HER:Hid (de wr):=jd (HE.o.dk KW.o hgn)
   have hSS:∀i,wr.heap.size≤i→¬duS (fun i=>i=g) (blk (.slice ra m rcp)) i:=fun i hi e=>by
    rcases e with e|e
    ·have e':i=g:=e;omega
    ·have:=cP HOWN.o i e;omega
   have hb1:¬(b=g):=hbg
   have hPr:∀(v:Value) (wx wy:World),Kept (fun i=>i=g) wx wy→(∃F',NB wx lo b F' k ng nm va vw v vk al ws (rs++[((kp:Int),wl)]) ks)→∃F',NB wy lo b F' k ng nm va vw v vk al ws (rs++[((kp:Int),wl)]) ks:=fun v wx wy hk ⟨F',h⟩=>⟨F',h.kept hk (fun i hi e=>by have e':i=g:=e;omega)⟩
   rw[hwr]
   clear hwr hnr hnr' hps hown hel c0 c1 c2 c3 f1 f2 f3 hm
   refine bO 13 7 10 (fun i=>i=g) (blk (.slice ra m rcp)) (RdI wr T g d p1 lo b #[.int .i64 k,.bool ng,.string (BA nm),va,vw,.slice ra m rcp,vk]) (gB (fun i=>i=g) b 5 hb1 (fun v w=>∃F',NB w lo b F' k ng nm va vw v vk al ws (rs++[((kp:Int),wl)]) ks) hPr) [rV (.pointer (some ⟨b,0,none⟩)),rV (.pointer (some ⟨b,0,none⟩)),rV (.pointer (some ⟨b,0,none⟩)),rV (.pointer (some ⟨b,5,none⟩)),rV (.slice ra m rcp),rV (.int .i64 (kp:Int)),rV (.pointer (some ⟨g,0,none⟩)),rEl gi (duS (fun i=>i=g) (blk (.slice ra m rcp))) (fun i=>wr.heap.size≤i) hSS wl,rBu gi (fun u=>.agg #[.int .i64 (kp:Int),u]) (duS (fun i=>i=g) (blk (.slice ra m rcp))) (fun i=>wr.heap.size≤i) hSS wl,oe gi (fun x:LP×Value=>[.int .i64 (kp:Int),x.2]) 64 (duS (fun i=>i=g) (blk (.slice ra m rcp))) (fun i=>wr.heap.size≤i) hSS wl,rV (.bool true),rV (.pointer (some ⟨b,0,none⟩)),rV (.pointer (some ⟨b,5,none⟩))] (by kernel_rfl) (by kernel_rfl) ?_ ?_ ?_
   case refine_1=>exact RdI.start HNR.o.box
   case refine_2=>
    refine di (by decide) (fun s a' w' hI hag hf K hK=>?_) ?_
    ·have s1:=hag.same 1 (by decide)
     clear hag
     go_wp2_with fail
     exact hK _ _ hI (Ja _ _) rfl
    iterate 6
     refine cu (by decide) (by kernel_rfl) (fun s hs1 a' w' hI hag hf K hK=>?_) ?_
     ·obtain⟨⟨_,h0,rfl⟩,-⟩:=hf
      have s0:=hag.same 0 (by decide)
      have s1:=hag.same 1 (by decide)
      have s5:=hag.same 5 (by decide)
      clear hag
      obtain⟨⟨y0,y1,y2,y3,y4,y5,y6⟩,-⟩:=NBx.cells hI.box
      go_wp2_with fail
      exact hK _ _ hI (Ja _ _) rfl
    refine gp (by decide) (fun a' w' hI hag hf K hK=>?_) ?_
    ·obtain⟨⟨_,h6,rfl⟩,-⟩:ay _ _ a' w' [6]:=hf
     clear hag
     have HI:=jd hI
     have hk0:=hI.k0 rfl
     clear hI
     go_wp2_with fail
     refine(HWP.o _ (RS.o.ag hk0) (HER.o.ag hk0)).mono ?_
     rintro x w4 ⟨v,rfl,hw4,hr4,hk4⟩
     go_wp2_with fail
     exact hK _ _ (HI.o.call hk4 hr4 hbg) hk4 (hw4.mono (fun i _ hi=>lt9 hk0.size hi))
    refine cu (by decide) (by kernel_rfl) (fun s hs1 a' w' hI hag hf K hK=>?_) ?_
    ·obtain⟨⟨_,h5,rfl⟩,⟨v7,h7,e7⟩,-⟩:ay _ _ a' w' [5,7]:=hf
     clear hag
     have hw7:WAt w' (fun i=>wr.heap.size≤i) v7 wl:=e7
     obtain⟨ua,un,uc,rfl⟩:=hw7.slice
     go_wp2_with fail
     exact hK _ _ hI (Ja _ _) ⟨_,rfl,hw7⟩
    refine cu (by decide) (by kernel_rfl) (fun s hs1 a' w' hI hag hf K hK=>?_) ?_
    ·obtain⟨⟨v8,h8,e8⟩,-⟩:ay _ _ a' w' [8]:=hf
     clear hag
     obtain⟨u,rfl,hu⟩:∃u,v8= .agg #[.int .i64 (kp:Int),u]∧WAt w' (fun i=>wr.heap.size≤i) u wl:=e8
     obtain⟨ua,un,uc,rfl⟩:=hu.slice
     have hz:=hI.k.size
     go_wp2_with fail
     exact hK _ _ (hI.ag ((Ja _ _).alloc _)) ((Ja _ _).alloc _) ⟨_,_,rfl,hz,heap_alloc _ _,hu.kept ((Ja _ _).alloc _) (fun _ _ h=>h)⟩
    refine gn (fun a' w' hI hag hf K hK=>?_) ?_
    ·obtain⟨⟨_,h4,rfl⟩,⟨v9,h9,e9⟩,-⟩:ay _ _ a' w' [4,9,7]:=hf
     clear hag
     obtain⟨bb,u,rfl,hbb,hbh,hu⟩:∃bb u,v9= .slice (some ⟨bb,0,none⟩) 1 1∧wr.heap.size≤bb∧w'.heap[bb]? =some (.cells #[.int .i64 (kp:Int),u] 64 (0,0))∧WAt w' (fun i=>wr.heap.size≤i) u wl:=e9
     have hk1:=hI.k1 (Jb _)
     refine aQ rfl _ _ _ rfl ERs (.slice ra m rcp) m (ps.flatMap RC) (by simp[Act.eval,h4]) (bt hk1 HOWN.o (fun i hi e=>(HNR.o.br i hi).2.1 ?_)) _ 1 (RC (((kp:Int),wl),u)) (by simp[Act.eval,h9]) (dB (C:=RC) hbh rfl) (fun y hy=>?_) (by unfold maxLen;omega) (by omega) (fun ad9 cap9 w9 ho9 hg9 hf9=>?_)
     ·exact absurd e (by have:=(HNR.o.br i hi).1;intro e';have e2:i=g:=e';omega)
     ·simp only[RC,Jl,List.not_mem_nil,or_false] at hy
      rcases hy with rfl|rfl
      ·rfl
      ·exact iJ hu
     have hk9:Kept (blk (.slice ra m rcp)) w' w9:=(Ja _ _).grown hg9 (fun i e _=>e)
     have ho9':w9.ownsRow 0 64 2 (.slice ad9 (m+1) cap9) (rs.length+1) (ps.flatMap RC++RC (((kp:Int),wl),u)):=by rw[HM.o];exact ho9
     have hpush:=(HNR.o.pC (S:=fun i=>i=g) HPS.o HEL.o hk1 (fun i hi e=>by have e':i=g:=e;omega) (x:=((kp:Int),wl)) (u:=u) (G:=fun i=>wr.heap.size≤i) hu (fun i hi=>hi) ho9' hg9 hf9).1
     exact hK _ _ (hI.app hk9 (fun i hi=>⟨(HNR.o.br i hi).1,(HNR.o.br i hi).2.1⟩) hg HTB.o) hk9 ⟨_,hpush⟩
    refine di (by decide) (fun s a' w' hI hag hf K hK=>?_) ?_
    ·obtain⟨⟨_,h0,rfl⟩,-⟩:ay _ _ a' w' [0,1,2,3,4,5,6,7,8,9,10]:=hf
     clear hag
     go_wp2_with fail
     exact hK _ _ hI (Ja _ _) rfl
    refine di (by decide) (fun s a' w' hI hag hf K hK=>?_) ?_
    ·obtain⟨⟨_,h11,rfl⟩,-⟩:ay _ _ a' w' [11,0,1,2,3,4,5,6,7,8,9,10]:=hf
     clear hag
     go_wp2_with fail
     exact hK _ _ hI (Ja _ _) rfl
    exact trivial
   case refine_3=>
    intro vs wz hI hvs
    have q7:=hvs 7 _ _ rfl rfl
    have q8:=hvs 8 _ _ rfl rfl
    have q9:=hvs 9 _ _ rfl rfl
    have q10:(gB (fun i=>i=g) b 5 hb1 (fun v w=>∃F',NB w lo b F' k ng nm va vw v vk al ws (rs++[((kp:Int),wl)]) ks) hPr).1 (vs 10) wz:=hvs 10 _ _ rfl rfl
    simp only[pzz,aL,Act.put,Nat.reduceAdd,dpv (hvs 0 _ _ rfl rfl) (by decide) rfl,dpv (hvs 1 _ _ rfl rfl) (by decide) rfl,dpv (hvs 2 _ _ rfl rfl) (by decide) rfl,dpv (hvs 3 _ _ rfl rfl) (by decide) rfl,dpv (hvs 4 _ _ rfl rfl) (by decide) rfl,dpv (hvs 5 _ _ rfl rfl) (by decide) rfl,dpv (hvs 6 _ _ rfl rfl) (by decide) rfl,dpv (hvs 11 _ _ rfl rfl) (by decide) rfl,dpv (hvs 12 _ _ rfl rfl) (by decide) rfl]
    clear hvs
    generalize vs 7=x7 at*
    generalize vs 8=x8 at*
    generalize vs 9=x9 at*
    generalize vs 10=x10 at*
    have HI:=jd hI
    obtain⟨F',hnb⟩:∃F',NB (wz.setCell ⟨b,5,none⟩ x10) lo b F' k ng nm va vw x10 vk al ws (rs++[((kp:Int),wl)]) ks:=q10
    obtain⟨za,zn,zc,rfl⟩:∃a n c,x10= .slice a n c:=by obtain⟨a,c,e,_⟩:=hnb.rr.slice;exact⟨a,_,c,e⟩
    have HNB:=jd hnb
    obtain⟨⟨y0,y1,y2,y3,y4,y5,y6⟩,z0,z1,z2,z3,z4,z5,z6⟩:=NBx.cells hI.box
    have hblt:b<wz.heap.size:=aj hI.box
    clear hI q7 q8 q9 hnb
    go_wp2_with fail
    go_ret
    unfold tD
    rw[HRD.o]
    refine⟨rfl,⟨_,F',HNB.o⟩,?_,?_⟩
    ·obtain⟨a,h1,h2⟩:=HI.o.p (by decide)
     have kS:Kept (fun i=>i=b) wz (wz.setCell ⟨b,5,none⟩ (.slice za zn zc)):=(Ja (fun i=>i=b) wz).set b 5 (fun _=>rfl) _
     exact⟨a,h1,h2.kept kS (fun e=>hbg e.symm) (fun i hi e=>by have e':i=b:=e;have:=HTB.o i hi;omega)⟩
    ·exact((KW.o.mono (S':=fun i=>i=g∨lo≤i) (fun _ _ h=>.inl h)).trans HI.o.k (fun _ _ h=>h)).set b 5 (fun _=>.inr hlob) _
def ep (T:TT) (w:World) (g d:Nat) (x:Rd9) (e:Ending) (w':World):Prop:=
 ∃v nd,x.ns=[nd]∧e= .returned v∧NAt w' (fun b=>w.heap.size≤b) v nd∧RP T w' g d x.p∧Kept (fun b=>b=g) w w'
def et (T:TT) (w:World) (g d:Nat) (x:Rd9) (e:Ending) (w':World):Prop:=
 ∃v nd,x.ns=[nd]∧e= .returned v∧NAt w' (fun b=>w.heap.size≤b) v nd∧RP T w' g d x.p∧Kept (fun b=>b=g) w w'∧nd.rs=[]∧∃c0 c1 c2 c3 c4 c6,v= .agg #[c0,c1,c2,c3,c4,.slice none 0 0,c6]
theorem hZ {T:TT} {w w':World} {g d:Nat} {x:Rd9} {c0 c1 c2 c3 c4 c6:Value} (h:ep T w g d x (.returned (.agg #[c0,c1,c2,c3,c4,.slice none 0 0,c6])) w') (hr:∀nd,x.ns=[nd]→nd.rs=[]):et T w g d x (.returned (.agg #[c0,c1,c2,c3,c4,.slice none 0 0,c6])) w':=by
 obtain⟨v,nd,h1,h2,h3,h4,h5⟩:=h
 cases h2
 exact⟨_,nd,h1,rfl,h3,h4,h5,hr nd h1,_,_,_,_,_,_,rfl⟩
def wj (T:TT) (w:World) (g d:Nat) (x:Rd9) (e:Ending) (w':World):Prop:=
 ∃v nd,x.ns=[nd]∧e= .returned (.tuple #[v,.bool x.st])∧NAt w' (fun b=>w.heap.size≤b) v nd∧RP T w' g d x.p∧Kept (fun b=>b=g) w w'
def CJ (f:FuncId) (post:TT→World→Nat→Nat→Rd9→Ending→World→Prop) (job:Nat→Ps→Job) (n:Nat):Prop:=
 ∀(T:TT) (w:World) (g d:Nat) (p:Ps) (x:Rd9),run n (job d p)=some x→RP T w g d p→bW w→GNe g→(∀i,blk T.v i→i<g)→Calls Tryz.prog f #[.pointer (some ⟨g,0,none⟩)] w (post T w g d x)
abbrev zN:Array Value:=#[.int .i64 0,.bool false,.string ⟨#[]⟩,.slice none 0 0,.slice none 0 0,.slice none 0 0,.slice none 0 0]
theorem NAt.agg {w:World} {F:Nat→Prop} {v:Value} {n:Nd} (h:NAt w F v n):∃k b s aa an ac wa wn wc ra rn rc ka kn kc,v= .agg #[.int .i64 k,.bool b,.string (BA s),.slice aa an ac,.slice wa wn wc,.slice ra rn rc,.slice ka kn kc]:=by
 obtain⟨aa,an,ac,wa,wn,wc,ra,rn,rc,ka,kn,kc,e,_⟩:=h.opens
 exact⟨_,_,_,aa,an,ac,wa,wn,wc,ra,rn,rc,ka,kn,kc,e⟩
abbrev st7 (w:World) (b:Nat) (v0 v1 v2 v3 v4 v5 v6:Value):World:=((((((w.setCell ⟨b,0,none⟩ v0).setCell ⟨b,1,none⟩ v1).setCell ⟨b,2,none⟩ v2).setCell ⟨b,3,none⟩ v3).setCell ⟨b,4,none⟩ v4).setCell ⟨b,5,none⟩ v5).setCell ⟨b,6,none⟩ v6
theorem NBx.s0 {w:World} {b:Nat} {c0 c1 c2 c3 c4 c5 c6:Value} (h:NBx w b #[c0,c1,c2,c3,c4,c5,c6]) (v:Value):NBx (w.setCell ⟨b,0,none⟩ v) b #[v,c1,c2,c3,c4,c5,c6]:=by
 have h1:=heap_set h 0 v
 unfold NBx
 simpa using h1
theorem NBx.s1 {w:World} {b:Nat} {c0 c1 c2 c3 c4 c5 c6:Value} (h:NBx w b #[c0,c1,c2,c3,c4,c5,c6]) (v:Value):NBx (w.setCell ⟨b,1,none⟩ v) b #[c0,v,c2,c3,c4,c5,c6]:=by
 have h1:=heap_set h 1 v
 unfold NBx
 simpa using h1
theorem NBx.s2 {w:World} {b:Nat} {c0 c1 c2 c3 c4 c5 c6:Value} (h:NBx w b #[c0,c1,c2,c3,c4,c5,c6]) (v:Value):NBx (w.setCell ⟨b,2,none⟩ v) b #[c0,c1,v,c3,c4,c5,c6]:=by
 have h1:=heap_set h 2 v
 unfold NBx
 simpa using h1
theorem NBx.s3 {w:World} {b:Nat} {c0 c1 c2 c3 c4 c5 c6:Value} (h:NBx w b #[c0,c1,c2,c3,c4,c5,c6]) (v:Value):NBx (w.setCell ⟨b,3,none⟩ v) b #[c0,c1,c2,v,c4,c5,c6]:=by
 have h1:=heap_set h 3 v
 unfold NBx
 simpa using h1
theorem NBx.s4 {w:World} {b:Nat} {c0 c1 c2 c3 c4 c5 c6:Value} (h:NBx w b #[c0,c1,c2,c3,c4,c5,c6]) (v:Value):NBx (w.setCell ⟨b,4,none⟩ v) b #[c0,c1,c2,c3,v,c5,c6]:=by
 have h1:=heap_set h 4 v
 unfold NBx
 simpa using h1
theorem NBx.s5 {w:World} {b:Nat} {c0 c1 c2 c3 c4 c5 c6:Value} (h:NBx w b #[c0,c1,c2,c3,c4,c5,c6]) (v:Value):NBx (w.setCell ⟨b,5,none⟩ v) b #[c0,c1,c2,c3,c4,v,c6]:=by
 have h1:=heap_set h 5 v
 unfold NBx
 simpa using h1
theorem NBx.s6 {w:World} {b:Nat} {c0 c1 c2 c3 c4 c5 c6:Value} (h:NBx w b #[c0,c1,c2,c3,c4,c5,c6]) (v:Value):NBx (w.setCell ⟨b,6,none⟩ v) b #[c0,c1,c2,c3,c4,c5,v]:=by
 have h1:=heap_set h 6 v
 unfold NBx
 simpa using h1
theorem bH {w:World} {b:Nat} {c0 c1 c2 c3 c4 c5 c6:Value} (h:NBx w b #[c0,c1,c2,c3,c4,c5,c6]) (v0 v1 v2 v3 v4 v5 v6:Value):NBx (st7 w b v0 v1 v2 v3 v4 v5 v6) b #[v0,v1,v2,v3,v4,v5,v6]:=
 ((((((h.s0 v0).s1 v1).s2 v2).s3 v3).s4 v4).s5 v5).s6 v6
theorem aX {S:Nat→Prop} {w0 w:World} {b:Nat} (h:Kept S w0 w) (hb:b<w0.heap.size→S b) (v0 v1 v2 v3 v4 v5 v6:Value):Kept S w0 (st7 w b v0 v1 v2 v3 v4 v5 v6):=
 ((((((h.set b 0 hb v0).set b 1 hb v1).set b 2 hb v2).set b 3 hb v3).set b 4 hb v4).set b 5 hb v5).set b 6 hb v6
theorem cj {T:TT} {w wz w9:World} {g d:Nat} {x:Rd9} {v:Value} {nd:Nd} (hns:x.ns=[nd]) (hv:NAt wz (fun b=>w.heap.size+1≤b) v nd) (hp:RP T wz g d x.p) (hk:Kept (fun i=>i=g) w wz) (k9:Kept (fun i=>i=w.heap.size) wz w9) (hg:g<w.heap.size) (ht:∀i,blk T.v i→i<g):
  ep T w g d x (.returned v) w9:=by
 obtain⟨a,h1,h2⟩:=hp
 refine⟨v,nd,hns,rfl,(hv.kept k9 (fun b hb e=>by have e':b=w.heap.size:=e;have hb':w.heap.size+1≤b:=hb;omega)).mono (fun b _ hb=>Nat.le_of_succ_le hb),⟨a,h1,h2.kept k9 (fun e=>by omega) (fun i hi e=>by have:=ht i hi;have e':i=w.heap.size:=e;omega)⟩,hk.trans k9 (fun i hi e=>by have e':i=w.heap.size:=e;omega)⟩
set_option maxHeartbeats 16000000 in
theorem yl (n:Nat) (HL:Hid (CJ 27 wj .list n)):CJ 107 ep .block (n+1):=by
 intro T w g d p x hx hp hE hgn ht
 rw[run] at hx
 obtain⟨y,hy,hX⟩:=Jh.1 hx
 have HXN:Hid (x.ns=y.ns):=jd (by rw[←hX])
 have HXP:Hid (x.p=if y.st then y.p else bd y.p 5):=jd (by rw[←hX])
 obtain⟨W0,hW0⟩:∃W0,w.alloc (.cells zN 27)=W0:=⟨_,rfl⟩
 have hs0:W0.heap.size=w.heap.size+1:=by rw[←hW0,World.size_alloc]
 have KA:Hid (Kept (fun _=>False) w W0):=jd (by rw[←hW0];exact(Ja _ w).alloc _)
 have PA:Hid (NBx W0 w.heap.size zN):=jd (by rw[←hW0];exact heap_alloc w _)
 have HW0:=jd hW0
 have HR:=jd (fp T W0 g d p (hp.ag KA.o))
 have hgl:=hp.lt
 have HY:=jd hy;have HE:=jd hE;have HGN:=jd hgn;have HTB:=jd ht
 clear hx hp hE hgn ht hW0 hy hX
 go_enter Tryz.func107,Tryz.ntmps107
 go_wp2_with fail
 rw[HW0.o]
 refine HR.o.mono ?_
 rintro e w1 ⟨rfl,r1,k1⟩
 have R1:=jd r1;have K1:=jd k1
 have P1:=jd (k1.heap PA.o (fun e=>by have e':w.heap.size=g:=e;omega))
 have HC:=jd (HL.o T w1 g d _ y HY.o r1 ((HE.o.ag KA.o).dk k1 HGN.o) HGN.o HTB.o)
 have hz1:=k1.size
 have HZ1:Hid (w.heap.size+1≤w1.heap.size):=jd (by omega)
 clear r1 k1
 go_wp2_with fail
 refine HC.o.mono ?_
 rintro e w2 ⟨v,nd,hns,rfl,hv,r2,k2⟩
 have R2:=jd r2;have K2:=jd k2;have HNS:=jd hns
 have hz2:=k2.size
 obtain⟨vk,vb,vs,aa,an,ac,wa,wn,wc,ra,rn,rc,ka,kn,kc,rfl⟩:=hv.agg
 have HV:=jd hv
 obtain⟨st,hst⟩:∃st,y.st=st:=⟨_,rfl⟩
 have HST:=jd hst
 rw[hst]
 clear hv r2 k2 hns hst
 have PR2:NBx w2 w.heap.size zN:=K2.o.heap P1.o (fun e=>by have e':w.heap.size=g:=e;omega)
 obtain⟨⟨c0,c1,c2,c3,c4,c5,c6⟩,f0,f1,f2,f3,f4,f5,f6⟩:=NBx.cells PR2
 have hlt2:w.heap.size<w2.heap.size:=aj PR2
 cases st with
 |true=>
  have K7:Hid (Kept (fun i=>i=w.heap.size) w2 (st7 w2 w.heap.size (.int .i64 vk) (.bool vb) (.string (BA vs)) (.slice aa an ac) (.slice wa wn wc) (.slice ra rn rc) (.slice ka kn kc))):=jd (aX (Ja (fun i=>i=w.heap.size) w2) (fun _=>rfl) _ _ _ _ _ _ _)
  have B7:=jd (bH PR2 (.int .i64 vk) (.bool vb) (.string (BA vs)) (.slice aa an ac) (.slice wa wn wc) (.slice ra rn rc) (.slice ka kn kc))
  go_wp2_with fail
  have hres:=((Ja (fun _=>False) (st7 w2 w.heap.size (.int .i64 vk) (.bool vb) (.string (BA vs)) (.slice aa an ac) (.slice wa wn wc) (.slice ra rn rc) (.slice ka kn kc))).alloc (.cells #[.int .i64 vk,.bool vb,.string (BA vs),.slice aa an ac,.slice wa wn wc,.slice ra rn rc,.slice ka kn kc] 27)).heap B7.o (fun h=>h)
  refine bodyPost_ret (v:= .agg #[.int .i64 vk,.bool vb,.string (BA vs),.slice aa an ac,.slice wa wn wc,.slice ra rn rc,.slice ka kn kc]) ?_ rfl ?_
  ·exact results_cell_row rfl _ _ w.heap.size 27 _ (0,0) _ (by rfl) hres Tryz.underlying27 rfl (by kernel_rfl)
  exact cj (HXN.o.trans HNS.o) (HV.o.mono (fun b _ hb=>by have h1:=HZ1.o;have hb':w1.heap.size≤b:=hb;omega)) (by rw[HXP.o,HST.o];exact R2.o) (((KA.o.mono (S':=fun i=>i=g) (fun _ _ h=>h.elim)).trans K1.o (fun _ _ h=>h)).trans K2.o (fun _ _ h=>h)) (K7.o.alloc _) hgl HTB.o
 |false=>
  have HF:=jd (fun wx (kx:Kept (fun _=>False) w2 wx)=>dC T wx g d y.p (R2.o.ag kx) 5)
  go_wp2_with fail
  refine(HF.o _ ((Ja _ w2).alloc _)).mono ?_
  rintro e w4 ⟨rfl,r4,k4⟩
  have R4:=jd r4
  have K24:Hid (Kept (fun i=>i=g) w2 w4):=jd ((((Ja (fun _=>False) w2).alloc _).mono (S':=fun i=>i=g) (fun _ _ h=>h.elim)).trans k4 (fun _ _ h=>h))
  have hgw:=R2.o.lt
  have P4:NBx w4 w2.heap.size #[.int .i64 vk,.bool vb,.string (BA vs),.slice aa an ac,.slice wa wn wc,.slice ra rn rc,.slice ka kn kc]:=k4.heap (heap_alloc w2 _) (fun e=>by have e':w2.heap.size=g:=e;omega)
  have PR4:NBx w4 w.heap.size zN:=K24.o.heap PR2 (fun e=>by have e':w.heap.size=g:=e;omega)
  clear c0 c1 c2 c3 c4 c5 c6 f0 f1 f2 f3 f4 f5 f6 r4 k4
  obtain⟨⟨c0,c1,c2,c3,c4,c5,c6⟩,f0,f1,f2,f3,f4,f5,f6⟩:=NBx.cells PR4
  obtain⟨⟨e0,e1,e2,e3,e4,e5,e6⟩,-⟩:=NBx.cells P4
  have hlt4:w.heap.size<w4.heap.size:=aj PR4
  have K7:Hid (Kept (fun i=>i=w.heap.size) w4 (st7 w4 w.heap.size (.int .i64 vk) (.bool vb) (.string (BA vs)) (.slice aa an ac) (.slice wa wn wc) (.slice ra rn rc) (.slice ka kn kc))):=jd (aX (Ja (fun i=>i=w.heap.size) w4) (fun _=>rfl) _ _ _ _ _ _ _)
  have B7:=jd (bH PR4 (.int .i64 vk) (.bool vb) (.string (BA vs)) (.slice aa an ac) (.slice wa wn wc) (.slice ra rn rc) (.slice ka kn kc))
  have HV4:=jd (HV.o.kept K24.o (fun b hb e=>by have e':b=g:=e;have hb':w1.heap.size≤b:=hb;have:=HZ1.o;omega))
  go_wp2_with fail
  refine bodyPost_ret (v:= .agg #[.int .i64 vk,.bool vb,.string (BA vs),.slice aa an ac,.slice wa wn wc,.slice ra rn rc,.slice ka kn kc]) ?_ rfl ?_
  ·exact results_cell_row rfl _ _ w.heap.size 27 _ (0,0) _ (by rfl) B7.o Tryz.underlying27 rfl (by kernel_rfl)
  exact cj (HXN.o.trans HNS.o) (HV4.o.mono (fun b _ hb=>by have h1:=HZ1.o;have hb':w1.heap.size≤b:=hb;omega)) (by rw[HXP.o,HST.o];exact R4.o) ((((KA.o.mono (S':=fun i=>i=g) (fun _ _ h=>h.elim)).trans K1.o (fun _ _ h=>h)).trans K2.o (fun _ _ h=>h)).trans K24.o (fun _ _ h=>h)) K7.o hgl HTB.o
set_option maxHeartbeats 16000000 in
theorem Bc (n:Nat) (HL:Hid (CJ 107 ep .block n)):CJ 109 ep .body (n+1):=by
 intro T w g d p x hx hp hE hgn ht
 rw[run] at hx
 obtain⟨y,hy,hX⟩:=Jh.1 hx
 have HXN:Hid (x.ns=y.ns):=jd (by rw[←hX])
 have HXP:Hid (x.p=az bM y.p):=jd (by rw[←hX])
 obtain⟨W0,hW0⟩:∃W0,w.alloc (.cells zN 27)=W0:=⟨_,rfl⟩
 have hs0:W0.heap.size=w.heap.size+1:=by rw[←hW0,World.size_alloc]
 have KA:Hid (Kept (fun _=>False) w W0):=jd (by rw[←hW0];exact(Ja _ w).alloc _)
 have PA:Hid (NBx W0 w.heap.size zN):=jd (by rw[←hW0];exact heap_alloc w _)
 have HW0:=jd hW0
 have HR:=jd (fZ T W0 g d p (hp.ag KA.o) (hE.ag KA.o) rDo (by decide))
 have hgl:=hp.lt
 have HY:=jd hy;have HE:=jd hE;have HGN:=jd hgn;have HTB:=jd ht
 clear hx hp hE hgn ht hW0 hy hX
 go_enter Tryz.func109,Tryz.ntmps109
 go_wp2_with fail
 rw[HW0.o]
 refine HR.o.mono ?_
 rintro e w1 ⟨rfl,r1,k1⟩
 have R1:=jd r1;have K1:=jd k1
 have P1:=jd (k1.heap PA.o (fun e=>by have e':w.heap.size=g:=e;omega))
 have HC:=jd (HL.o T w1 g d _ y HY.o r1 ((HE.o.ag KA.o).dk k1 HGN.o) HGN.o HTB.o)
 have hz1:=k1.size
 have HZ1:Hid (w.heap.size+1≤w1.heap.size):=jd (by omega)
 clear r1 k1
 go_wp2_with fail
 refine HC.o.mono ?_
 rintro e w2 ⟨v,nd,hns,rfl,hv,r2,k2⟩
 have R2:=jd r2;have K2:=jd k2;have HNS:=jd hns
 have hz2:=k2.size
 obtain⟨vk,vb,vs,aa,an,ac,wa,wn,wc,ra,rn,rc,ka,kn,kc,rfl⟩:=hv.agg
 have HV:=jd hv
 have PR2:NBx w2 w.heap.size zN:=K2.o.heap P1.o (fun e=>by have e':w.heap.size=g:=e;omega)
 have hlt2:w.heap.size<w2.heap.size:=aj PR2
 have HPR2:=jd PR2
 have HF:=jd (fun wx (kx:Kept (fun _=>False) w2 wx)=>fZ T wx g d y.p (R2.o.ag kx) ((((HE.o.ag KA.o).dk K1.o HGN.o).dk k2 HGN.o).ag kx) bM (by decide))
 clear hv r2 k2 hns PR2
 go_wp2_with fail
 refine(HF.o _ ((Ja _ w2).alloc _)).mono ?_
 rintro e w4 ⟨rfl,r4,k4⟩
 have R4:=jd r4
 have K24:Hid (Kept (fun i=>i=g) w2 w4):=jd ((((Ja (fun _=>False) w2).alloc _).mono (S':=fun i=>i=g) (fun _ _ h=>h.elim)).trans k4 (fun _ _ h=>h))
 have hgw:=R2.o.lt
 have P4:NBx w4 w2.heap.size #[.int .i64 vk,.bool vb,.string (BA vs),.slice aa an ac,.slice wa wn wc,.slice ra rn rc,.slice ka kn kc]:=k4.heap (heap_alloc w2 _) (fun e=>by have e':w2.heap.size=g:=e;omega)
 have PR4:NBx w4 w.heap.size zN:=K24.o.heap HPR2.o (fun e=>by have e':w.heap.size=g:=e;omega)
 clear r4 k4
 obtain⟨⟨c0,c1,c2,c3,c4,c5,c6⟩,f0,f1,f2,f3,f4,f5,f6⟩:=NBx.cells PR4
 obtain⟨⟨e0,e1,e2,e3,e4,e5,e6⟩,-⟩:=NBx.cells P4
 have hlt4:w.heap.size<w4.heap.size:=aj PR4
 have K7:Hid (Kept (fun i=>i=w.heap.size) w4 (st7 w4 w.heap.size (.int .i64 vk) (.bool vb) (.string (BA vs)) (.slice aa an ac) (.slice wa wn wc) (.slice ra rn rc) (.slice ka kn kc))):=jd (aX (Ja (fun i=>i=w.heap.size) w4) (fun _=>rfl) _ _ _ _ _ _ _)
 have B7:=jd (bH PR4 (.int .i64 vk) (.bool vb) (.string (BA vs)) (.slice aa an ac) (.slice wa wn wc) (.slice ra rn rc) (.slice ka kn kc))
 have HV4:=jd (HV.o.kept K24.o (fun b hb e=>by have e':b=g:=e;have hb':w1.heap.size≤b:=hb;have:=HZ1.o;omega))
 go_wp2_with fail
 refine bodyPost_ret (v:= .agg #[.int .i64 vk,.bool vb,.string (BA vs),.slice aa an ac,.slice wa wn wc,.slice ra rn rc,.slice ka kn kc]) ?_ rfl ?_
 ·exact results_cell_row rfl _ _ w.heap.size 27 _ (0,0) _ (by rfl) B7.o Tryz.underlying27 rfl (by kernel_rfl)
 exact cj (HXN.o.trans HNS.o) (HV4.o.mono (fun b _ hb=>by have h1:=HZ1.o;have hb':w1.heap.size≤b:=hb;omega)) (by rw[HXP.o];exact R4.o) ((((KA.o.mono (S':=fun i=>i=g) (fun _ _ h=>h.elim)).trans K1.o (fun _ _ h=>h)).trans K2.o (fun _ _ h=>h)).trans K24.o (fun _ _ h=>h)) K7.o hgl HTB.o
end Go.Proofs.YtgigdlhcjahejaaGreatDoor
