/- Of the proof of ParseBreaks: ParW. -/
import Derived.Test.YtgigdlhcjahejaaGreatDoorD41
namespace Go.Proofs.YtgigdlhcjahejaaGreatDoor
open Go Go.RowKit Go.Lw
set_option linter.unusedVariables false
set_option linter.unusedSimpArgs false
def SmP (p:Ps):Prop:=p.r.length≤2048∧∀t∈p.r,t.text.length≤2048
theorem SmP.sub {p q:Ps} (h:SmP p) (hs:q.r.Sublist p.r):SmP q:=⟨Nat.le_trans hs.length_le h.1,fun t ht=>h.2 t (hs.subset ht)⟩
theorem SmP.fail {p:Ps} (h:SmP p) (e:Nat):SmP (aX p e):=h.sub (List.nil_sublist _)
theorem SmP.tail {p:Ps} (h:SmP p):SmP (aC p):=h.sub (List.tail_sublist _)
theorem SmP.rest {p:Ps} (h:SmP p):SmP (az p):=h.sub (List.dropWhile_sublist _)
theorem SmP.stop {p:Ps} (h:SmP p):SmP (aE p).2:=by
 unfold aE
 split
 ·exact h.tail
 ·exact h
theorem SmP.fb {p:Ps} (h:SmP p) (s:List UInt8):SmP (ay s p):=by
 unfold ay
 split
 ·exact h.tail
 ·exact h.fail 5
theorem iK (p:Ps):(aL p).2.r.Sublist p.r∧((aL p).1=[]∨∃t∈p.r,bF t.text= .ok (aL p).1):=by
 obtain⟨r,e⟩:=p
 unfold aL
 cases r with
 |nil=>exact⟨List.nil_sublist _,.inl rfl⟩
 |cons t r=>
  simp only
  split
  ·split
   ·rename_i w hw
    exact⟨List.sublist_cons_self t r,.inr ⟨t,List.mem_cons_self,hw⟩⟩
   ·exact⟨List.nil_sublist _,.inl rfl⟩
  ·exact⟨List.nil_sublist _,.inl rfl⟩
theorem SmP.word {p:Ps} (h:SmP p):SmP (aL p).2∧(aA (aL p).1).length≤24576:=by
 obtain⟨h1,h2⟩:=iK p
 refine⟨h.sub h1,?_⟩
 rcases h2 with h2|⟨t,ht,h2⟩
 ·rw[h2,eR];exact Nat.zero_le _
 ·have:=pf h2
  have:=h.2 t ht
  omega
def Dz (l:List (List Prt)):Prop:=∀x∈l,(aA x).length≤24576
def BY (l:List (Int×List Prt)):Prop:=∀x∈l,(aA x.2).length≤24576
def D8 (l:List (List UInt8×List Prt)):Prop:=∀x∈l,x.1.length≤2048∧(aA x.2).length≤24576
theorem SmP.i6 {p p':Ps} {x:Int×List Prt} (h:SmP p) (hr:aT p=some (x,p')):SmP p'∧(aA x.2).length≤24576:=by
 unfold aT at hr
 split at hr
 ·cases hr
 ·cases hr
  exact h.tail.word
theorem qc:∀(n:Nat) (p:Ps),SmP p→SmP (aZ n p).2∧BY (aZ n p).1∧(aZ n p).1.length+(aZ n p).2.r.length≤p.r.length
 |0,p,h=>⟨h,fun x hx=>(by cases hx),by show 0+_≤_;rw[Nat.zero_add];exact Nat.le_refl _⟩
 |n+1,p,h=>by
  unfold aZ
  split
  ·exact⟨h,fun x hx=>(by cases hx),by show 0+_≤_;rw[Nat.zero_add];exact Nat.le_refl _⟩
  ·rename_i x p' hr
   obtain⟨h1,h2⟩:=h.i6 hr
   obtain⟨h3,h4,h5⟩:=qc n p' h1
   have h6:p'.r.length<p.r.length:=dg hr
   refine⟨h3,fun y hy=>?_,by show(x::(aZ n p').1).length+(aZ n p').2.r.length≤p.r.length;rw[List.length_cons];omega⟩
   rcases List.mem_cons.1 hy with rfl|hy
   ·exact h2
   ·exact h4 y hy
theorem nt {s:List UInt8} {a:List UInt8×List Prt} (h:bB s=some a):a.1.length≤s.length∧(aA a.2).length≤12*s.length:=by
 unfold bB at h
 have hc1:(dP 61 s).1.length≤s.length:=by unfold dP;exact(List.takeWhile_sublist _).length_le
 have hc2:(dP 61 s).2.length≤s.length:=by unfold dP;exact Nat.le_trans (by rw[List.length_drop];exact Nat.sub_le _ _) (List.dropWhile_sublist _).length_le
 split at h
 ·split at h
  ·cases h
   exact⟨hc1,by rw[eR];exact Nat.zero_le _⟩
  ·split at h
   ·rename_i l hl
    cases h
    have:=pf hl
    exact⟨hc1,by show(aA l).length≤_;omega⟩
   ·cases h
 ·cases h
def tG (m:Sm):Prop:=D8 m.al∧Dz m.ws∧BY m.rs
theorem qe {m:Sm} {p:Ps} {x:Sm×Ps} (h:aQ m p=some x) (hm:tG m) (hp:SmP p):tG x.1∧SmP x.2∧x.1.al.length+x.1.ws.length+x.1.rs.length+x.2.r.length≤m.al.length+m.ws.length+m.rs.length+p.r.length:=by
 have hl:=dF h
 unfold aQ at h
 split at h
 ·rename_i y p' e
  cases h
  obtain⟨h1,h2⟩:=hp.i6 e
  have hl':p'.r.length<p.r.length:=hl
  refine⟨⟨hm.1,hm.2.1,fun z hz=>?_⟩,h1,by show m.al.length+m.ws.length+(m.rs++[y]).length+p'.r.length≤_;simp only[List.length_append,List.length_cons,List.length_nil];omega⟩
  rcases List.mem_append.1 hz with hz|hz
  ·exact hm.2.2 z hz
  ·rw[List.mem_singleton.1 hz];exact h2
 ·split at h
  ·cases h
  ·rename_i t r e
   have hsub:r.Sublist p.r:=by rw[e];exact List.sublist_cons_self t r
   have htx:t.text.length≤2048:=hp.2 t (by rw[e];exact List.mem_cons_self)
   split at h
   ·split at h
    ·cases h
     have hl':r.length<p.r.length:=hl
     refine⟨⟨fun z hz=>?_,hm.2⟩,hp.sub hsub,by show(m.al++[(bB t.text).getD ([],[])]).length+m.ws.length+m.rs.length+r.length≤_;simp only[List.length_append,List.length_cons,List.length_nil];omega⟩
     rcases List.mem_append.1 hz with hz|hz
     ·exact hm.1 z hz
     ·rw[List.mem_singleton.1 hz]
      cases ea:bB t.text with
      |none=>exact⟨Nat.zero_le _,by show(aA []).length≤_;rw[eR];exact Nat.zero_le _⟩
      |some a=>
       have:=nt ea
       exact⟨by show a.1.length≤_;omega,by show(aA a.2).length≤_;omega⟩
    ·split at h
     ·cases h
      exact⟨hm,hp.fail 5,by show m.al.length+m.ws.length+m.rs.length+0≤_;omega⟩
     ·cases h
      have hl':(aL p).2.r.length<p.r.length:=hl
      refine⟨⟨hm.1,fun z hz=>?_,hm.2.2⟩,hp.word.1,by show m.al.length+(m.ws++[(aL p).1]).length+m.rs.length+(aL p).2.r.length≤_;simp only[List.length_append,List.length_cons,List.length_nil];omega⟩
      rcases List.mem_append.1 hz with hz|hz
      ·exact hm.2.1 z hz
      ·rw[List.mem_singleton.1 hz];exact hp.word.2
   ·cases h
theorem oE:∀(n:Nat) (m:Sm) (p:Ps),tG m→SmP p→tG (aD n m p).1∧SmP (aD n m p).2∧(aD n m p).1.al.length+(aD n m p).1.ws.length+(aD n m p).1.rs.length+(aD n m p).2.r.length≤m.al.length+m.ws.length+m.rs.length+p.r.length
 |0,m,p,h1,h2=>⟨h1,h2,Nat.le_refl _⟩
 |n+1,m,p,h1,h2=>by
  unfold aD
  split
  ·exact⟨h1,h2,Nat.le_refl _⟩
  ·rename_i x hx
   obtain⟨a1,a2,a3⟩:=qe hx h1 h2
   obtain⟨b1,b2,b3⟩:=oE n x.1 x.2 a1 a2
   exact⟨b1,b2,by omega⟩
theorem qB:∀(n:Nat) (p:Ps),SmP p→SmP (bm n p).2∧Dz (bm n p).1∧(bm n p).1.length+(bm n p).2.r.length≤p.r.length
 |0,p,h=>⟨h,fun x hx=>(by cases hx),by show 0+_≤_;rw[Nat.zero_add];exact Nat.le_refl _⟩
 |n+1,p,h=>by
  unfold bm
  split
  ·rename_i hk
   obtain⟨h3,h4,h5⟩:=qB n _ h.word.1
   have h6:(aL p).2.r.length<p.r.length:=ep hk
   refine⟨h3,fun y hy=>?_,by show((aL p).1::(bm n (aL p).2).1).length+(bm n (aL p).2).2.r.length≤p.r.length;rw[List.length_cons];omega⟩
   rcases List.mem_cons.1 hy with rfl|hy
   ·exact h.word.2
   ·exact h4 y hy
  ·exact⟨h,fun x hx=>(by cases hx),by show 0+_≤_;rw[Nat.zero_add];exact Nat.le_refl _⟩
structure OkT (m:Nd):Prop where
 la:m.al.length≤2048
 lw:m.ws.length≤2048
 lr:m.rs.length≤4096
 ln:m.name.length≤2048
 ta:D8 m.al
 tw:Dz m.ws
 tr:BY m.rs
def iA (n:Nd):Prop:=∀m∈aJ n,OkT m
theorem gR:∀l:List Nd,aU l=l.flatMap aJ
 |[]=>by show aJ.aU []=_;rw[aJ.aU];rfl
 |n::l=>by show aJ.aU (n::l)=_;rw[aJ.aU,List.flatMap_cons];exact congrArg _ (gR l)
theorem si {k:Int} {b:Bool} {s:List UInt8} {a:List (List UInt8×List Prt)} {w:List (List Prt)} {r:List (Int×List Prt)} {l:List Nd} (h:OkT (.mk k b s a w r l)) (hl:∀x∈l,iA x):iA (.mk k b s a w r l):=fun m hm=>by
 rw[ie,gR] at hm
 rcases List.mem_cons.1 hm with rfl|hm
 ·exact h
 ·obtain⟨x,hx,hm⟩:=List.mem_flatMap.1 hm
  exact hl x hx m hm
theorem Ai {k:Int} {b:Bool} {s:List UInt8} {a:List (List UInt8×List Prt)} {w:List (List Prt)} {r:List (Int×List Prt)} {l:List Nd} (h:iA (.mk k b s a w r l)):OkT (.mk k b s a w r l)∧∀x∈l,iA x:=by
 unfold iA at h
 rw[ie,gR] at h
 exact⟨h _ List.mem_cons_self,fun x hx m hm=>h m (List.mem_cons_of_mem _ (List.mem_flatMap.2 ⟨x,hx,hm⟩))⟩
theorem Bc (k:Int) (b:Bool) (l:List Nd):OkT (.mk k b [] [] [] [] l):=⟨Nat.zero_le _,Nat.zero_le _,Nat.zero_le _,Nat.zero_le _,fun x hx=>(by cases hx),fun x hx=>(by cases hx),fun x hx=>(by cases hx)⟩
theorem eF {k:Int} {b:Bool} {l:List Nd} (hl:∀x∈l,iA x):iA (.mk k b [] [] [] [] l):=si (Bc k b l) hl
theorem uw {k:Int} {l:List Nd} (hl:∀x∈l,iA x):∀x∈ez k l,iA x:=by
 unfold ez
 split
 ·exact hl
 ·intro x hx
  rw[List.mem_singleton.1 hx]
  exact eF hl
def Job.comp:Job→Prop
 |.read _ _ _|.branches _ _ _|.loop _ _ _|.each _ _|.group _ _=>True
 |_=>False
theorem tj:∀(n:Nat) (j:Job) (x:Rd9),run n j=some x→j.comp→∀nd∈x.ns,nd.rs=[]
 |0,_,_,h,_=>by cases h
 |n+1,j,x,h,hc=>by
  have ih:=tj n
  cases j<;>unfold run at h<;>try exact hc.elim
  case read d s p=>
   split at h
   ·exact ih _ _ h trivial
   ·split at h
    ·exact ih _ _ h trivial
    ·split at h
     ·exact ih _ _ h trivial
     ·split at h
      ·exact ih _ _ h trivial
      ·exact ih _ _ h trivial
  case branches d acc p=>
   obtain⟨y,hy,h⟩:=Option.bind_eq_some_iff.1 h
   obtain⟨z,hz,h⟩:=Option.bind_eq_some_iff.1 h
   split at h
   ·exact ih _ _ h trivial
   ·split at h
    ·obtain⟨u,hu,rfl⟩:=Option.map_eq_some_iff.1 h
     intro nd hn;rw[List.mem_singleton.1 hn];rfl
    ·cases h
     intro nd hn;rw[List.mem_singleton.1 hn];rfl
  case loop d k p=>
   obtain⟨y,hy,h⟩:=Option.bind_eq_some_iff.1 h
   obtain⟨z,hz,rfl⟩:=Option.map_eq_some_iff.1 h
   intro nd hn;rw[List.mem_singleton.1 hn];rfl
  case each d p=>
   obtain⟨y,hy,rfl⟩:=Option.map_eq_some_iff.1 h
   intro nd hn;rw[List.mem_singleton.1 hn];rfl
  case group d p=>
   obtain⟨y,hy,rfl⟩:=Option.map_eq_some_iff.1 h
   intro nd hn;rw[List.mem_singleton.1 hn];rfl
def Job.has:Job→List Nd
 |.kids _ acc _|.pipeL _ acc _|.branches _ acc _|.chainL _ acc _=>acc
 |_=>[]
theorem lj {a b:List Nd} (h:∀x∈a,iA x) (k:∀x∈b,iA x):∀x∈a++b,iA x:=fun x hx=>(List.mem_append.1 hx).elim (h x) (k x)
theorem AP:∀(n:Nat) (j:Job) (x:Rd9),run n j=some x→SmP j.p→(∀nd∈j.has,iA nd)→SmP x.p∧∀nd∈x.ns,iA nd
 |0,_,_,h,_,_=>by cases h
 |n+1,j,x,h,hp,ha=>by
  have ih:=AP n
  have no:∀nd∈([]:List Nd),iA nd:=fun nd h=>by cases h
  cases j<;>unfold run at h
  case block d p=>
   obtain⟨y,hy,rfl⟩:=Option.map_eq_some_iff.1 h
   obtain⟨h1,h2⟩:=ih _ _ hy (SmP.rest hp) no
   refine⟨?_,h2⟩
   show SmP (if _ then _ else _)
   split
   ·exact h1
   ·exact h1.fail 5
  case list d p=>
   obtain⟨y,hy,rfl⟩:=Option.map_eq_some_iff.1 h
   obtain⟨h1,h2⟩:=ih _ _ hy hp no
   exact⟨h1,uw h2⟩
  case kids d acc p=>
   obtain⟨y,hy,hz⟩:=Option.bind_eq_some_iff.1 h
   obtain⟨h1,h2⟩:=ih _ _ hy hp no
   have h3:=lj (show∀nd∈acc,iA nd from ha) h2
   split at hz
   ·split at hz
    ·exact ih _ _ hz h1.stop.rest h3
    ·cases hz;exact⟨h1.stop.rest,h3⟩
   ·cases hz;exact⟨h1,h3⟩
  case chain d p=>
   obtain⟨y,hy,hz⟩:=Option.bind_eq_some_iff.1 h
   obtain⟨h1,h2⟩:=ih _ _ hy hp no
   exact ih _ _ hz h1 h2
  case chainL d l p=>
   split at h
   ·obtain⟨y,hy,hz⟩:=Option.bind_eq_some_iff.1 h
    obtain⟨h1,h2⟩:=ih _ _ hy (SmP.rest (SmP.tail hp)) no
    exact ih _ _ hz h1 (fun nd hn=>by rw[List.mem_singleton.1 hn];exact eF (lj ha h2))
   ·cases h;exact⟨hp,ha⟩
  case pipe d p=>
   obtain⟨y,hy,rfl⟩:=Option.map_eq_some_iff.1 h
   have hp2:SmP (if aG p=eD then aC p else p):=by
    split
    ·exact SmP.tail hp
    ·exact hp
   obtain⟨h1,h2⟩:=ih _ _ hy hp2 no
   refine⟨h1,?_⟩
   show∀nd∈(if aG p=eD then _ else _:List Nd),_
   split
   ·intro nd hn;rw[List.mem_singleton.1 hn];exact eF h2
   ·exact uw h2
  case pipeL d acc p=>
   obtain⟨y,hy,hz⟩:=Option.bind_eq_some_iff.1 h
   obtain⟨h1,h2⟩:=ih _ _ hy hp no
   have h3:=lj (show∀nd∈acc,iA nd from ha) h2
   split at hz
   ·exact ih _ _ hz h1.tail.rest h3
   ·cases hz;exact⟨h1,h3⟩
  case command d p=>
   split at h
   ·cases h
    obtain⟨a1,a2,a3⟩:=oE (p.r.length+1) ⟨[],[],[]⟩ p ⟨fun x hx=>(by cases hx),fun x hx=>(by cases hx),fun x hx=>(by cases hx)⟩ hp
    have hp1:p.r.length≤2048:=hp.1
    have a3':(aD (p.r.length+1) ⟨[],[],[]⟩ p).1.al.length+(aD (p.r.length+1) ⟨[],[],[]⟩ p).1.ws.length+(aD (p.r.length+1) ⟨[],[],[]⟩ p).1.rs.length+(aD (p.r.length+1) ⟨[],[],[]⟩ p).2.r.length≤0+0+0+p.r.length:=a3
    refine⟨?_,fun nd hn=>?_⟩
    ·show SmP (if _ then _ else _)
     split
     ·exact a2.fail 5
     ·exact a2
    ·rw[List.mem_singleton.1 hn]
     exact si ⟨by show(aD _ _ _).1.al.length≤_;omega,by show(aD _ _ _).1.ws.length≤_;omega,by show(aD _ _ _).1.rs.length≤_;omega,Nat.zero_le _,a1.1,a1.2.1,a1.2.2⟩ no
   ·split at h
    ·cases h
     exact⟨SmP.fail hp 5,fun nd hn=>by rw[List.mem_singleton.1 hn];exact eF no⟩
    ·split at h
     ·cases h
      exact⟨SmP.fail hp 12,fun nd hn=>by rw[List.mem_singleton.1 hn];exact eF no⟩
     ·obtain⟨y,hy,rfl⟩:=Option.map_eq_some_iff.1 h
      obtain⟨h1,h2⟩:=ih _ _ hy (SmP.tail hp) no
      have hrs:=tj _ _ _ hy trivial
      obtain⟨b1,b2,b3⟩:=qc (y.p.r.length+1) y.p h1
      refine⟨b1,fun nd hn=>?_⟩
      obtain⟨m,hm,rfl⟩:=List.mem_map.1 hn
      have hr0:=hrs m hm
      obtain⟨k,b,s,a,w,r,l⟩:=m
      have hr0':r=[]:=hr0
      subst hr0'
      obtain⟨c1,c2⟩:=Ai (h2 _ hm)
      have h1':=h1.1
      exact si ⟨c1.la,c1.lw,by show([]++(aZ (y.p.r.length+1) y.p).1).length≤_;rw[List.nil_append];omega,c1.ln,c1.ta,c1.tw,by show BY ([]++_);rw[List.nil_append];exact b2⟩ c2
  case read d s p=>
   split at h
   ·exact ih _ _ h hp no
   ·split at h
    ·exact ih _ _ h hp no
    ·split at h
     ·exact ih _ _ h hp no
     ·split at h
      ·exact ih _ _ h hp no
      ·exact ih _ _ h hp no
  case branches d acc p=>
   obtain⟨y,hy,h⟩:=Option.bind_eq_some_iff.1 h
   obtain⟨z,hz,h⟩:=Option.bind_eq_some_iff.1 h
   obtain⟨h1,h2⟩:=ih _ _ hy hp no
   obtain⟨h3,h4⟩:=ih _ _ hz (h1.fb _) no
   have h5:=lj (lj (show∀nd∈acc,iA nd from ha) h2) h4
   split at h
   ·exact ih _ _ h h3.tail h5
   ·split at h
    ·obtain⟨u,hu,rfl⟩:=Option.map_eq_some_iff.1 h
     obtain⟨h6,h7⟩:=ih _ _ hu h3.tail no
     exact⟨h6.fb _,fun nd hn=>by rw[List.mem_singleton.1 hn];exact eF (lj h5 h7)⟩
    ·cases h
     exact⟨h3.fb _,fun nd hn=>by rw[List.mem_singleton.1 hn];exact eF h5⟩
  case loop d k p=>
   obtain⟨y,hy,h⟩:=Option.bind_eq_some_iff.1 h
   obtain⟨z,hz,rfl⟩:=Option.map_eq_some_iff.1 h
   obtain⟨h1,h2⟩:=ih _ _ hy hp no
   obtain⟨h3,h4⟩:=ih _ _ hz h1 no
   exact⟨h3,fun nd hn=>by rw[List.mem_singleton.1 hn];exact eF (lj h2 h4)⟩
  case body d p=>
   obtain⟨y,hy,rfl⟩:=Option.map_eq_some_iff.1 h
   obtain⟨h1,h2⟩:=ih _ _ hy (SmP.fb hp _) no
   exact⟨h1.fb _,h2⟩
  case each d p=>
   obtain⟨y,hy,rfl⟩:=Option.map_eq_some_iff.1 h
   have hq:SmP (bp p).2∧(bp p).1.length≤2048:=by
    obtain⟨r,e⟩:=p
    unfold bp
    cases r with
    |nil=>exact⟨SmP.fail hp 5,Nat.zero_le _⟩
    |cons t r=>
     simp only
     split
     ·exact⟨SmP.sub hp (List.sublist_cons_self t r),hp.2 t List.mem_cons_self⟩
     ·exact⟨SmP.fail hp 5,Nat.zero_le _⟩
   have hm:=hq.1.rest.fb rIn
   obtain⟨w1,w2,w3⟩:=qB ((ay rIn (az (bp p).2)).r.length+1) _ hm
   have hs:SmP (dx (bV (ay rIn (az (bp p).2))).2):=by
    unfold dx
    split
    ·exact w1.stop
    ·exact w1.fail 5
   have hpe:SmP (bR p).2.2:=by rw[dV];exact hs.rest
   obtain⟨h1,h2⟩:=ih _ _ hy hpe no
   refine⟨h1,fun nd hn=>?_⟩
   rw[List.mem_singleton.1 hn,dV]
   have hm1:=hm.1
   have w3':(bV (ay rIn (az (bp p).2))).1.length+(bV (ay rIn (az (bp p).2))).2.r.length≤_:=w3
   exact si ⟨Nat.zero_le _,by show(bV _).1.length≤_;omega,Nat.zero_le _,hq.2,fun x hx=>(by cases hx),w2,fun x hx=>(by cases hx)⟩ h2
  case group d p=>
   obtain⟨y,hy,rfl⟩:=Option.map_eq_some_iff.1 h
   obtain⟨h1,h2⟩:=ih _ _ hy hp no
   exact⟨h1.fb _,fun nd hn=>by rw[List.mem_singleton.1 hn];exact eF h2⟩
def sg (l:List Nd):Nat:=(l.map szN).sum
theorem kM (a b:List Nd):sg (a++b)=sg a+sg b:=by unfold sg;rw[List.map_append,List.sum_append]
theorem gW (n:Nd):sg [n]=szN n:=by unfold sg;simp
theorem xS:∀l:List Nd,cT l=1+sg l
 |[]=>by show szN.cT []=_;rw[szN.cT];rfl
 |n::l=>by
  have ih:=xS l
  show szN.cT (n::l)=_
  rw[szN.cT]
  have e:szN.cT l=1+sg l:=ih
  have e2:sg (n::l)=szN n+sg l:=by unfold sg;simp
  omega
theorem db (k:Int) (b:Bool) (s:List UInt8) (a:List (List UInt8×List Prt)) (w:List (List Prt)) (r:List (Int×List Prt)) (l:List Nd):szN (.mk k b s a w r l)=2+sg l:=by
 have h:=ir (.mk k b s a w r l)
 have h2:szN (.mk k b s a w r l)=1+cT l:=h
 rw[h2,xS];omega
theorem xu (k:Int) (l:List Nd):sg (ez k l)≤sg l+2:=by
 unfold ez
 split
 ·omega
 ·rw[gW];unfold ndK;rw[db];omega
theorem Br (rs:List (Int×List Prt)) (n:Nd):szN (fM rs n)=szN n:=by
 obtain⟨k,b,s,a,w,r,l⟩:=n
 rw[oo,db,db]
theorem Bb (rs:List (Int×List Prt)) (l:List Nd):sg (l.map (fM rs))=sg l:=by
 unfold sg
 rw[List.map_map]
 congr 1
 exact List.map_congr_left fun n _=>Br rs n
def Job.extra:Job→Nat
 |.command _ _=>2
 |.pipeL _ _ _=>2
 |.pipe _ _=>4
 |.chainL _ _ _=>0
 |.chain _ _=>4
 |.kids _ _ _=>4
 |.list _ _=>6
 |.block _ _=>6
 |.body _ _=>6
 |.group _ _=>14
 |.branches _ _ _=>14
 |.loop _ _ _=>14
 |.each _ _=>14
 |.read _ _ _=>14
theorem Ak:∀(n:Nat) (j:Job) (x:Rd9),run n j=some x→sg x.ns+20*x.p.len≤sg j.has+20*j.p.len+j.extra
 |0,_,_,h=>by cases h
 |n+1,j,x,h=>by
  have ih:=Ak n
  cases j<;>unfold run at h
  case block d p=>
   obtain⟨y,hy,rfl⟩:=Option.map_eq_some_iff.1 h
   have h1:=ih _ _ hy
   have h2:(az p).len≤p.len:=cd p
   have h3:(if y.st then y.p else aX y.p 5).len≤y.p.len:=by
    split
    ·exact Nat.le_refl _
    ·exact Nat.zero_le _
   have h1':sg y.ns+20*y.p.len≤0+20*(az p).len+6:=h1
   show sg y.ns+20*(if y.st then y.p else aX y.p 5).len≤0+20*p.len+6
   omega
  case list d p=>
   obtain⟨y,hy,rfl⟩:=Option.map_eq_some_iff.1 h
   have h1:sg y.ns+20*y.p.len≤0+20*p.len+4:=ih _ _ hy
   have h2:=xu 5 y.ns
   show sg (ez 5 y.ns)+20*y.p.len≤0+20*p.len+6
   omega
  case kids d acc p=>
   obtain⟨y,hy,hz⟩:=Option.bind_eq_some_iff.1 h
   have h1:sg y.ns+20*y.p.len≤0+20*p.len+4:=ih _ _ hy
   have ha:=kM acc y.ns
   show sg x.ns+20*x.p.len≤sg acc+20*p.len+4
   split at hz
   ·rename_i hs
    have h2:(aE y.p).2.len<y.p.len:=jK hs
    have h3:(az (aE y.p).2).len≤(aE y.p).2.len:=cd _
    split at hz
    ·have h4:sg x.ns+20*x.p.len≤sg (acc++y.ns)+20*(az (aE y.p).2).len+4:=ih _ _ hz
     omega
    ·cases hz
     show sg (acc++y.ns)+20*(az (aE y.p).2).len≤_
     omega
   ·cases hz
    show sg (acc++y.ns)+20*y.p.len≤_
    omega
  case chain d p=>
   obtain⟨y,hy,hz⟩:=Option.bind_eq_some_iff.1 h
   have h1:sg y.ns+20*y.p.len≤0+20*p.len+4:=ih _ _ hy
   have h2:sg x.ns+20*x.p.len≤sg y.ns+20*y.p.len+0:=ih _ _ hz
   show sg x.ns+20*x.p.len≤0+20*p.len+4
   omega
  case chainL d l p=>
   show sg x.ns+20*x.p.len≤sg l+20*p.len+0
   split at h
   ·rename_i hk
    obtain⟨y,hy,hz⟩:=Option.bind_eq_some_iff.1 h
    have h1:sg y.ns+20*y.p.len≤0+20*(az (aC p)).len+4:=ih _ _ hy
    have h2:sg x.ns+20*x.p.len≤sg [ndK (if af p=4 then 3 else 4) (l++y.ns)]+20*y.p.len+0:=ih _ _ hz
    have h3:(aC p).len<p.len:=dI (by rcases hk with hk|hk<;>rw[hk]<;>decide)
    have h4:(az (aC p)).len≤(aC p).len:=cd _
    have h5:sg [ndK (if af p=4 then 3 else 4) (l++y.ns)]=2+(sg l+sg y.ns):=by rw[gW];unfold ndK;rw[db,kM]
    omega
   ·cases h;exact Nat.le_refl _
  case pipe d p=>
   obtain⟨y,hy,rfl⟩:=Option.map_eq_some_iff.1 h
   have hp2:(if aG p=eD then aC p else p).len≤p.len:=by
    split
    ·exact ee p
    ·exact Nat.le_refl _
   have h1:sg y.ns+20*y.p.len≤0+20*(if aG p=eD then aC p else p).len+2:=ih _ _ hy
   have h2:sg (if aG p=eD then[Nd.mk 2 true [] [] [] [] y.ns] else ez 2 y.ns)≤sg y.ns+2:=by
    split
    ·rw[gW,db];omega
    ·exact xu 2 y.ns
   show sg (if aG p=eD then[Nd.mk 2 true [] [] [] [] y.ns] else ez 2 y.ns)+20*y.p.len≤0+20*p.len+4
   omega
  case pipeL d acc p=>
   obtain⟨y,hy,hz⟩:=Option.bind_eq_some_iff.1 h
   have h1:sg y.ns+20*y.p.len≤0+20*p.len+2:=ih _ _ hy
   have ha:=kM acc y.ns
   show sg x.ns+20*x.p.len≤sg acc+20*p.len+2
   split at hz
   ·rename_i hk
    have h2:sg x.ns+20*x.p.len≤sg (acc++y.ns)+20*(az (aC y.p)).len+2:=ih _ _ hz
    have h3:(aC y.p).len<y.p.len:=dI (by rw[hk];decide)
    have h4:(az (aC y.p)).len≤(aC y.p).len:=cd _
    omega
   ·cases hz
    show sg (acc++y.ns)+20*y.p.len≤_
    omega
  case command d p=>
   show sg x.ns+20*x.p.len≤0+20*p.len+2
   have leaf:∀(k:Int) (a:List (List UInt8×List Prt)) (w:List (List Prt)) (r:List (Int×List Prt)),sg [Nd.mk k false [] a w r []]=2:=fun k a w r=>by rw[gW,db];rfl
   split at h
   ·cases h
    have h1:(aV p).2.len≤p.len:=pN p
    have h2:sg [(aV p).1]=2:=leaf _ _ _ _
    show sg [(aV p).1]+20*(aV p).2.len≤_
    omega
   ·split at h
    ·cases h
     have h2:sg [Nd0]=2:=leaf _ _ _ _
     show sg [Nd0]+20*0≤_
     omega
    ·split at h
     ·cases h
      have h2:sg [Nd0]=2:=leaf _ _ _ _
      show sg [Nd0]+20*0≤_
      omega
     ·rename_i hr _ _
      obtain⟨y,hy,rfl⟩:=Option.map_eq_some_iff.1 h
      have h1:sg y.ns+20*y.p.len≤0+20*(aC p).len+14:=ih _ _ hy
      have h2:(aC p).len<p.len:=ev hr
      have h3:(aY y.p).2.len≤y.p.len:=pB _
      have h4:=Bb (aY y.p).1 y.ns
      show sg (y.ns.map (fM (aY y.p).1))+20*(aY y.p).2.len≤_
      omega
  case read d s p=>
   show sg x.ns+20*x.p.len≤0+20*p.len+14
   split at h
   ·exact ih _ _ h
   ·split at h
    ·exact ih _ _ h
    ·split at h
     ·exact ih _ _ h
     ·split at h
      ·exact ih _ _ h
      ·exact ih _ _ h
  case branches d acc p=>
   show sg x.ns+20*x.p.len≤sg acc+20*p.len+14
   obtain⟨y,hy,h⟩:=Option.bind_eq_some_iff.1 h
   obtain⟨z,hz,h⟩:=Option.bind_eq_some_iff.1 h
   have h1:sg y.ns+20*y.p.len≤0+20*p.len+6:=ih _ _ hy
   have h2:sg z.ns+20*z.p.len≤0+20*(ay dy y.p).len+6:=ih _ _ hz
   have h3:(ay dy y.p).len≤y.p.len:=bS _ _
   have ha:sg (acc++y.ns++z.ns)=sg acc+sg y.ns+sg z.ns:=by rw[kM,kM]
   split at h
   ·rename_i he
    have h4:sg x.ns+20*x.p.len≤sg (acc++y.ns++z.ns)+20*(aC z.p).len+14:=ih _ _ h
    have h5:(aC z.p).len<z.p.len:=ev (by rw[he];decide)
    omega
   ·split at h
    ·rename_i he
     obtain⟨u,hu,rfl⟩:=Option.map_eq_some_iff.1 h
     have h4:sg u.ns+20*u.p.len≤0+20*(aC z.p).len+6:=ih _ _ hu
     have h5:(aC z.p).len<z.p.len:=ev (by rw[he];decide)
     have h6:(ay rFi u.p).len≤u.p.len:=bS _ _
     have h7:sg [ndK 6 (acc++y.ns++z.ns++u.ns)]=2+(sg (acc++y.ns++z.ns)+sg u.ns):=by rw[gW];unfold ndK;rw[db,kM]
     show sg [ndK 6 (acc++y.ns++z.ns++u.ns)]+20*(ay rFi u.p).len≤_
     omega
    ·cases h
     have h6:(ay rFi z.p).len≤z.p.len:=bS _ _
     have h7:sg [ndK 6 (acc++y.ns++z.ns)]=2+sg (acc++y.ns++z.ns):=by rw[gW];unfold ndK;rw[db]
     show sg [ndK 6 (acc++y.ns++z.ns)]+20*(ay rFi z.p).len≤_
     omega
  case loop d k p=>
   show sg x.ns+20*x.p.len≤0+20*p.len+14
   obtain⟨y,hy,h⟩:=Option.bind_eq_some_iff.1 h
   obtain⟨z,hz,rfl⟩:=Option.map_eq_some_iff.1 h
   have h1:sg y.ns+20*y.p.len≤0+20*p.len+6:=ih _ _ hy
   have h2:sg z.ns+20*z.p.len≤0+20*y.p.len+6:=ih _ _ hz
   have h7:sg [ndK k (y.ns++z.ns)]=2+(sg y.ns+sg z.ns):=by rw[gW];unfold ndK;rw[db,kM]
   show sg [ndK k (y.ns++z.ns)]+20*z.p.len≤_
   omega
  case body d p=>
   show sg x.ns+20*x.p.len≤0+20*p.len+6
   obtain⟨y,hy,rfl⟩:=Option.map_eq_some_iff.1 h
   have h1:sg y.ns+20*y.p.len≤0+20*(ay rDo p).len+6:=ih _ _ hy
   have h2:(ay rDo p).len≤p.len:=bS _ _
   have h3:(ay ct y.p).len≤y.p.len:=bS _ _
   show sg y.ns+20*(ay ct y.p).len≤_
   omega
  case each d p=>
   show sg x.ns+20*x.p.len≤0+20*p.len+14
   obtain⟨y,hy,rfl⟩:=Option.map_eq_some_iff.1 h
   have h1:sg y.ns+20*y.p.len≤0+20*(bR p).2.2.len+6:=ih _ _ hy
   have h2:(bR p).2.2.len≤p.len:=oy p
   have h7:sg [Nd.mk 9 false (bR p).1 [] (bR p).2.1 [] y.ns]=2+sg y.ns:=by rw[gW,db]
   show sg [Nd.mk 9 false (bR p).1 [] (bR p).2.1 [] y.ns]+20*y.p.len≤_
   omega
  case group d p=>
   show sg x.ns+20*x.p.len≤0+20*p.len+14
   obtain⟨y,hy,rfl⟩:=Option.map_eq_some_iff.1 h
   have h1:sg y.ns+20*y.p.len≤0+20*p.len+6:=ih _ _ hy
   have h3:(ay gA y.p).len≤y.p.len:=bS _ _
   have h7:sg [ndK 10 y.ns]=2+sg y.ns:=by rw[gW];unfold ndK;rw[db]
   show sg [ndK 10 y.ns]+20*(ay gA y.p).len≤_
   omega
theorem sD:∀(N:Nat) (n:Nd),szN n≤N→(aJ n).length+1≤szN n∧∀m∈aJ n,szN m≤szN n
 |0,n,h=>by obtain⟨k,b,s,a,w,r,l⟩:=n;rw[db] at h;omega
 |N+1,.mk k b s a w r l,h=>by
  rw[ie,gR]
  rw[db] at h⊢
  have key:∀l:List Nd,sg l≤N→(l.flatMap aJ).length≤sg l∧∀m∈l.flatMap aJ,szN m≤sg l:=by
   intro l
   induction l with
   |nil=>intro _;exact⟨Nat.zero_le _,fun m hm=>by simp at hm⟩
   |cons x l ih=>
    intro hl
    have e:sg (x::l)=szN x+sg l:=by unfold sg;simp
    obtain⟨i1,i2⟩:=ih (by omega)
    obtain⟨j1,j2⟩:=sD N x (by omega)
    rw[List.flatMap_cons]
    refine⟨by rw[List.length_append];omega,fun m hm=>?_⟩
    rcases List.mem_append.1 hm with hm|hm
    ·have:=j2 m hm;omega
    ·have:=i2 m hm;omega
  obtain⟨i1,i2⟩:=key l (by omega)
  refine⟨by rw[List.length_cons];omega,fun m hm=>?_⟩
  rcases List.mem_cons.1 hm with rfl|hm
  ·rw[db];exact Nat.le_refl _
  ·have:=i2 m hm;omega
theorem Bu:∀l:List Nd,l.length≤sg l
 |[]=>Nat.le_refl _
 |x::l=>by
  have e:sg (x::l)=szN x+sg l:=by unfold sg;simp
  have ih:=Bu l
  obtain⟨k,b,s,a,w,r,l'⟩:=x
  have e2:=db k b s a w r l'
  rw[List.length_cons];omega
theorem AV {n:Nd} (h:iA n) (hz:szN n≤100000):∀m∈aJ n,OkM m:=fun m hm=>by
 have h1:=h m hm
 have h2:=(sD _ n (Nat.le_refl _)).2 m hm
 obtain⟨k,b,s,a,w,r,l⟩:=m
 rw[db] at h2
 have h3:=Bu l
 exact⟨Nat.le_trans h1.la (by decide),Nat.le_trans h1.lw (by decide),Nat.le_trans h1.lr (by decide),by show l.length≤_;omega,Nat.le_trans h1.ln (by decide),fun a ha=>⟨Nat.le_trans (h1.ta a ha).1 (by decide),Nat.le_trans (h1.ta a ha).2 (by decide)⟩,fun a ha=>Nat.le_trans (h1.tw a ha) (by decide),fun a ha=>Nat.le_trans (h1.tr a ha) (by decide)⟩
end Go.Proofs.YtgigdlhcjahejaaGreatDoor
