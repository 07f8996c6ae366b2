/- Of the proof of ParseKnown: ParW. -/
import Derived.Test.YtgigdlhcjahejaaGreatDoorC44
namespace Go.Proofs.YtgigdlhcjahejaaGreatDoor
open Go Go.RowKit Go.Lw
set_option linter.unusedVariables false
set_option linter.unusedSimpArgs false
def SmP (p:Ps):Prop:=p.r.length≤2048∧∀t∈p.r,t.text.length≤2048
theorem SmP.sub {p q:Ps} (h:SmP p) (hs:q.r.Sublist p.r):SmP q:=⟨Nat.le_trans hs.length_le h.1,fun t ht=>h.2 t (hs.subset ht)⟩
theorem SmP.fail {p:Ps} (h:SmP p) (e:Nat):SmP (bd p e):=h.sub (List.nil_sublist _)
theorem SmP.tail {p:Ps} (h:SmP p):SmP (az p):=h.sub (List.tail_sublist _)
theorem SmP.rest {p:Ps} (h:SmP p):SmP (aB p):=h.sub (List.dropWhile_sublist _)
theorem SmP.stop {p:Ps} (h:SmP p):SmP (aW p).2:=by
 unfold aW
 split
 ·exact h.tail
 ·exact h
theorem SmP.mA {p:Ps} (h:SmP p) (s:List UInt8):SmP (aH s p):=by
 unfold aH
 split
 ·exact h.tail
 ·exact h.fail 5
theorem ig (p:Ps):(aQ p).2.r.Sublist p.r∧((aQ p).1=[]∨∃t∈p.r,bG t.text= .ok (aQ p).1):=by
 obtain⟨r,e⟩:=p
 unfold aQ
 cases r with
 |nil=>exact⟨List.nil_sublist _,.inl rfl⟩
 |cons t r=>
  simp only
  split
  ·split
   ·rename_i w hw
    exact⟨List.sublist_cons_self t r,.inr ⟨t,List.mem_cons_self,hw⟩⟩
   ·exact⟨List.nil_sublist _,.inl rfl⟩
  ·exact⟨List.nil_sublist _,.inl rfl⟩
theorem SmP.word {p:Ps} (h:SmP p):SmP (aQ p).2∧(av (aQ p).1).length≤24576:=by
 obtain⟨h1,h2⟩:=ig p
 refine⟨h.sub h1,?_⟩
 rcases h2 with h2|⟨t,ht,h2⟩
 ·rw[h2,ek];exact Nat.zero_le _
 ·have:=nW h2
  have:=h.2 t ht
  omega
def AG (l:List (List Prt)):Prop:=∀x∈l,(av x).length≤24576
def zY (l:List (Int×List Prt)):Prop:=∀x∈l,(av x.2).length≤24576
def Bj (l:List (List UInt8×List Prt)):Prop:=∀x∈l,x.1.length≤2048∧(av x.2).length≤24576
theorem SmP.uH {p p':Ps} {x:Int×List Prt} (h:SmP p) (hr:bI p=some (x,p')):SmP p'∧(av x.2).length≤24576:=by
 unfold bI at hr
 split at hr
 ·cases hr
 ·cases hr
  exact h.tail.word
theorem oy:∀(n:Nat) (p:Ps),SmP p→SmP (bp n p).2∧zY (bp n p).1∧(bp n p).1.length+(bp n p).2.r.length≤p.r.length
 |0,p,h=>⟨h,fun x hx=>(by cases hx),by show 0+_≤_;rw[Nat.zero_add];exact Nat.le_refl _⟩
 |n+1,p,h=>by
  unfold bp
  split
  ·exact⟨h,fun x hx=>(by cases hx),by show 0+_≤_;rw[Nat.zero_add];exact Nat.le_refl _⟩
  ·rename_i x p' hr
   obtain⟨h1,h2⟩:=h.uH hr
   obtain⟨h3,h4,h5⟩:=oy n p' h1
   have h6:p'.r.length<p.r.length:=dA hr
   refine⟨h3,fun y hy=>?_,by show(x::(bp n p').1).length+(bp n p').2.r.length≤p.r.length;rw[List.length_cons];omega⟩
   rcases List.mem_cons.1 hy with rfl|hy
   ·exact h2
   ·exact h4 y hy
theorem lS {s:List UInt8} {a:List UInt8×List Prt} (h:bc s=some a):a.1.length≤s.length∧(av a.2).length≤12*s.length:=by
 unfold bc at h
 have hc1:(dv 61 s).1.length≤s.length:=by unfold dv;exact(List.takeWhile_sublist _).length_le
 have hc2:(dv 61 s).2.length≤s.length:=by unfold dv;exact Nat.le_trans (by rw[List.length_drop];exact Nat.sub_le _ _) (List.dropWhile_sublist _).length_le
 split at h
 ·split at h
  ·cases h
   exact⟨hc1,by rw[ek];exact Nat.zero_le _⟩
  ·split at h
   ·rename_i l hl
    cases h
    have:=nW hl
    exact⟨hc1,by show(av l).length≤_;omega⟩
   ·cases h
 ·cases h
def sx (m:Sm):Prop:=Bj m.al∧AG m.ws∧zY m.rs
theorem nT {m:Sm} {p:Ps} {x:Sm×Ps} (h:cb m p=some x) (hm:sx m) (hp:SmP p):sx x.1∧SmP x.2∧x.1.al.length+x.1.ws.length+x.1.rs.length+x.2.r.length≤m.al.length+m.ws.length+m.rs.length+p.r.length:=by
 have hl:=ew h
 unfold cb at h
 split at h
 ·rename_i y p' e
  cases h
  obtain⟨h1,h2⟩:=hp.uH e
  have hl':p'.r.length<p.r.length:=hl
  refine⟨⟨hm.1,hm.2.1,fun z hz=>?_⟩,h1,by show m.al.length+m.ws.length+(m.rs++[y]).length+p'.r.length≤_;simp only[List.length_append,List.length_cons,List.length_nil];omega⟩
  rcases List.mem_append.1 hz with hz|hz
  ·exact hm.2.2 z hz
  ·rw[List.mem_singleton.1 hz];exact h2
 ·split at h
  ·cases h
  ·rename_i t r e
   have hsub:r.Sublist p.r:=by rw[e];exact List.sublist_cons_self t r
   have htx:t.text.length≤2048:=hp.2 t (by rw[e];exact List.mem_cons_self)
   split at h
   ·split at h
    ·cases h
     have hl':r.length<p.r.length:=hl
     refine⟨⟨fun z hz=>?_,hm.2⟩,hp.sub hsub,by show(m.al++[(bc t.text).getD ([],[])]).length+m.ws.length+m.rs.length+r.length≤_;simp only[List.length_append,List.length_cons,List.length_nil];omega⟩
     rcases List.mem_append.1 hz with hz|hz
     ·exact hm.1 z hz
     ·rw[List.mem_singleton.1 hz]
      cases ea:bc t.text with
      |none=>exact⟨Nat.zero_le _,by show(av []).length≤_;rw[ek];exact Nat.zero_le _⟩
      |some a=>
       have:=lS ea
       exact⟨by show a.1.length≤_;omega,by show(av a.2).length≤_;omega⟩
    ·split at h
     ·cases h
      exact⟨hm,hp.fail 5,by show m.al.length+m.ws.length+m.rs.length+0≤_;omega⟩
     ·cases h
      have hl':(aQ p).2.r.length<p.r.length:=hl
      refine⟨⟨hm.1,fun z hz=>?_,hm.2.2⟩,hp.word.1,by show m.al.length+(m.ws++[(aQ p).1]).length+m.rs.length+(aQ p).2.r.length≤_;simp only[List.length_append,List.length_cons,List.length_nil];omega⟩
      rcases List.mem_append.1 hz with hz|hz
      ·exact hm.2.1 z hz
      ·rw[List.mem_singleton.1 hz];exact hp.word.2
   ·cases h
theorem oh:∀(n:Nat) (m:Sm) (p:Ps),sx m→SmP p→sx (aM n m p).1∧SmP (aM n m p).2∧(aM n m p).1.al.length+(aM n m p).1.ws.length+(aM n m p).1.rs.length+(aM n m p).2.r.length≤m.al.length+m.ws.length+m.rs.length+p.r.length
 |0,m,p,h1,h2=>⟨h1,h2,Nat.le_refl _⟩
 |n+1,m,p,h1,h2=>by
  unfold aM
  split
  ·exact⟨h1,h2,Nat.le_refl _⟩
  ·rename_i x hx
   obtain⟨a1,a2,a3⟩:=nT hx h1 h2
   obtain⟨b1,b2,b3⟩:=oh n x.1 x.2 a1 a2
   exact⟨b1,b2,by omega⟩
theorem pw:∀(n:Nat) (p:Ps),SmP p→SmP (bF n p).2∧AG (bF n p).1∧(bF n p).1.length+(bF n p).2.r.length≤p.r.length
 |0,p,h=>⟨h,fun x hx=>(by cases hx),by show 0+_≤_;rw[Nat.zero_add];exact Nat.le_refl _⟩
 |n+1,p,h=>by
  unfold bF
  split
  ·rename_i hk
   obtain⟨h3,h4,h5⟩:=pw n _ h.word.1
   have h6:(aQ p).2.r.length<p.r.length:=eD hk
   refine⟨h3,fun y hy=>?_,by show((aQ p).1::(bF n (aQ p).2).1).length+(bF n (aQ p).2).2.r.length≤p.r.length;rw[List.length_cons];omega⟩
   rcases List.mem_cons.1 hy with rfl|hy
   ·exact h.word.2
   ·exact h4 y hy
  ·exact⟨h,fun x hx=>(by cases hx),by show 0+_≤_;rw[Nat.zero_add];exact Nat.le_refl _⟩
structure OkT (m:Nd):Prop where
 la:m.al.length≤2048
 lw:m.ws.length≤2048
 lr:m.rs.length≤4096
 ln:m.name.length≤2048
 ta:Bj m.al
 tw:AG m.ws
 tr:zY m.rs
def gL (n:Nd):Prop:=∀m∈aC n,OkT m
theorem gg:∀l:List Nd,aL l=l.flatMap aC
 |[]=>by show aC.aL []=_;rw[aC.aL];rfl
 |n::l=>by show aC.aL (n::l)=_;rw[aC.aL,List.flatMap_cons];exact congrArg _ (gg l)
theorem qu {k:Int} {b:Bool} {s:List UInt8} {a:List (List UInt8×List Prt)} {w:List (List Prt)} {r:List (Int×List Prt)} {l:List Nd} (h:OkT (.mk k b s a w r l)) (hl:∀x∈l,gL x):gL (.mk k b s a w r l):=fun m hm=>by
 rw[gI,gg] at hm
 rcases List.mem_cons.1 hm with rfl|hm
 ·exact h
 ·obtain⟨x,hx,hm⟩:=List.mem_flatMap.1 hm
  exact hl x hx m hm
theorem wO {k:Int} {b:Bool} {s:List UInt8} {a:List (List UInt8×List Prt)} {w:List (List Prt)} {r:List (Int×List Prt)} {l:List Nd} (h:gL (.mk k b s a w r l)):OkT (.mk k b s a w r l)∧∀x∈l,gL x:=by
 unfold gL at h
 rw[gI,gg] at h
 exact⟨h _ List.mem_cons_self,fun x hx m hm=>h m (List.mem_cons_of_mem _ (List.mem_flatMap.2 ⟨x,hx,hm⟩))⟩
theorem yh (k:Int) (b:Bool) (l:List Nd):OkT (.mk k b [] [] [] [] l):=⟨Nat.zero_le _,Nat.zero_le _,Nat.zero_le _,Nat.zero_le _,fun x hx=>(by cases hx),fun x hx=>(by cases hx),fun x hx=>(by cases hx)⟩
theorem dS {k:Int} {b:Bool} {l:List Nd} (hl:∀x∈l,gL x):gL (.mk k b [] [] [] [] l):=qu (yh k b l) hl
theorem r7 {k:Int} {l:List Nd} (hl:∀x∈l,gL x):∀x∈fN k l,gL x:=by
 unfold fN
 split
 ·exact hl
 ·intro x hx
  rw[List.mem_singleton.1 hx]
  exact dS hl
def Job.comp:Job→Prop
 |.read _ _ _|.branches _ _ _|.loop _ _ _|.each _ _|.group _ _=>True
 |_=>False
theorem su:∀(n:Nat) (j:Job) (x:Rd9),run n j=some x→j.comp→∀nd∈x.ns,nd.rs=[]
 |0,_,_,h,_=>by cases h
 |n+1,j,x,h,hc=>by
  have ih:=su n
  cases j<;>unfold run at h<;>try exact hc.elim
  case read d s p=>
   split at h
   ·exact ih _ _ h trivial
   ·split at h
    ·exact ih _ _ h trivial
    ·split at h
     ·exact ih _ _ h trivial
     ·split at h
      ·exact ih _ _ h trivial
      ·exact ih _ _ h trivial
  case branches d acc p=>
   obtain⟨y,hy,h⟩:=Option.bind_eq_some_iff.1 h
   obtain⟨z,hz,h⟩:=Option.bind_eq_some_iff.1 h
   split at h
   ·exact ih _ _ h trivial
   ·split at h
    ·obtain⟨u,hu,rfl⟩:=Option.map_eq_some_iff.1 h
     intro nd hn;rw[List.mem_singleton.1 hn];rfl
    ·cases h
     intro nd hn;rw[List.mem_singleton.1 hn];rfl
  case loop d k p=>
   obtain⟨y,hy,h⟩:=Option.bind_eq_some_iff.1 h
   obtain⟨z,hz,rfl⟩:=Option.map_eq_some_iff.1 h
   intro nd hn;rw[List.mem_singleton.1 hn];rfl
  case each d p=>
   obtain⟨y,hy,rfl⟩:=Option.map_eq_some_iff.1 h
   intro nd hn;rw[List.mem_singleton.1 hn];rfl
  case group d p=>
   obtain⟨y,hy,rfl⟩:=Option.map_eq_some_iff.1 h
   intro nd hn;rw[List.mem_singleton.1 hn];rfl
def Job.has:Job→List Nd
 |.kids _ acc _|.pipeL _ acc _|.branches _ acc _|.chainL _ acc _=>acc
 |_=>[]
theorem jx {a b:List Nd} (h:∀x∈a,gL x) (k:∀x∈b,gL x):∀x∈a++b,gL x:=fun x hx=>(List.mem_append.1 hx).elim (h x) (k x)
theorem yT:∀(n:Nat) (j:Job) (x:Rd9),run n j=some x→SmP j.p→(∀nd∈j.has,gL nd)→SmP x.p∧∀nd∈x.ns,gL nd
 |0,_,_,h,_,_=>by cases h
 |n+1,j,x,h,hp,ha=>by
  have ih:=yT n
  have no:∀nd∈([]:List Nd),gL nd:=fun nd h=>by cases h
  cases j<;>unfold run at h
  case block d p=>
   obtain⟨y,hy,rfl⟩:=Option.map_eq_some_iff.1 h
   obtain⟨h1,h2⟩:=ih _ _ hy (SmP.rest hp) no
   refine⟨?_,h2⟩
   show SmP (if _ then _ else _)
   split
   ·exact h1
   ·exact h1.fail 5
  case list d p=>
   obtain⟨y,hy,rfl⟩:=Option.map_eq_some_iff.1 h
   obtain⟨h1,h2⟩:=ih _ _ hy hp no
   exact⟨h1,r7 h2⟩
  case kids d acc p=>
   obtain⟨y,hy,hz⟩:=Option.bind_eq_some_iff.1 h
   obtain⟨h1,h2⟩:=ih _ _ hy hp no
   have h3:=jx (show∀nd∈acc,gL nd from ha) h2
   split at hz
   ·split at hz
    ·exact ih _ _ hz h1.stop.rest h3
    ·cases hz;exact⟨h1.stop.rest,h3⟩
   ·cases hz;exact⟨h1,h3⟩
  case chain d p=>
   obtain⟨y,hy,hz⟩:=Option.bind_eq_some_iff.1 h
   obtain⟨h1,h2⟩:=ih _ _ hy hp no
   exact ih _ _ hz h1 h2
  case chainL d l p=>
   split at h
   ·obtain⟨y,hy,hz⟩:=Option.bind_eq_some_iff.1 h
    obtain⟨h1,h2⟩:=ih _ _ hy (SmP.rest (SmP.tail hp)) no
    exact ih _ _ hz h1 (fun nd hn=>by rw[List.mem_singleton.1 hn];exact dS (jx ha h2))
   ·cases h;exact⟨hp,ha⟩
  case pipe d p=>
   obtain⟨y,hy,rfl⟩:=Option.map_eq_some_iff.1 h
   have hp2:SmP (if aT p=fh then az p else p):=by
    split
    ·exact SmP.tail hp
    ·exact hp
   obtain⟨h1,h2⟩:=ih _ _ hy hp2 no
   refine⟨h1,?_⟩
   show∀nd∈(if aT p=fh then _ else _:List Nd),_
   split
   ·intro nd hn;rw[List.mem_singleton.1 hn];exact dS h2
   ·exact r7 h2
  case pipeL d acc p=>
   obtain⟨y,hy,hz⟩:=Option.bind_eq_some_iff.1 h
   obtain⟨h1,h2⟩:=ih _ _ hy hp no
   have h3:=jx (show∀nd∈acc,gL nd from ha) h2
   split at hz
   ·exact ih _ _ hz h1.tail.rest h3
   ·cases hz;exact⟨h1,h3⟩
  case command d p=>
   split at h
   ·cases h
    obtain⟨a1,a2,a3⟩:=oh (p.r.length+1) ⟨[],[],[]⟩ p ⟨fun x hx=>(by cases hx),fun x hx=>(by cases hx),fun x hx=>(by cases hx)⟩ hp
    have hp1:p.r.length≤2048:=hp.1
    have a3':(aM (p.r.length+1) ⟨[],[],[]⟩ p).1.al.length+(aM (p.r.length+1) ⟨[],[],[]⟩ p).1.ws.length+(aM (p.r.length+1) ⟨[],[],[]⟩ p).1.rs.length+(aM (p.r.length+1) ⟨[],[],[]⟩ p).2.r.length≤0+0+0+p.r.length:=a3
    refine⟨?_,fun nd hn=>?_⟩
    ·show SmP (if _ then _ else _)
     split
     ·exact a2.fail 5
     ·exact a2
    ·rw[List.mem_singleton.1 hn]
     exact qu ⟨by show(aM _ _ _).1.al.length≤_;omega,by show(aM _ _ _).1.ws.length≤_;omega,by show(aM _ _ _).1.rs.length≤_;omega,Nat.zero_le _,a1.1,a1.2.1,a1.2.2⟩ no
   ·split at h
    ·cases h
     exact⟨SmP.fail hp 5,fun nd hn=>by rw[List.mem_singleton.1 hn];exact dS no⟩
    ·split at h
     ·cases h
      exact⟨SmP.fail hp 12,fun nd hn=>by rw[List.mem_singleton.1 hn];exact dS no⟩
     ·obtain⟨y,hy,rfl⟩:=Option.map_eq_some_iff.1 h
      obtain⟨h1,h2⟩:=ih _ _ hy (SmP.tail hp) no
      have hrs:=su _ _ _ hy trivial
      obtain⟨b1,b2,b3⟩:=oy (y.p.r.length+1) y.p h1
      refine⟨b1,fun nd hn=>?_⟩
      obtain⟨m,hm,rfl⟩:=List.mem_map.1 hn
      have hr0:=hrs m hm
      obtain⟨k,b,s,a,w,r,l⟩:=m
      have hr0':r=[]:=hr0
      subst hr0'
      obtain⟨c1,c2⟩:=wO (h2 _ hm)
      have h1':=h1.1
      exact qu ⟨c1.la,c1.lw,by show([]++(bp (y.p.r.length+1) y.p).1).length≤_;rw[List.nil_append];omega,c1.ln,c1.ta,c1.tw,by show zY ([]++_);rw[List.nil_append];exact b2⟩ c2
  case read d s p=>
   split at h
   ·exact ih _ _ h hp no
   ·split at h
    ·exact ih _ _ h hp no
    ·split at h
     ·exact ih _ _ h hp no
     ·split at h
      ·exact ih _ _ h hp no
      ·exact ih _ _ h hp no
  case branches d acc p=>
   obtain⟨y,hy,h⟩:=Option.bind_eq_some_iff.1 h
   obtain⟨z,hz,h⟩:=Option.bind_eq_some_iff.1 h
   obtain⟨h1,h2⟩:=ih _ _ hy hp no
   obtain⟨h3,h4⟩:=ih _ _ hz (h1.mA _) no
   have h5:=jx (jx (show∀nd∈acc,gL nd from ha) h2) h4
   split at h
   ·exact ih _ _ h h3.tail h5
   ·split at h
    ·obtain⟨u,hu,rfl⟩:=Option.map_eq_some_iff.1 h
     obtain⟨h6,h7⟩:=ih _ _ hu h3.tail no
     exact⟨h6.mA _,fun nd hn=>by rw[List.mem_singleton.1 hn];exact dS (jx h5 h7)⟩
    ·cases h
     exact⟨h3.mA _,fun nd hn=>by rw[List.mem_singleton.1 hn];exact dS h5⟩
  case loop d k p=>
   obtain⟨y,hy,h⟩:=Option.bind_eq_some_iff.1 h
   obtain⟨z,hz,rfl⟩:=Option.map_eq_some_iff.1 h
   obtain⟨h1,h2⟩:=ih _ _ hy hp no
   obtain⟨h3,h4⟩:=ih _ _ hz h1 no
   exact⟨h3,fun nd hn=>by rw[List.mem_singleton.1 hn];exact dS (jx h2 h4)⟩
  case body d p=>
   obtain⟨y,hy,rfl⟩:=Option.map_eq_some_iff.1 h
   obtain⟨h1,h2⟩:=ih _ _ hy (SmP.mA hp _) no
   exact⟨h1.mA _,h2⟩
  case each d p=>
   obtain⟨y,hy,rfl⟩:=Option.map_eq_some_iff.1 h
   have hq:SmP (cA p).2∧(cA p).1.length≤2048:=by
    obtain⟨r,e⟩:=p
    unfold cA
    cases r with
    |nil=>exact⟨SmP.fail hp 5,Nat.zero_le _⟩
    |cons t r=>
     simp only
     split
     ·exact⟨SmP.sub hp (List.sublist_cons_self t r),hp.2 t List.mem_cons_self⟩
     ·exact⟨SmP.fail hp 5,Nat.zero_le _⟩
   have hm:=hq.1.rest.mA rIn
   obtain⟨w1,w2,w3⟩:=pw ((aH rIn (aB (cA p).2)).r.length+1) _ hm
   have hs:SmP (gp (cL (aH rIn (aB (cA p).2))).2):=by
    unfold gp
    split
    ·exact w1.stop
    ·exact w1.fail 5
   have hpe:SmP (dP p).2.2:=by rw[fM];exact hs.rest
   obtain⟨h1,h2⟩:=ih _ _ hy hpe no
   refine⟨h1,fun nd hn=>?_⟩
   rw[List.mem_singleton.1 hn,fM]
   have hm1:=hm.1
   have w3':(cL (aH rIn (aB (cA p).2))).1.length+(cL (aH rIn (aB (cA p).2))).2.r.length≤_:=w3
   exact qu ⟨Nat.zero_le _,by show(cL _).1.length≤_;omega,Nat.zero_le _,hq.2,fun x hx=>(by cases hx),w2,fun x hx=>(by cases hx)⟩ h2
  case group d p=>
   obtain⟨y,hy,rfl⟩:=Option.map_eq_some_iff.1 h
   obtain⟨h1,h2⟩:=ih _ _ hy hp no
   exact⟨h1.mA _,fun nd hn=>by rw[List.mem_singleton.1 hn];exact dS h2⟩
def sg (l:List Nd):Nat:=(l.map szN).sum
theorem jN (a b:List Nd):sg (a++b)=sg a+sg b:=by unfold sg;rw[List.map_append,List.sum_append]
theorem gq (n:Nd):sg [n]=szN n:=by unfold sg;simp
theorem uB:∀l:List Nd,cE l=1+sg l
 |[]=>by show szN.cE []=_;rw[szN.cE];rfl
 |n::l=>by
  have ih:=uB l
  show szN.cE (n::l)=_
  rw[szN.cE]
  have e:szN.cE l=1+sg l:=ih
  have e2:sg (n::l)=szN n+sg l:=by unfold sg;simp
  omega
theorem cK (k:Int) (b:Bool) (s:List UInt8) (a:List (List UInt8×List Prt)) (w:List (List Prt)) (r:List (Int×List Prt)) (l:List Nd):szN (.mk k b s a w r l)=2+sg l:=by
 have h:=gN (.mk k b s a w r l)
 have h2:szN (.mk k b s a w r l)=1+cE l:=h
 rw[h2,uB];omega
theorem uG (k:Int) (l:List Nd):sg (fN k l)≤sg l+2:=by
 unfold fN
 split
 ·omega
 ·rw[gq];unfold ndK;rw[cK];omega
theorem yy (rs:List (Int×List Prt)) (n:Nd):szN (gz rs n)=szN n:=by
 obtain⟨k,b,s,a,w,r,l⟩:=n
 rw[nN,cK,cK]
theorem yx (rs:List (Int×List Prt)) (l:List Nd):sg (l.map (gz rs))=sg l:=by
 unfold sg
 rw[List.map_map]
 congr 1
 exact List.map_congr_left fun n _=>yy rs n
def Job.extra:Job→Nat
 |.command _ _=>2
 |.pipeL _ _ _=>2
 |.pipe _ _=>4
 |.chainL _ _ _=>0
 |.chain _ _=>4
 |.kids _ _ _=>4
 |.list _ _=>6
 |.block _ _=>6
 |.body _ _=>6
 |.group _ _=>14
 |.branches _ _ _=>14
 |.loop _ _ _=>14
 |.each _ _=>14
 |.read _ _ _=>14
theorem xJ:∀(n:Nat) (j:Job) (x:Rd9),run n j=some x→sg x.ns+20*x.p.len≤sg j.has+20*j.p.len+j.extra
 |0,_,_,h=>by cases h
 |n+1,j,x,h=>by
  have ih:=xJ n
  cases j<;>unfold run at h
  case block d p=>
   obtain⟨y,hy,rfl⟩:=Option.map_eq_some_iff.1 h
   have h1:=ih _ _ hy
   have h2:(aB p).len≤p.len:=bL p
   have h3:(if y.st then y.p else bd y.p 5).len≤y.p.len:=by
    split
    ·exact Nat.le_refl _
    ·exact Nat.zero_le _
   have h1':sg y.ns+20*y.p.len≤0+20*(aB p).len+6:=h1
   show sg y.ns+20*(if y.st then y.p else bd y.p 5).len≤0+20*p.len+6
   omega
  case list d p=>
   obtain⟨y,hy,rfl⟩:=Option.map_eq_some_iff.1 h
   have h1:sg y.ns+20*y.p.len≤0+20*p.len+4:=ih _ _ hy
   have h2:=uG 5 y.ns
   show sg (fN 5 y.ns)+20*y.p.len≤0+20*p.len+6
   omega
  case kids d acc p=>
   obtain⟨y,hy,hz⟩:=Option.bind_eq_some_iff.1 h
   have h1:sg y.ns+20*y.p.len≤0+20*p.len+4:=ih _ _ hy
   have ha:=jN acc y.ns
   show sg x.ns+20*x.p.len≤sg acc+20*p.len+4
   split at hz
   ·rename_i hs
    have h2:(aW y.p).2.len<y.p.len:=i7 hs
    have h3:(aB (aW y.p).2).len≤(aW y.p).2.len:=bL _
    split at hz
    ·have h4:sg x.ns+20*x.p.len≤sg (acc++y.ns)+20*(aB (aW y.p).2).len+4:=ih _ _ hz
     omega
    ·cases hz
     show sg (acc++y.ns)+20*(aB (aW y.p).2).len≤_
     omega
   ·cases hz
    show sg (acc++y.ns)+20*y.p.len≤_
    omega
  case chain d p=>
   obtain⟨y,hy,hz⟩:=Option.bind_eq_some_iff.1 h
   have h1:sg y.ns+20*y.p.len≤0+20*p.len+4:=ih _ _ hy
   have h2:sg x.ns+20*x.p.len≤sg y.ns+20*y.p.len+0:=ih _ _ hz
   show sg x.ns+20*x.p.len≤0+20*p.len+4
   omega
  case chainL d l p=>
   show sg x.ns+20*x.p.len≤sg l+20*p.len+0
   split at h
   ·rename_i hk
    obtain⟨y,hy,hz⟩:=Option.bind_eq_some_iff.1 h
    have h1:sg y.ns+20*y.p.len≤0+20*(aB (az p)).len+4:=ih _ _ hy
    have h2:sg x.ns+20*x.p.len≤sg [ndK (if aj p=4 then 3 else 4) (l++y.ns)]+20*y.p.len+0:=ih _ _ hz
    have h3:(az p).len<p.len:=dk (by rcases hk with hk|hk<;>rw[hk]<;>decide)
    have h4:(aB (az p)).len≤(az p).len:=bL _
    have h5:sg [ndK (if aj p=4 then 3 else 4) (l++y.ns)]=2+(sg l+sg y.ns):=by rw[gq];unfold ndK;rw[cK,jN]
    omega
   ·cases h;exact Nat.le_refl _
  case pipe d p=>
   obtain⟨y,hy,rfl⟩:=Option.map_eq_some_iff.1 h
   have hp2:(if aT p=fh then az p else p).len≤p.len:=by
    split
    ·exact dG p
    ·exact Nat.le_refl _
   have h1:sg y.ns+20*y.p.len≤0+20*(if aT p=fh then az p else p).len+2:=ih _ _ hy
   have h2:sg (if aT p=fh then[Nd.mk 2 true [] [] [] [] y.ns] else fN 2 y.ns)≤sg y.ns+2:=by
    split
    ·rw[gq,cK];omega
    ·exact uG 2 y.ns
   show sg (if aT p=fh then[Nd.mk 2 true [] [] [] [] y.ns] else fN 2 y.ns)+20*y.p.len≤0+20*p.len+4
   omega
  case pipeL d acc p=>
   obtain⟨y,hy,hz⟩:=Option.bind_eq_some_iff.1 h
   have h1:sg y.ns+20*y.p.len≤0+20*p.len+2:=ih _ _ hy
   have ha:=jN acc y.ns
   show sg x.ns+20*x.p.len≤sg acc+20*p.len+2
   split at hz
   ·rename_i hk
    have h2:sg x.ns+20*x.p.len≤sg (acc++y.ns)+20*(aB (az y.p)).len+2:=ih _ _ hz
    have h3:(az y.p).len<y.p.len:=dk (by rw[hk];decide)
    have h4:(aB (az y.p)).len≤(az y.p).len:=bL _
    omega
   ·cases hz
    show sg (acc++y.ns)+20*y.p.len≤_
    omega
  case command d p=>
   show sg x.ns+20*x.p.len≤0+20*p.len+2
   have leaf:∀(k:Int) (a:List (List UInt8×List Prt)) (w:List (List Prt)) (r:List (Int×List Prt)),sg [Nd.mk k false [] a w r []]=2:=fun k a w r=>by rw[gq,cK];rfl
   split at h
   ·cases h
    have h1:(bO p).2.len≤p.len:=nM p
    have h2:sg [(bO p).1]=2:=leaf _ _ _ _
    show sg [(bO p).1]+20*(bO p).2.len≤_
    omega
   ·split at h
    ·cases h
     have h2:sg [Nd0]=2:=leaf _ _ _ _
     show sg [Nd0]+20*0≤_
     omega
    ·split at h
     ·cases h
      have h2:sg [Nd0]=2:=leaf _ _ _ _
      show sg [Nd0]+20*0≤_
      omega
     ·rename_i hr _ _
      obtain⟨y,hy,rfl⟩:=Option.map_eq_some_iff.1 h
      have h1:sg y.ns+20*y.p.len≤0+20*(az p).len+14:=ih _ _ hy
      have h2:(az p).len<p.len:=dI hr
      have h3:(a6 y.p).2.len≤y.p.len:=nJ _
      have h4:=yx (a6 y.p).1 y.ns
      show sg (y.ns.map (gz (a6 y.p).1))+20*(a6 y.p).2.len≤_
      omega
  case read d s p=>
   show sg x.ns+20*x.p.len≤0+20*p.len+14
   split at h
   ·exact ih _ _ h
   ·split at h
    ·exact ih _ _ h
    ·split at h
     ·exact ih _ _ h
     ·split at h
      ·exact ih _ _ h
      ·exact ih _ _ h
  case branches d acc p=>
   show sg x.ns+20*x.p.len≤sg acc+20*p.len+14
   obtain⟨y,hy,h⟩:=Option.bind_eq_some_iff.1 h
   obtain⟨z,hz,h⟩:=Option.bind_eq_some_iff.1 h
   have h1:sg y.ns+20*y.p.len≤0+20*p.len+6:=ih _ _ hy
   have h2:sg z.ns+20*z.p.len≤0+20*(aH eB y.p).len+6:=ih _ _ hz
   have h3:(aH eB y.p).len≤y.p.len:=bD _ _
   have ha:sg (acc++y.ns++z.ns)=sg acc+sg y.ns+sg z.ns:=by rw[jN,jN]
   split at h
   ·rename_i he
    have h4:sg x.ns+20*x.p.len≤sg (acc++y.ns++z.ns)+20*(az z.p).len+14:=ih _ _ h
    have h5:(az z.p).len<z.p.len:=dI (by rw[he];decide)
    omega
   ·split at h
    ·rename_i he
     obtain⟨u,hu,rfl⟩:=Option.map_eq_some_iff.1 h
     have h4:sg u.ns+20*u.p.len≤0+20*(az z.p).len+6:=ih _ _ hu
     have h5:(az z.p).len<z.p.len:=dI (by rw[he];decide)
     have h6:(aH rFi u.p).len≤u.p.len:=bD _ _
     have h7:sg [ndK 6 (acc++y.ns++z.ns++u.ns)]=2+(sg (acc++y.ns++z.ns)+sg u.ns):=by rw[gq];unfold ndK;rw[cK,jN]
     show sg [ndK 6 (acc++y.ns++z.ns++u.ns)]+20*(aH rFi u.p).len≤_
     omega
    ·cases h
     have h6:(aH rFi z.p).len≤z.p.len:=bD _ _
     have h7:sg [ndK 6 (acc++y.ns++z.ns)]=2+sg (acc++y.ns++z.ns):=by rw[gq];unfold ndK;rw[cK]
     show sg [ndK 6 (acc++y.ns++z.ns)]+20*(aH rFi z.p).len≤_
     omega
  case loop d k p=>
   show sg x.ns+20*x.p.len≤0+20*p.len+14
   obtain⟨y,hy,h⟩:=Option.bind_eq_some_iff.1 h
   obtain⟨z,hz,rfl⟩:=Option.map_eq_some_iff.1 h
   have h1:sg y.ns+20*y.p.len≤0+20*p.len+6:=ih _ _ hy
   have h2:sg z.ns+20*z.p.len≤0+20*y.p.len+6:=ih _ _ hz
   have h7:sg [ndK k (y.ns++z.ns)]=2+(sg y.ns+sg z.ns):=by rw[gq];unfold ndK;rw[cK,jN]
   show sg [ndK k (y.ns++z.ns)]+20*z.p.len≤_
   omega
  case body d p=>
   show sg x.ns+20*x.p.len≤0+20*p.len+6
   obtain⟨y,hy,rfl⟩:=Option.map_eq_some_iff.1 h
   have h1:sg y.ns+20*y.p.len≤0+20*(aH rDo p).len+6:=ih _ _ hy
   have h2:(aH rDo p).len≤p.len:=bD _ _
   have h3:(aH cy y.p).len≤y.p.len:=bD _ _
   show sg y.ns+20*(aH cy y.p).len≤_
   omega
  case each d p=>
   show sg x.ns+20*x.p.len≤0+20*p.len+14
   obtain⟨y,hy,rfl⟩:=Option.map_eq_some_iff.1 h
   have h1:sg y.ns+20*y.p.len≤0+20*(dP p).2.2.len+6:=ih _ _ hy
   have h2:(dP p).2.2.len≤p.len:=oF p
   have h7:sg [Nd.mk 9 false (dP p).1 [] (dP p).2.1 [] y.ns]=2+sg y.ns:=by rw[gq,cK]
   show sg [Nd.mk 9 false (dP p).1 [] (dP p).2.1 [] y.ns]+20*y.p.len≤_
   omega
  case group d p=>
   show sg x.ns+20*x.p.len≤0+20*p.len+14
   obtain⟨y,hy,rfl⟩:=Option.map_eq_some_iff.1 h
   have h1:sg y.ns+20*y.p.len≤0+20*p.len+6:=ih _ _ hy
   have h3:(aH jv y.p).len≤y.p.len:=bD _ _
   have h7:sg [ndK 10 y.ns]=2+sg y.ns:=by rw[gq];unfold ndK;rw[cK]
   show sg [ndK 10 y.ns]+20*(aH jv y.p).len≤_
   omega
theorem qm:∀(N:Nat) (n:Nd),szN n≤N→(aC n).length+1≤szN n∧∀m∈aC n,szN m≤szN n
 |0,n,h=>by obtain⟨k,b,s,a,w,r,l⟩:=n;rw[cK] at h;omega
 |N+1,.mk k b s a w r l,h=>by
  rw[gI,gg]
  rw[cK] at h⊢
  have key:∀l:List Nd,sg l≤N→(l.flatMap aC).length≤sg l∧∀m∈l.flatMap aC,szN m≤sg l:=by
   intro l
   induction l with
   |nil=>intro _;exact⟨Nat.zero_le _,fun m hm=>by simp at hm⟩
   |cons x l ih=>
    intro hl
    have e:sg (x::l)=szN x+sg l:=by unfold sg;simp
    obtain⟨i1,i2⟩:=ih (by omega)
    obtain⟨j1,j2⟩:=qm N x (by omega)
    rw[List.flatMap_cons]
    refine⟨by rw[List.length_append];omega,fun m hm=>?_⟩
    rcases List.mem_append.1 hm with hm|hm
    ·have:=j2 m hm;omega
    ·have:=i2 m hm;omega
  obtain⟨i1,i2⟩:=key l (by omega)
  refine⟨by rw[List.length_cons];omega,fun m hm=>?_⟩
  rcases List.mem_cons.1 hm with rfl|hm
  ·rw[cK];exact Nat.le_refl _
  ·have:=i2 m hm;omega
theorem xA:∀l:List Nd,l.length≤sg l
 |[]=>Nat.le_refl _
 |x::l=>by
  have e:sg (x::l)=szN x+sg l:=by unfold sg;simp
  have ih:=xA l
  obtain⟨k,b,s,a,w,r,l'⟩:=x
  have e2:=cK k b s a w r l'
  rw[List.length_cons];omega
theorem yc {n:Nd} (h:gL n) (hz:szN n≤100000):∀m∈aC n,OkM m:=fun m hm=>by
 have h1:=h m hm
 have h2:=(qm _ n (Nat.le_refl _)).2 m hm
 obtain⟨k,b,s,a,w,r,l⟩:=m
 rw[cK] at h2
 have h3:=xA l
 exact⟨Nat.le_trans h1.la (by decide),Nat.le_trans h1.lw (by decide),Nat.le_trans h1.lr (by decide),by show l.length≤_;omega,Nat.le_trans h1.ln (by decide),fun a ha=>⟨Nat.le_trans (h1.ta a ha).1 (by decide),Nat.le_trans (h1.ta a ha).2 (by decide)⟩,fun a ha=>Nat.le_trans (h1.tw a ha) (by decide),fun a ha=>Nat.le_trans (h1.tr a ha) (by decide)⟩
end Go.Proofs.YtgigdlhcjahejaaGreatDoor
