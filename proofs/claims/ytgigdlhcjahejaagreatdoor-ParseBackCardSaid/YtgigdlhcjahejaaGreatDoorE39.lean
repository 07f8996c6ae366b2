/- Of the proof of ParseBack: ParW. -/
import Derived.Test.YtgigdlhcjahejaaGreatDoorE38
namespace Go.Proofs.YtgigdlhcjahejaaGreatDoor
open Go Go.RowKit Go.Lw
set_option linter.unusedVariables false
set_option linter.unusedSimpArgs false
def SmP (p:Ps):Prop:=p.r.length≤2048∧∀t∈p.r,t.text.length≤2048
theorem SmP.sub {p q:Ps} (h:SmP p) (hs:q.r.Sublist p.r):SmP q:=⟨lt9 hs.length_le h.1,fun t ht=>h.2 t (hs.subset ht)⟩
theorem SmP.fail {p:Ps} (h:SmP p) (e:Nat):SmP (bd p e):=h.sub (List.nil_sublist _)
theorem SmP.tail {p:Ps} (h:SmP p):SmP (aC p):=h.sub (List.tail_sublist _)
theorem SmP.rest {p:Ps} (h:SmP p):SmP (aA p):=h.sub (List.dropWhile_sublist _)
theorem SmP.stop {p:Ps} (h:SmP p):SmP (aM p).2:=by
 unfold aM
 split
 ·exact h.tail
 ·exact h
theorem SmP.iS {p:Ps} (h:SmP p) (s:LB):SmP (az s p):=by
 unfold az
 split
 ·exact h.tail
 ·exact h.fail 5
theorem jv (p:Ps):(aR p).2.r.Sublist p.r∧((aR p).1=[]∨∃t∈p.r,bs t.text= .ok (aR p).1):=by
 obtain⟨r,e⟩:=p
 unfold aR
 cases r with
 |nil=>exact⟨List.nil_sublist _,.inl rfl⟩
 |cons t r=>
  simp only
  split
  ·split
   ·rename_i w hw
    exact⟨List.sublist_cons_self t r,.inr ⟨t,List.mem_cons_self,hw⟩⟩
   ·exact⟨List.nil_sublist _,.inl rfl⟩
  ·exact⟨List.nil_sublist _,.inl rfl⟩
theorem SmP.word {p:Ps} (h:SmP p):SmP (aR p).2∧(af (aR p).1).length≤24576:=by
 obtain⟨h1,h2⟩:=jv p
 refine⟨h.sub h1,?_⟩
 rcases h2 with h2|⟨t,ht,h2⟩
 ·rw[h2,dF];exact Nat.zero_le _
 ·have:=pN h2
  have:=h.2 t ht
  omega
def Fj (l:List LP):Prop:=∀x∈l,(af x).length≤24576
def EC (l:List (Int×LP)):Prop:=∀x∈l,(af x.2).length≤24576
def FV (l:List (LB×LP)):Prop:=∀x∈l,x.1.length≤2048∧(af x.2).length≤24576
theorem SmP.qC {p p':Ps} {x:Int×LP} (h:SmP p) (hr:bF p=some (x,p')):SmP p'∧(af x.2).length≤24576:=by
 unfold bF at hr
 split at hr
 ·cases hr
 ·cases hr
  exact h.tail.word
theorem pQ:∀(n:Nat) (p:Ps),SmP p→SmP (bp n p).2∧EC (bp n p).1∧(bp n p).1.length+(bp n p).2.r.length≤p.r.length
 |0,p,h=>⟨h,fun x hx=>(by cases hx),by show 0+_≤_;rw[Nat.zero_add];exact Jb _⟩
 |n+1,p,h=>by
  unfold bp
  split
  ·exact⟨h,fun x hx=>(by cases hx),by show 0+_≤_;rw[Nat.zero_add];exact Jb _⟩
  ·rename_i x p' hr
   obtain⟨h1,h2⟩:=h.qC hr
   obtain⟨h3,h4,h5⟩:=pQ n p' h1
   have h6:p'.r.length<p.r.length:=ez hr
   refine⟨h3,fun y hy=>?_,by show(x::(bp n p').1).length+(bp n p').2.r.length≤p.r.length;rw[Jg];omega⟩
   rcases Jl.1 hy with rfl|hy
   ·exact h2
   ·exact h4 y hy
theorem oL {s:LB} {a:LB×LP} (h:a7 s=some a):a.1.length≤s.length∧(af a.2).length≤12*s.length:=by
 unfold a7 at h
 have hc1:(dO 61 s).1.length≤s.length:=by unfold dO;exact(List.takeWhile_sublist _).length_le
 have hc2:(dO 61 s).2.length≤s.length:=by unfold dO;exact lt9 (by rw[List.length_drop];exact Nat.sub_le _ _) (List.dropWhile_sublist _).length_le
 split at h
 ·split at h
  ·cases h
   exact⟨hc1,by rw[dF];exact Nat.zero_le _⟩
  ·split at h
   ·rename_i l hl
    cases h
    have:=pN hl
    exact⟨hc1,by show(af l).length≤_;omega⟩
   ·cases h
 ·cases h
def vN (m:Sm):Prop:=FV m.al∧Fj m.ws∧EC m.rs
theorem qp {m:Sm} {p:Ps} {x:Sm×Ps} (h:bD m p=some x) (hm:vN m) (hp:SmP p):vN x.1∧SmP x.2∧x.1.al.length+x.1.ws.length+x.1.rs.length+x.2.r.length≤m.al.length+m.ws.length+m.rs.length+p.r.length:=by
 have hl:=fF h
 unfold bD at h
 split at h
 ·rename_i y p' e
  cases h
  obtain⟨h1,h2⟩:=hp.qC e
  have hl':p'.r.length<p.r.length:=hl
  refine⟨⟨hm.1,hm.2.1,fun z hz=>?_⟩,h1,by show m.al.length+m.ws.length+(m.rs++[y]).length+p'.r.length≤_;simp only[Jf,Jg,List.length_nil];omega⟩
  rcases Jm.1 hz with hz|hz
  ·exact hm.2.2 z hz
  ·rw[Jk.1 hz];exact h2
 ·split at h
  ·cases h
  ·rename_i t r e
   have hsub:r.Sublist p.r:=by rw[e];exact List.sublist_cons_self t r
   have htx:t.text.length≤2048:=hp.2 t (by rw[e];exact List.mem_cons_self)
   split at h
   ·split at h
    ·cases h
     have hl':r.length<p.r.length:=hl
     refine⟨⟨fun z hz=>?_,hm.2⟩,hp.sub hsub,by show(m.al++[(a7 t.text).getD ([],[])]).length+m.ws.length+m.rs.length+r.length≤_;simp only[Jf,Jg,List.length_nil];omega⟩
     rcases Jm.1 hz with hz|hz
     ·exact hm.1 z hz
     ·rw[Jk.1 hz]
      cases ea:a7 t.text with
      |none=>exact⟨Nat.zero_le _,by show(af []).length≤_;rw[dF];exact Nat.zero_le _⟩
      |some a=>
       have:=oL ea
       exact⟨by show a.1.length≤_;omega,by show(af a.2).length≤_;omega⟩
    ·split at h
     ·cases h
      exact⟨hm,hp.fail 5,by show m.al.length+m.ws.length+m.rs.length+0≤_;omega⟩
     ·cases h
      have hl':(aR p).2.r.length<p.r.length:=hl
      refine⟨⟨hm.1,fun z hz=>?_,hm.2.2⟩,hp.word.1,by show m.al.length+(m.ws++[(aR p).1]).length+m.rs.length+(aR p).2.r.length≤_;simp only[Jf,Jg,List.length_nil];omega⟩
      rcases Jm.1 hz with hz|hz
      ·exact hm.2.1 z hz
      ·rw[Jk.1 hz];exact hp.word.2
   ·cases h
theorem pG:∀(n:Nat) (m:Sm) (p:Ps),vN m→SmP p→vN (aE n m p).1∧SmP (aE n m p).2∧(aE n m p).1.al.length+(aE n m p).1.ws.length+(aE n m p).1.rs.length+(aE n m p).2.r.length≤m.al.length+m.ws.length+m.rs.length+p.r.length
 |0,m,p,h1,h2=>⟨h1,h2,Jb _⟩
 |n+1,m,p,h1,h2=>by
  unfold aE
  split
  ·exact⟨h1,h2,Jb _⟩
  ·rename_i x hx
   obtain⟨a1,a2,a3⟩:=qp hx h1 h2
   obtain⟨b1,b2,b3⟩:=pG n x.1 x.2 a1 a2
   exact⟨b1,b2,by omega⟩
theorem th:∀(n:Nat) (p:Ps),SmP p→SmP (bG n p).2∧Fj (bG n p).1∧(bG n p).1.length+(bG n p).2.r.length≤p.r.length
 |0,p,h=>⟨h,fun x hx=>(by cases hx),by show 0+_≤_;rw[Nat.zero_add];exact Jb _⟩
 |n+1,p,h=>by
  unfold bG
  split
  ·rename_i hk
   obtain⟨h3,h4,h5⟩:=th n _ h.word.1
   have h6:(aR p).2.r.length<p.r.length:=gg hk
   refine⟨h3,fun y hy=>?_,by show((aR p).1::(bG n (aR p).2).1).length+(bG n (aR p).2).2.r.length≤p.r.length;rw[Jg];omega⟩
   rcases Jl.1 hy with rfl|hy
   ·exact h.word.2
   ·exact h4 y hy
  ·exact⟨h,fun x hx=>(by cases hx),by show 0+_≤_;rw[Nat.zero_add];exact Jb _⟩
structure OkT (m:Nd):Prop where
 la:m.al.length≤2048
 lw:m.ws.length≤2048
 lr:m.rs.length≤4096
 ln:m.name.length≤2048
 ta:FV m.al
 tw:Fj m.ws
 tr:EC m.rs
def iW (n:Nd):Prop:=∀m∈aB n,OkT m
theorem iM:∀l:List Nd,aP l=l.flatMap aB
 |[]=>by show aB.aP []=_;rw[aB.aP];rfl
 |n::l=>by show aB.aP (n::l)=_;rw[aB.aP,List.flatMap_cons];exact congrArg _ (iM l)
theorem ur {k:Int} {b:Bool} {s:LB} {a:List (LB×LP)} {w:List LP} {r:List (Int×LP)} {l:List Nd} (h:OkT (.mk k b s a w r l)) (hl:∀x∈l,iW x):iW (.mk k b s a w r l):=fun m hm=>by
 rw[jt,iM] at hm
 rcases Jl.1 hm with rfl|hm
 ·exact h
 ·obtain⟨x,hx,hm⟩:=List.mem_flatMap.1 hm
  exact hl x hx m hm
theorem Cu {k:Int} {b:Bool} {s:LB} {a:List (LB×LP)} {w:List LP} {r:List (Int×LP)} {l:List Nd} (h:iW (.mk k b s a w r l)):OkT (.mk k b s a w r l)∧∀x∈l,iW x:=by
 unfold iW at h
 rw[jt,iM] at h
 exact⟨h _ List.mem_cons_self,fun x hx m hm=>h m (List.mem_cons_of_mem _ (List.mem_flatMap.2 ⟨x,hx,hm⟩))⟩
theorem Dh (k:Int) (b:Bool) (l:List Nd):OkT (.mk k b [] [] [] [] l):=⟨Nat.zero_le _,Nat.zero_le _,Nat.zero_le _,Nat.zero_le _,fun x hx=>(by cases hx),fun x hx=>(by cases hx),fun x hx=>(by cases hx)⟩
theorem eZ {k:Int} {b:Bool} {l:List Nd} (hl:∀x∈l,iW x):iW (.mk k b [] [] [] [] l):=ur (Dh k b l) hl
theorem wP {k:Int} {l:List Nd} (hl:∀x∈l,iW x):∀x∈fz k l,iW x:=by
 unfold fz
 split
 ·exact hl
 ·intro x hx
  rw[Jk.1 hx]
  exact eZ hl
def Job.comp:Job→Prop
 |.read _ _ _|.branches _ _ _|.loop _ _ _|.each _ _|.group _ _=>True
 |_=>False
theorem uV:∀(n:Nat) (j:Job) (x:Rd9),run n j=some x→j.comp→∀nd∈x.ns,nd.rs=[]
 |0,_,_,h,_=>by cases h
 |n+1,j,x,h,hc=>by
  have ih:=uV n
  cases j<;>unfold run at h<;>try exact hc.elim
  case read d s p=>
   split at h
   ·exact ih _ _ h trivial
   ·split at h
    ·exact ih _ _ h trivial
    ·split at h
     ·exact ih _ _ h trivial
     ·split at h
      ·exact ih _ _ h trivial
      ·exact ih _ _ h trivial
  case branches d acc p=>
   obtain⟨y,hy,h⟩:=Ji.1 h
   obtain⟨z,hz,h⟩:=Ji.1 h
   split at h
   ·exact ih _ _ h trivial
   ·split at h
    ·obtain⟨u,hu,rfl⟩:=Jh.1 h
     intro nd hn;rw[Jk.1 hn];rfl
    ·cases h
     intro nd hn;rw[Jk.1 hn];rfl
  case loop d k p=>
   obtain⟨y,hy,h⟩:=Ji.1 h
   obtain⟨z,hz,rfl⟩:=Jh.1 h
   intro nd hn;rw[Jk.1 hn];rfl
  case each d p=>
   obtain⟨y,hy,rfl⟩:=Jh.1 h
   intro nd hn;rw[Jk.1 hn];rfl
  case group d p=>
   obtain⟨y,hy,rfl⟩:=Jh.1 h
   intro nd hn;rw[Jk.1 hn];rfl
def Job.has:Job→List Nd
 |.kids _ acc _|.pipeL _ acc _|.branches _ acc _|.chainL _ acc _=>acc
 |_=>[]
theorem lZ {a b:List Nd} (h:∀x∈a,iW x) (k:∀x∈b,iW x):∀x∈a++b,iW x:=fun x hx=>(Jm.1 hx).elim (h x) (k x)
theorem BS:∀(n:Nat) (j:Job) (x:Rd9),run n j=some x→SmP j.p→(∀nd∈j.has,iW nd)→SmP x.p∧∀nd∈x.ns,iW nd
 |0,_,_,h,_,_=>by cases h
 |n+1,j,x,h,hp,ha=>by
  have ih:=BS n
  have no:∀nd∈([]:List Nd),iW nd:=fun nd h=>by cases h
  cases j<;>unfold run at h
  case block d p=>
   obtain⟨y,hy,rfl⟩:=Jh.1 h
   obtain⟨h1,h2⟩:=ih _ _ hy (SmP.rest hp) no
   refine⟨?_,h2⟩
   show SmP (if _ then _ else _)
   split
   ·exact h1
   ·exact h1.fail 5
  case list d p=>
   obtain⟨y,hy,rfl⟩:=Jh.1 h
   obtain⟨h1,h2⟩:=ih _ _ hy hp no
   exact⟨h1,wP h2⟩
  case kids d acc p=>
   obtain⟨y,hy,hz⟩:=Ji.1 h
   obtain⟨h1,h2⟩:=ih _ _ hy hp no
   have h3:=lZ (show∀nd∈acc,iW nd from ha) h2
   split at hz
   ·split at hz
    ·exact ih _ _ hz h1.stop.rest h3
    ·cases hz;exact⟨h1.stop.rest,h3⟩
   ·cases hz;exact⟨h1,h3⟩
  case chain d p=>
   obtain⟨y,hy,hz⟩:=Ji.1 h
   obtain⟨h1,h2⟩:=ih _ _ hy hp no
   exact ih _ _ hz h1 h2
  case chainL d l p=>
   split at h
   ·obtain⟨y,hy,hz⟩:=Ji.1 h
    obtain⟨h1,h2⟩:=ih _ _ hy (SmP.rest (SmP.tail hp)) no
    exact ih _ _ hz h1 (fun nd hn=>by rw[Jk.1 hn];exact eZ (lZ ha h2))
   ·cases h;exact⟨hp,ha⟩
  case pipe d p=>
   obtain⟨y,hy,rfl⟩:=Jh.1 h
   have hp2:SmP (if aG p=dU then aC p else p):=by
    split
    ·exact SmP.tail hp
    ·exact hp
   obtain⟨h1,h2⟩:=ih _ _ hy hp2 no
   refine⟨h1,?_⟩
   show∀nd∈(if aG p=dU then _ else _:List Nd),_
   split
   ·intro nd hn;rw[Jk.1 hn];exact eZ h2
   ·exact wP h2
  case pipeL d acc p=>
   obtain⟨y,hy,hz⟩:=Ji.1 h
   obtain⟨h1,h2⟩:=ih _ _ hy hp no
   have h3:=lZ (show∀nd∈acc,iW nd from ha) h2
   split at hz
   ·exact ih _ _ hz h1.tail.rest h3
   ·cases hz;exact⟨h1,h3⟩
  case command d p=>
   split at h
   ·cases h
    obtain⟨a1,a2,a3⟩:=pG (p.r.length+1) ⟨[],[],[]⟩ p ⟨fun x hx=>(by cases hx),fun x hx=>(by cases hx),fun x hx=>(by cases hx)⟩ hp
    have hp1:p.r.length≤2048:=hp.1
    have a3':(aE (p.r.length+1) ⟨[],[],[]⟩ p).1.al.length+(aE (p.r.length+1) ⟨[],[],[]⟩ p).1.ws.length+(aE (p.r.length+1) ⟨[],[],[]⟩ p).1.rs.length+(aE (p.r.length+1) ⟨[],[],[]⟩ p).2.r.length≤0+0+0+p.r.length:=a3
    refine⟨?_,fun nd hn=>?_⟩
    ·show SmP (if _ then _ else _)
     split
     ·exact a2.fail 5
     ·exact a2
    ·rw[Jk.1 hn]
     exact ur ⟨by show(aE _ _ _).1.al.length≤_;omega,by show(aE _ _ _).1.ws.length≤_;omega,by show(aE _ _ _).1.rs.length≤_;omega,Nat.zero_le _,a1.1,a1.2.1,a1.2.2⟩ no
   ·split at h
    ·cases h
     exact⟨SmP.fail hp 5,fun nd hn=>by rw[Jk.1 hn];exact eZ no⟩
    ·split at h
     ·cases h
      exact⟨SmP.fail hp 12,fun nd hn=>by rw[Jk.1 hn];exact eZ no⟩
     ·obtain⟨y,hy,rfl⟩:=Jh.1 h
      obtain⟨h1,h2⟩:=ih _ _ hy (SmP.tail hp) no
      have hrs:=uV _ _ _ hy trivial
      obtain⟨b1,b2,b3⟩:=pQ (y.p.r.length+1) y.p h1
      refine⟨b1,fun nd hn=>?_⟩
      obtain⟨m,hm,rfl⟩:=List.mem_map.1 hn
      have hr0:=hrs m hm
      obtain⟨k,b,s,a,w,r,l⟩:=m
      have hr0':r=[]:=hr0
      subst hr0'
      obtain⟨c1,c2⟩:=Cu (h2 _ hm)
      have h1':=h1.1
      exact ur ⟨c1.la,c1.lw,by show([]++(bp (y.p.r.length+1) y.p).1).length≤_;rw[List.nil_append];omega,c1.ln,c1.ta,c1.tw,by show EC ([]++_);rw[List.nil_append];exact b2⟩ c2
  case read d s p=>
   split at h
   ·exact ih _ _ h hp no
   ·split at h
    ·exact ih _ _ h hp no
    ·split at h
     ·exact ih _ _ h hp no
     ·split at h
      ·exact ih _ _ h hp no
      ·exact ih _ _ h hp no
  case branches d acc p=>
   obtain⟨y,hy,h⟩:=Ji.1 h
   obtain⟨z,hz,h⟩:=Ji.1 h
   obtain⟨h1,h2⟩:=ih _ _ hy hp no
   obtain⟨h3,h4⟩:=ih _ _ hz (h1.iS _) no
   have h5:=lZ (lZ (show∀nd∈acc,iW nd from ha) h2) h4
   split at h
   ·exact ih _ _ h h3.tail h5
   ·split at h
    ·obtain⟨u,hu,rfl⟩:=Jh.1 h
     obtain⟨h6,h7⟩:=ih _ _ hu h3.tail no
     exact⟨h6.iS _,fun nd hn=>by rw[Jk.1 hn];exact eZ (lZ h5 h7)⟩
    ·cases h
     exact⟨h3.iS _,fun nd hn=>by rw[Jk.1 hn];exact eZ h5⟩
  case loop d k p=>
   obtain⟨y,hy,h⟩:=Ji.1 h
   obtain⟨z,hz,rfl⟩:=Jh.1 h
   obtain⟨h1,h2⟩:=ih _ _ hy hp no
   obtain⟨h3,h4⟩:=ih _ _ hz h1 no
   exact⟨h3,fun nd hn=>by rw[Jk.1 hn];exact eZ (lZ h2 h4)⟩
  case body d p=>
   obtain⟨y,hy,rfl⟩:=Jh.1 h
   obtain⟨h1,h2⟩:=ih _ _ hy (SmP.iS hp _) no
   exact⟨h1.iS _,h2⟩
  case each d p=>
   obtain⟨y,hy,rfl⟩:=Jh.1 h
   have hq:SmP (cg p).2∧(cg p).1.length≤2048:=by
    obtain⟨r,e⟩:=p
    unfold cg
    cases r with
    |nil=>exact⟨SmP.fail hp 5,Nat.zero_le _⟩
    |cons t r=>
     simp only
     split
     ·exact⟨SmP.sub hp (List.sublist_cons_self t r),hp.2 t List.mem_cons_self⟩
     ·exact⟨SmP.fail hp 5,Nat.zero_le _⟩
   have hm:=hq.1.rest.iS rIn
   obtain⟨w1,w2,w3⟩:=th ((az rIn (aA (cg p).2)).r.length+1) _ hm
   have hs:SmP (fx (cR (az rIn (aA (cg p).2))).2):=by
    unfold fx
    split
    ·exact w1.stop
    ·exact w1.fail 5
   have hpe:SmP (cV p).2.2:=by rw[fA];exact hs.rest
   obtain⟨h1,h2⟩:=ih _ _ hy hpe no
   refine⟨h1,fun nd hn=>?_⟩
   rw[Jk.1 hn,fA]
   have hm1:=hm.1
   have w3':(cR (az rIn (aA (cg p).2))).1.length+(cR (az rIn (aA (cg p).2))).2.r.length≤_:=w3
   exact ur ⟨Nat.zero_le _,by show(cR _).1.length≤_;omega,Nat.zero_le _,hq.2,fun x hx=>(by cases hx),w2,fun x hx=>(by cases hx)⟩ h2
  case group d p=>
   obtain⟨y,hy,rfl⟩:=Jh.1 h
   obtain⟨h1,h2⟩:=ih _ _ hy hp no
   exact⟨h1.iS _,fun nd hn=>by rw[Jk.1 hn];exact eZ h2⟩
def sg (l:List Nd):Nat:=(l.map szN).sum
theorem mn (a b:List Nd):sg (a++b)=sg a+sg b:=by unfold sg;rw[List.map_append,List.sum_append]
theorem iP (n:Nd):sg [n]=szN n:=by unfold sg;simp
theorem zu:∀l:List Nd,cM l=1+sg l
 |[]=>by show szN.cM []=_;rw[szN.cM];rfl
 |n::l=>by
  have ih:=zu l
  show szN.cM (n::l)=_
  rw[szN.cM]
  have e:szN.cM l=1+sg l:=ih
  have e2:sg (n::l)=szN n+sg l:=by unfold sg;simp
  omega
theorem dm (k:Int) (b:Bool) (s:LB) (a:List (LB×LP)) (w:List LP) (r:List (Int×LP)) (l:List Nd):szN (.mk k b s a w r l)=2+sg l:=by
 have h:=ji (.mk k b s a w r l)
 have h2:szN (.mk k b s a w r l)=1+cM l:=h
 rw[h2,zu];omega
theorem yE (k:Int) (l:List Nd):sg (fz k l)≤sg l+2:=by
 unfold fz
 split
 ·omega
 ·rw[iP];unfold ndK;rw[dm];omega
theorem Dm (rs:List (Int×LP)) (n:Nd):szN (iq rs n)=szN n:=by
 obtain⟨k,b,s,a,w,r,l⟩:=n
 rw[qe,dm,dm]
theorem CW (rs:List (Int×LP)) (l:List Nd):sg (l.map (iq rs))=sg l:=by
 unfold sg
 rw[List.map_map]
 congr 1
 exact List.map_congr_left fun n _=>Dm rs n
def Job.extra:Job→Nat
 |.command _ _=>2
 |.pipeL _ _ _=>2
 |.pipe _ _=>4
 |.chainL _ _ _=>0
 |.chain _ _=>4
 |.kids _ _ _=>4
 |.list _ _=>6
 |.block _ _=>6
 |.body _ _=>6
 |.group _ _=>14
 |.branches _ _ _=>14
 |.loop _ _ _=>14
 |.each _ _=>14
 |.read _ _ _=>14
theorem CS:∀(n:Nat) (j:Job) (x:Rd9),run n j=some x→sg x.ns+20*x.p.len≤sg j.has+20*j.p.len+j.extra
 |0,_,_,h=>by cases h
 |n+1,j,x,h=>by
  have ih:=CS n
  cases j<;>unfold run at h
  case block d p=>
   obtain⟨y,hy,rfl⟩:=Jh.1 h
   have h1:=ih _ _ hy
   have h2:(aA p).len≤p.len:=cp p
   have h3:(if y.st then y.p else bd y.p 5).len≤y.p.len:=by
    split
    ·exact Jb _
    ·exact Nat.zero_le _
   have h1':sg y.ns+20*y.p.len≤0+20*(aA p).len+6:=h1
   show sg y.ns+20*(if y.st then y.p else bd y.p 5).len≤0+20*p.len+6
   omega
  case list d p=>
   obtain⟨y,hy,rfl⟩:=Jh.1 h
   have h1:sg y.ns+20*y.p.len≤0+20*p.len+4:=ih _ _ hy
   have h2:=yE 5 y.ns
   show sg (fz 5 y.ns)+20*y.p.len≤0+20*p.len+6
   omega
  case kids d acc p=>
   obtain⟨y,hy,hz⟩:=Ji.1 h
   have h1:sg y.ns+20*y.p.len≤0+20*p.len+4:=ih _ _ hy
   have ha:=mn acc y.ns
   show sg x.ns+20*x.p.len≤sg acc+20*p.len+4
   split at hz
   ·rename_i hs
    have h2:(aM y.p).2.len<y.p.len:=lH hs
    have h3:(aA (aM y.p).2).len≤(aM y.p).2.len:=cp _
    split at hz
    ·have h4:sg x.ns+20*x.p.len≤sg (acc++y.ns)+20*(aA (aM y.p).2).len+4:=ih _ _ hz
     omega
    ·cases hz
     show sg (acc++y.ns)+20*(aA (aM y.p).2).len≤_
     omega
   ·cases hz
    show sg (acc++y.ns)+20*y.p.len≤_
    omega
  case chain d p=>
   obtain⟨y,hy,hz⟩:=Ji.1 h
   have h1:sg y.ns+20*y.p.len≤0+20*p.len+4:=ih _ _ hy
   have h2:sg x.ns+20*x.p.len≤sg y.ns+20*y.p.len+0:=ih _ _ hz
   show sg x.ns+20*x.p.len≤0+20*p.len+4
   omega
  case chainL d l p=>
   show sg x.ns+20*x.p.len≤sg l+20*p.len+0
   split at h
   ·rename_i hk
    obtain⟨y,hy,hz⟩:=Ji.1 h
    have h1:sg y.ns+20*y.p.len≤0+20*(aA (aC p)).len+4:=ih _ _ hy
    have h2:sg x.ns+20*x.p.len≤sg [ndK (if ai p=4 then 3 else 4) (l++y.ns)]+20*y.p.len+0:=ih _ _ hz
    have h3:(aC p).len<p.len:=dX (by rcases hk with hk|hk<;>rw[hk]<;>decide)
    have h4:(aA (aC p)).len≤(aC p).len:=cp _
    have h5:sg [ndK (if ai p=4 then 3 else 4) (l++y.ns)]=2+(sg l+sg y.ns):=by rw[iP];unfold ndK;rw[dm,mn]
    omega
   ·cases h;exact Jb _
  case pipe d p=>
   obtain⟨y,hy,rfl⟩:=Jh.1 h
   have hp2:(if aG p=dU then aC p else p).len≤p.len:=by
    split
    ·exact ey p
    ·exact Jb _
   have h1:sg y.ns+20*y.p.len≤0+20*(if aG p=dU then aC p else p).len+2:=ih _ _ hy
   have h2:sg (if aG p=dU then[Nd.mk 2 true [] [] [] [] y.ns] else fz 2 y.ns)≤sg y.ns+2:=by
    split
    ·rw[iP,dm];omega
    ·exact yE 2 y.ns
   show sg (if aG p=dU then[Nd.mk 2 true [] [] [] [] y.ns] else fz 2 y.ns)+20*y.p.len≤0+20*p.len+4
   omega
  case pipeL d acc p=>
   obtain⟨y,hy,hz⟩:=Ji.1 h
   have h1:sg y.ns+20*y.p.len≤0+20*p.len+2:=ih _ _ hy
   have ha:=mn acc y.ns
   show sg x.ns+20*x.p.len≤sg acc+20*p.len+2
   split at hz
   ·rename_i hk
    have h2:sg x.ns+20*x.p.len≤sg (acc++y.ns)+20*(aA (aC y.p)).len+2:=ih _ _ hz
    have h3:(aC y.p).len<y.p.len:=dX (by rw[hk];decide)
    have h4:(aA (aC y.p)).len≤(aC y.p).len:=cp _
    omega
   ·cases hz
    show sg (acc++y.ns)+20*y.p.len≤_
    omega
  case command d p=>
   show sg x.ns+20*x.p.len≤0+20*p.len+2
   have leaf:∀(k:Int) (a:List (LB×LP)) (w:List LP) (r:List (Int×LP)),sg [Nd.mk k false [] a w r []]=2:=fun k a w r=>by rw[iP,dm];rfl
   split at h
   ·cases h
    have h1:(bB p).2.len≤p.len:=rM p
    have h2:sg [(bB p).1]=2:=leaf _ _ _ _
    show sg [(bB p).1]+20*(bB p).2.len≤_
    omega
   ·split at h
    ·cases h
     have h2:sg [Nd0]=2:=leaf _ _ _ _
     show sg [Nd0]+20*0≤_
     omega
    ·split at h
     ·cases h
      have h2:sg [Nd0]=2:=leaf _ _ _ _
      show sg [Nd0]+20*0≤_
      omega
     ·rename_i hr _ _
      obtain⟨y,hy,rfl⟩:=Jh.1 h
      have h1:sg y.ns+20*y.p.len≤0+20*(aC p).len+14:=ih _ _ hy
      have h2:(aC p).len<p.len:=eN hr
      have h3:(bj y.p).2.len≤y.p.len:=qN _
      have h4:=CW (bj y.p).1 y.ns
      show sg (y.ns.map (iq (bj y.p).1))+20*(bj y.p).2.len≤_
      omega
  case read d s p=>
   show sg x.ns+20*x.p.len≤0+20*p.len+14
   split at h
   ·exact ih _ _ h
   ·split at h
    ·exact ih _ _ h
    ·split at h
     ·exact ih _ _ h
     ·split at h
      ·exact ih _ _ h
      ·exact ih _ _ h
  case branches d acc p=>
   show sg x.ns+20*x.p.len≤sg acc+20*p.len+14
   obtain⟨y,hy,h⟩:=Ji.1 h
   obtain⟨z,hz,h⟩:=Ji.1 h
   have h1:sg y.ns+20*y.p.len≤0+20*p.len+6:=ih _ _ hy
   have h2:sg z.ns+20*z.p.len≤0+20*(az bN y.p).len+6:=ih _ _ hz
   have h3:(az bN y.p).len≤y.p.len:=bX _ _
   have ha:sg (acc++y.ns++z.ns)=sg acc+sg y.ns+sg z.ns:=by rw[mn,mn]
   split at h
   ·rename_i he
    have h4:sg x.ns+20*x.p.len≤sg (acc++y.ns++z.ns)+20*(aC z.p).len+14:=ih _ _ h
    have h5:(aC z.p).len<z.p.len:=eN (by rw[he];decide)
    omega
   ·split at h
    ·rename_i he
     obtain⟨u,hu,rfl⟩:=Jh.1 h
     have h4:sg u.ns+20*u.p.len≤0+20*(aC z.p).len+6:=ih _ _ hu
     have h5:(aC z.p).len<z.p.len:=eN (by rw[he];decide)
     have h6:(az rFi u.p).len≤u.p.len:=bX _ _
     have h7:sg [ndK 6 (acc++y.ns++z.ns++u.ns)]=2+(sg (acc++y.ns++z.ns)+sg u.ns):=by rw[iP];unfold ndK;rw[dm,mn]
     show sg [ndK 6 (acc++y.ns++z.ns++u.ns)]+20*(az rFi u.p).len≤_
     omega
    ·cases h
     have h6:(az rFi z.p).len≤z.p.len:=bX _ _
     have h7:sg [ndK 6 (acc++y.ns++z.ns)]=2+sg (acc++y.ns++z.ns):=by rw[iP];unfold ndK;rw[dm]
     show sg [ndK 6 (acc++y.ns++z.ns)]+20*(az rFi z.p).len≤_
     omega
  case loop d k p=>
   show sg x.ns+20*x.p.len≤0+20*p.len+14
   obtain⟨y,hy,h⟩:=Ji.1 h
   obtain⟨z,hz,rfl⟩:=Jh.1 h
   have h1:sg y.ns+20*y.p.len≤0+20*p.len+6:=ih _ _ hy
   have h2:sg z.ns+20*z.p.len≤0+20*y.p.len+6:=ih _ _ hz
   have h7:sg [ndK k (y.ns++z.ns)]=2+(sg y.ns+sg z.ns):=by rw[iP];unfold ndK;rw[dm,mn]
   show sg [ndK k (y.ns++z.ns)]+20*z.p.len≤_
   omega
  case body d p=>
   show sg x.ns+20*x.p.len≤0+20*p.len+6
   obtain⟨y,hy,rfl⟩:=Jh.1 h
   have h1:sg y.ns+20*y.p.len≤0+20*(az rDo p).len+6:=ih _ _ hy
   have h2:(az rDo p).len≤p.len:=bX _ _
   have h3:(az bM y.p).len≤y.p.len:=bX _ _
   show sg y.ns+20*(az bM y.p).len≤_
   omega
  case each d p=>
   show sg x.ns+20*x.p.len≤0+20*p.len+14
   obtain⟨y,hy,rfl⟩:=Jh.1 h
   have h1:sg y.ns+20*y.p.len≤0+20*(cV p).2.2.len+6:=ih _ _ hy
   have h2:(cV p).2.2.len≤p.len:=pU p
   have h7:sg [Nd.mk 9 false (cV p).1 [] (cV p).2.1 [] y.ns]=2+sg y.ns:=by rw[iP,dm]
   show sg [Nd.mk 9 false (cV p).1 [] (cV p).2.1 [] y.ns]+20*y.p.len≤_
   omega
  case group d p=>
   show sg x.ns+20*x.p.len≤0+20*p.len+14
   obtain⟨y,hy,rfl⟩:=Jh.1 h
   have h1:sg y.ns+20*y.p.len≤0+20*p.len+6:=ih _ _ hy
   have h3:(az eO y.p).len≤y.p.len:=bX _ _
   have h7:sg [ndK 10 y.ns]=2+sg y.ns:=by rw[iP];unfold ndK;rw[dm]
   show sg [ndK 10 y.ns]+20*(az eO y.p).len≤_
   omega
theorem tX:∀(N:Nat) (n:Nd),szN n≤N→(aB n).length+1≤szN n∧∀m∈aB n,szN m≤szN n
 |0,n,h=>by obtain⟨k,b,s,a,w,r,l⟩:=n;rw[dm] at h;omega
 |N+1,.mk k b s a w r l,h=>by
  rw[jt,iM]
  rw[dm] at h⊢
  have key:∀l:List Nd,sg l≤N→(l.flatMap aB).length≤sg l∧∀m∈l.flatMap aB,szN m≤sg l:=by
   intro l
   induction l with
   |nil=>intro _;exact⟨Nat.zero_le _,fun m hm=>by simp at hm⟩
   |cons x l ih=>
    intro hl
    have e:sg (x::l)=szN x+sg l:=by unfold sg;simp
    obtain⟨i1,i2⟩:=ih (by omega)
    obtain⟨j1,j2⟩:=tX N x (by omega)
    rw[List.flatMap_cons]
    refine⟨by rw[Jf];omega,fun m hm=>?_⟩
    rcases Jm.1 hm with hm|hm
    ·have:=j2 m hm;omega
    ·have:=i2 m hm;omega
  obtain⟨i1,i2⟩:=key l (by omega)
  refine⟨by rw[Jg];omega,fun m hm=>?_⟩
  rcases Jl.1 hm with rfl|hm
  ·rw[dm];exact Jb _
  ·have:=i2 m hm;omega
theorem BG:∀l:List Nd,l.length≤sg l
 |[]=>Jb _
 |x::l=>by
  have e:sg (x::l)=szN x+sg l:=by unfold sg;simp
  have ih:=BG l
  obtain⟨k,b,s,a,w,r,l'⟩:=x
  have e2:=dm k b s a w r l'
  rw[Jg];omega
theorem Cs {n:Nd} (h:iW n) (hz:szN n≤100000):∀m∈aB n,OkM m:=fun m hm=>by
 have h1:=h m hm
 have h2:=(tX _ n (Jb _)).2 m hm
 obtain⟨k,b,s,a,w,r,l⟩:=m
 rw[dm] at h2
 have h3:=BG l
 exact⟨lt9 h1.la (by decide),lt9 h1.lw (by decide),lt9 h1.lr (by decide),by show l.length≤_;omega,lt9 h1.ln (by decide),fun a ha=>⟨lt9 (h1.ta a ha).1 (by decide),lt9 (h1.ta a ha).2 (by decide)⟩,fun a ha=>lt9 (h1.tw a ha) (by decide),fun a ha=>lt9 (h1.tr a ha) (by decide)⟩
end Go.Proofs.YtgigdlhcjahejaaGreatDoor
