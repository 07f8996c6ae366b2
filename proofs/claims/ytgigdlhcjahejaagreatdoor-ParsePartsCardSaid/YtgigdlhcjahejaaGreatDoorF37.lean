import Derived.Test.YtgigdlhcjahejaaGreatDoorF36
set_option linter.all false
namespace Go.Proofs.YtgigdlhcjahejaaGreatDoor
open Go Go.RowKit Go.Lw
def SmP (p:Ps):Prop:=p.r.length≤2048∧∀t∈p.r,t.text.length≤2048
theorem SmP.sub {p q:Ps} (h:SmP p) (hs:q.r.Sublist p.r):SmP q:=⟨lt9 hs.length_le h.1,fun t ht=>h.2 t (hs.subset ht)⟩
theorem SmP.fail {p:Ps} (h:SmP p) (e:Nat):SmP (bm p e):=h.sub (List.nil_sublist _)
theorem SmP.tail {p:Ps} (h:SmP p):SmP (aJ p):=h.sub (List.tail_sublist _)
theorem SmP.rest {p:Ps} (h:SmP p):SmP (aD p):=h.sub (List.dropWhile_sublist _)
theorem SmP.stop {p:Ps} (h:SmP p):SmP (aL p).2:=by
 unfold aL
 split
 ·exact h.tail
 ·exact h
theorem SmP.jq {p:Ps} (h:SmP p) (s:LB):SmP (ay s p):=by
 unfold ay
 split
 ·exact h.tail
 ·exact h.fail 5
theorem jC (p:Ps):(aP p).2.r.Sublist p.r∧((aP p).1=[]∨∃t∈p.r,bC t.text= .ok (aP p).1):=by
 obtain⟨r,e⟩:=p
 unfold aP
 cases r with
 |nil=>exact⟨List.nil_sublist _,.inl rfl⟩
 |cons t r=>
  simp only
  split
  ·split
   ·rename_i w hw
    exact⟨List.sublist_cons_self t r,.inr ⟨t,Jz,hw⟩⟩
   ·exact⟨List.nil_sublist _,.inl rfl⟩
  ·exact⟨List.nil_sublist _,.inl rfl⟩
theorem SmP.word {p:Ps} (h:SmP p):SmP (aP p).2∧(aC (aP p).1).length≤24576:=by
 obtain⟨h1,h2⟩:=jC p
 refine⟨h.sub h1,?_⟩
 rcases h2 with h2|⟨t,ht,h2⟩
 ·rw[h2,eE];exact Ju _
 ·have:=pS h2
  have:=h.2 t ht
  omega
def FW (l:List LP):Prop:=∀x∈l,(aC x).length≤24576
def EI (l:List (Int×LP)):Prop:=∀x∈l,(aC x.2).length≤24576
def GN (l:List (LB×LP)):Prop:=∀x∈l,x.1.length≤2048∧(aC x.2).length≤24576
theorem SmP.mM {p p':Ps} {x:Int×LP} (h:SmP p) (hr:bf p=some (x,p')):SmP p'∧(aC x.2).length≤24576:=by
 unfold bf at hr
 split at hr
 ·cases hr
 ·cases hr
  exact h.tail.word
theorem rq:∀(n:Nat) (p:Ps),SmP p→SmP (a8 n p).2∧EI (a8 n p).1∧(a8 n p).1.length+(a8 n p).2.r.length≤p.r.length
 |0,p,h=>⟨h,fun x hx=>(by cases hx),by show 0+_≤_;rw[Nat.zero_add];exact Jb _⟩
 |n+1,p,h=>by
  unfold a8
  split
  ·exact⟨h,fun x hx=>(by cases hx),by show 0+_≤_;rw[Nat.zero_add];exact Jb _⟩
  ·rename_i x p' hr
   obtain⟨h1,h2⟩:=h.mM hr
   obtain⟨h3,h4,h5⟩:=rq n p' h1
   have h6:p'.r.length<p.r.length:=dK hr
   refine⟨h3,fun y hy=>?_,by show(x::(a8 n p').1).length+(a8 n p').2.r.length≤p.r.length;rw[Jg];omega⟩
   rcases Jl.1 hy with rfl|hy
   ·exact h2
   ·exact h4 y hy
theorem oO {s:LB} {a:LB×LP} (h:bE s=some a):a.1.length≤s.length∧(aC a.2).length≤12*s.length:=by
 unfold bE at h
 have hc1:(dR 61 s).1.length≤s.length:=by unfold dR;exact(List.takeWhile_sublist _).length_le
 have hc2:(dR 61 s).2.length≤s.length:=by unfold dR;exact lt9 (by rw[Jo];exact Nat.sub_le _ _) (List.dropWhile_sublist _).length_le
 split at h
 ·split at h
  ·cases h
   exact⟨hc1,by rw[eE];exact Ju _⟩
  ·split at h
   ·rename_i l hl
    cases h
    have:=pS hl
    exact⟨hc1,by show(aC l).length≤_;omega⟩
   ·cases h
 ·cases h
def wK (m:Sm):Prop:=GN m.al∧FW m.ws∧EI m.rs
theorem qR {m:Sm} {p:Ps} {x:Sm×Ps} (h:aR m p=some x) (hm:wK m) (hp:SmP p):wK x.1∧SmP x.2∧x.1.al.length+x.1.ws.length+x.1.rs.length+x.2.r.length≤m.al.length+m.ws.length+m.rs.length+p.r.length:=by
 have hl:=ej h
 unfold aR at h
 split at h
 ·rename_i y p' e
  cases h
  obtain⟨h1,h2⟩:=hp.mM e
  have hl':p'.r.length<p.r.length:=hl
  refine⟨⟨hm.1,hm.2.1,fun z hz=>?_⟩,h1,by show m.al.length+m.ws.length+(m.rs++[y]).length+p'.r.length≤_;simp only[Jf,Jg,Jn];omega⟩
  rcases Jm.1 hz with hz|hz
  ·exact hm.2.2 z hz
  ·rw[Jk.1 hz];exact h2
 ·split at h
  ·cases h
  ·rename_i t r e
   have hsub:r.Sublist p.r:=by rw[e];exact List.sublist_cons_self t r
   have htx:t.text.length≤2048:=hp.2 t (by rw[e];exact Jz)
   split at h
   ·split at h
    ·cases h
     have hl':r.length<p.r.length:=hl
     refine⟨⟨fun z hz=>?_,hm.2⟩,hp.sub hsub,by show(m.al++[(bE t.text).getD ([],[])]).length+m.ws.length+m.rs.length+r.length≤_;simp only[Jf,Jg,Jn];omega⟩
     rcases Jm.1 hz with hz|hz
     ·exact hm.1 z hz
     ·rw[Jk.1 hz]
      cases ea:bE t.text with
      |none=>exact⟨Ju _,by show(aC []).length≤_;rw[eE];exact Ju _⟩
      |some a=>
       have:=oO ea
       exact⟨by show a.1.length≤_;omega,by show(aC a.2).length≤_;omega⟩
    ·split at h
     ·cases h
      exact⟨hm,hp.fail 5,by show m.al.length+m.ws.length+m.rs.length+0≤_;omega⟩
     ·cases h
      have hl':(aP p).2.r.length<p.r.length:=hl
      refine⟨⟨hm.1,fun z hz=>?_,hm.2.2⟩,hp.word.1,by show m.al.length+(m.ws++[(aP p).1]).length+m.rs.length+(aP p).2.r.length≤_;simp only[Jf,Jg,Jn];omega⟩
      rcases Jm.1 hz with hz|hz
      ·exact hm.2.1 z hz
      ·rw[Jk.1 hz];exact hp.word.2
   ·cases h
theorem qz:∀(n:Nat) (m:Sm) (p:Ps),wK m→SmP p→wK (aG n m p).1∧SmP (aG n m p).2∧(aG n m p).1.al.length+(aG n m p).1.ws.length+(aG n m p).1.rs.length+(aG n m p).2.r.length≤m.al.length+m.ws.length+m.rs.length+p.r.length
 |0,m,p,h1,h2=>⟨h1,h2,Jb _⟩
 |n+1,m,p,h1,h2=>by
  unfold aG
  split
  ·exact⟨h1,h2,Jb _⟩
  ·rename_i x hx
   obtain⟨a1,a2,a3⟩:=qR hx h1 h2
   obtain⟨b1,b2,b3⟩:=qz n x.1 x.2 a1 a2
   exact⟨b1,b2,by omega⟩
theorem sY:∀(n:Nat) (p:Ps),SmP p→SmP (bs n p).2∧FW (bs n p).1∧(bs n p).1.length+(bs n p).2.r.length≤p.r.length
 |0,p,h=>⟨h,fun x hx=>(by cases hx),by show 0+_≤_;rw[Nat.zero_add];exact Jb _⟩
 |n+1,p,h=>by
  unfold bs
  split
  ·rename_i hk
   obtain⟨h3,h4,h5⟩:=sY n _ h.word.1
   have h6:(aP p).2.r.length<p.r.length:=fb hk
   refine⟨h3,fun y hy=>?_,by show((aP p).1::(bs n (aP p).2).1).length+(bs n (aP p).2).2.r.length≤p.r.length;rw[Jg];omega⟩
   rcases Jl.1 hy with rfl|hy
   ·exact h.word.2
   ·exact h4 y hy
  ·exact⟨h,fun x hx=>(by cases hx),by show 0+_≤_;rw[Nat.zero_add];exact Jb _⟩
structure OkT (m:Nd):Prop where
 la:m.al.length≤2048
 lw:m.ws.length≤2048
 lr:m.rs.length≤4096
 ln:m.name.length≤2048
 ta:GN m.al
 tw:FW m.ws
 tr:EI m.rs
def jn (n:Nd):Prop:=∀m∈aK n,OkT m
theorem iH:∀l:List Nd,aZ l=l.flatMap aK
 |[]=>by show aK.aZ []=_;rw[aK.aZ];rfl
 |n::l=>by show aK.aZ (n::l)=_;rw[aK.aZ,List.flatMap_cons];exact congrArg _ (iH l)
theorem ug {k:Int} {b:Bool} {s:LB} {a:List (LB×LP)} {w:List LP} {r:List (Int×LP)} {l:List Nd} (h:OkT (.mk k b s a w r l)) (hl:∀x∈l,jn x):jn (.mk k b s a w r l):=fun m hm=>by
 rw[jv,iH] at hm
 rcases Jl.1 hm with rfl|hm
 ·exact h
 ·obtain⟨x,hx,hm⟩:=List.mem_flatMap.1 hm
  exact hl x hx m hm
theorem CW {k:Int} {b:Bool} {s:LB} {a:List (LB×LP)} {w:List LP} {r:List (Int×LP)} {l:List Nd} (h:jn (.mk k b s a w r l)):OkT (.mk k b s a w r l)∧∀x∈l,jn x:=by
 unfold jn at h
 rw[jv,iH] at h
 exact⟨h _ Jz,fun x hx m hm=>h m (Qa _ (List.mem_flatMap.2 ⟨x,hx,hm⟩))⟩
theorem Cz (k:Int) (b:Bool) (l:List Nd):OkT (.mk k b [] [] [] [] l):=⟨Ju _,Ju _,Ju _,Ju _,fun x hx=>(by cases hx),fun x hx=>(by cases hx),fun x hx=>(by cases hx)⟩
theorem fl {k:Int} {b:Bool} {l:List Nd} (hl:∀x∈l,jn x):jn (.mk k b [] [] [] [] l):=ug (Cz k b l) hl
theorem vY {k:Int} {l:List Nd} (hl:∀x∈l,jn x):∀x∈cR k l,jn x:=by
 unfold cR
 split
 ·exact hl
 ·intro x hx
  rw[Jk.1 hx]
  exact fl hl
def Job.comp:Job→Prop
 |.read _ _ _|.branches _ _ _|.loop _ _ _|.each _ _|.group _ _=>True
 |_=>False
theorem ry:∀(n:Nat) (j:Job) (x:Rd9),run n j=some x→j.comp→∀nd∈x.ns,nd.rs=[]
 |0,_,_,h,_=>by cases h
 |n+1,j,x,h,hc=>by
  have ih:=ry n
  cases j<;>unfold run at h<;>try exact hc.elim
  case read d s p=>
   split at h
   ·exact ih _ _ h trivial
   ·split at h
    ·exact ih _ _ h trivial
    ·split at h
     ·exact ih _ _ h trivial
     ·split at h
      ·exact ih _ _ h trivial
      ·exact ih _ _ h trivial
  case branches d acc p=>
   obtain⟨y,hy,h⟩:=Ji.1 h
   obtain⟨z,hz,h⟩:=Ji.1 h
   split at h
   ·exact ih _ _ h trivial
   ·split at h
    ·obtain⟨u,hu,rfl⟩:=Jh.1 h
     intro nd hn;rw[Jk.1 hn];rfl
    ·cases h
     intro nd hn;rw[Jk.1 hn];rfl
  case loop d k p=>
   obtain⟨y,hy,h⟩:=Ji.1 h
   obtain⟨z,hz,rfl⟩:=Jh.1 h
   intro nd hn;rw[Jk.1 hn];rfl
  case each d p=>
   obtain⟨y,hy,rfl⟩:=Jh.1 h
   intro nd hn;rw[Jk.1 hn];rfl
  case group d p=>
   obtain⟨y,hy,rfl⟩:=Jh.1 h
   intro nd hn;rw[Jk.1 hn];rfl
def Job.has:Job→List Nd
 |.kids _ acc _|.pipeL _ acc _|.branches _ acc _|.chainL _ acc _=>acc
 |_=>[]
theorem l6 {a b:List Nd} (h:∀x∈a,jn x) (k:∀x∈b,jn x):∀x∈a++b,jn x:=fun x hx=>(Jm.1 hx).elim (h x) (k x)
theorem C8:∀(n:Nat) (j:Job) (x:Rd9),run n j=some x→SmP j.p→(∀nd∈j.has,jn nd)→SmP x.p∧∀nd∈x.ns,jn nd
 |0,_,_,h,_,_=>by cases h
 |n+1,j,x,h,hp,ha=>by
  have ih:=C8 n
  have no:∀nd∈([]:List Nd),jn nd:=fun nd h=>by cases h
  cases j<;>unfold run at h
  case block d p=>
   obtain⟨y,hy,rfl⟩:=Jh.1 h
   obtain⟨h1,h2⟩:=ih _ _ hy (SmP.rest hp) no
   refine⟨?_,h2⟩
   show SmP (if _ then _ else _)
   split
   ·exact h1
   ·exact h1.fail 5
  case list d p=>
   obtain⟨y,hy,rfl⟩:=Jh.1 h
   obtain⟨h1,h2⟩:=ih _ _ hy hp no
   exact⟨h1,vY h2⟩
  case kids d acc p=>
   obtain⟨y,hy,hz⟩:=Ji.1 h
   obtain⟨h1,h2⟩:=ih _ _ hy hp no
   have h3:=l6 (show∀nd∈acc,jn nd from ha) h2
   split at hz
   ·split at hz
    ·exact ih _ _ hz h1.stop.rest h3
    ·cases hz;exact⟨h1.stop.rest,h3⟩
   ·cases hz;exact⟨h1,h3⟩
  case chain d p=>
   obtain⟨y,hy,hz⟩:=Ji.1 h
   obtain⟨h1,h2⟩:=ih _ _ hy hp no
   exact ih _ _ hz h1 h2
  case chainL d l p=>
   split at h
   ·obtain⟨y,hy,hz⟩:=Ji.1 h
    obtain⟨h1,h2⟩:=ih _ _ hy (SmP.rest (SmP.tail hp)) no
    exact ih _ _ hz h1 (fun nd hn=>by rw[Jk.1 hn];exact fl (l6 ha h2))
   ·cases h;exact⟨hp,ha⟩
  case pipe d p=>
   obtain⟨y,hy,rfl⟩:=Jh.1 h
   have hp2:SmP (if aI p=dx then aJ p else p):=by
    split
    ·exact SmP.tail hp
    ·exact hp
   obtain⟨h1,h2⟩:=ih _ _ hy hp2 no
   refine⟨h1,?_⟩
   show∀nd∈(if aI p=dx then _ else _:List Nd),_
   split
   ·intro nd hn;rw[Jk.1 hn];exact fl h2
   ·exact vY h2
  case pipeL d acc p=>
   obtain⟨y,hy,hz⟩:=Ji.1 h
   obtain⟨h1,h2⟩:=ih _ _ hy hp no
   have h3:=l6 (show∀nd∈acc,jn nd from ha) h2
   split at hz
   ·exact ih _ _ hz h1.tail.rest h3
   ·cases hz;exact⟨h1,h3⟩
  case command d p=>
   split at h
   ·cases h
    obtain⟨a1,a2,a3⟩:=qz (p.r.length+1) ⟨[],[],[]⟩ p ⟨fun x hx=>(by cases hx),fun x hx=>(by cases hx),fun x hx=>(by cases hx)⟩ hp
    have hp1:p.r.length≤2048:=hp.1
    have a3':(aG (p.r.length+1) ⟨[],[],[]⟩ p).1.al.length+(aG (p.r.length+1) ⟨[],[],[]⟩ p).1.ws.length+(aG (p.r.length+1) ⟨[],[],[]⟩ p).1.rs.length+(aG (p.r.length+1) ⟨[],[],[]⟩ p).2.r.length≤0+0+0+p.r.length:=a3
    refine⟨?_,fun nd hn=>?_⟩
    ·show SmP (if _ then _ else _)
     split
     ·exact a2.fail 5
     ·exact a2
    ·rw[Jk.1 hn]
     exact ug ⟨by show(aG _ _ _).1.al.length≤_;omega,by show(aG _ _ _).1.ws.length≤_;omega,by show(aG _ _ _).1.rs.length≤_;omega,Ju _,a1.1,a1.2.1,a1.2.2⟩ no
   ·split at h
    ·cases h
     exact⟨SmP.fail hp 5,fun nd hn=>by rw[Jk.1 hn];exact fl no⟩
    ·split at h
     ·cases h
      exact⟨SmP.fail hp 12,fun nd hn=>by rw[Jk.1 hn];exact fl no⟩
     ·obtain⟨y,hy,rfl⟩:=Jh.1 h
      obtain⟨h1,h2⟩:=ih _ _ hy (SmP.tail hp) no
      have hrs:=ry _ _ _ hy trivial
      obtain⟨b1,b2,b3⟩:=rq (y.p.r.length+1) y.p h1
      refine⟨b1,fun nd hn=>?_⟩
      obtain⟨m,hm,rfl⟩:=List.mem_map.1 hn
      have hr0:=hrs m hm
      obtain⟨k,b,s,a,w,r,l⟩:=m
      have hr0':r=[]:=hr0
      subst hr0'
      obtain⟨c1,c2⟩:=CW (h2 _ hm)
      have h1':=h1.1
      exact ug ⟨c1.la,c1.lw,by show([]++(a8 (y.p.r.length+1) y.p).1).length≤_;rw[List.nil_append];omega,c1.ln,c1.ta,c1.tw,by show EI ([]++_);rw[List.nil_append];exact b2⟩ c2
  case read d s p=>
   split at h
   ·exact ih _ _ h hp no
   ·split at h
    ·exact ih _ _ h hp no
    ·split at h
     ·exact ih _ _ h hp no
     ·split at h
      ·exact ih _ _ h hp no
      ·exact ih _ _ h hp no
  case branches d acc p=>
   obtain⟨y,hy,h⟩:=Ji.1 h
   obtain⟨z,hz,h⟩:=Ji.1 h
   obtain⟨h1,h2⟩:=ih _ _ hy hp no
   obtain⟨h3,h4⟩:=ih _ _ hz (h1.jq _) no
   have h5:=l6 (l6 (show∀nd∈acc,jn nd from ha) h2) h4
   split at h
   ·exact ih _ _ h h3.tail h5
   ·split at h
    ·obtain⟨u,hu,rfl⟩:=Jh.1 h
     obtain⟨h6,h7⟩:=ih _ _ hu h3.tail no
     exact⟨h6.jq _,fun nd hn=>by rw[Jk.1 hn];exact fl (l6 h5 h7)⟩
    ·cases h
     exact⟨h3.jq _,fun nd hn=>by rw[Jk.1 hn];exact fl h5⟩
  case loop d k p=>
   obtain⟨y,hy,h⟩:=Ji.1 h
   obtain⟨z,hz,rfl⟩:=Jh.1 h
   obtain⟨h1,h2⟩:=ih _ _ hy hp no
   obtain⟨h3,h4⟩:=ih _ _ hz h1 no
   exact⟨h3,fun nd hn=>by rw[Jk.1 hn];exact fl (l6 h2 h4)⟩
  case body d p=>
   obtain⟨y,hy,rfl⟩:=Jh.1 h
   obtain⟨h1,h2⟩:=ih _ _ hy (SmP.jq hp _) no
   exact⟨h1.jq _,h2⟩
  case each d p=>
   obtain⟨y,hy,rfl⟩:=Jh.1 h
   have hq:SmP (bD p).2∧(bD p).1.length≤2048:=by
    obtain⟨r,e⟩:=p
    unfold bD
    cases r with
    |nil=>exact⟨SmP.fail hp 5,Ju _⟩
    |cons t r=>
     simp only
     split
     ·exact⟨SmP.sub hp (List.sublist_cons_self t r),hp.2 t Jz⟩
     ·exact⟨SmP.fail hp 5,Ju _⟩
   have hm:=hq.1.rest.jq rIn
   obtain⟨w1,w2,w3⟩:=sY ((ay rIn (aD (bD p).2)).r.length+1) _ hm
   have hs:SmP (dP (bN (ay rIn (aD (bD p).2))).2):=by
    unfold dP
    split
    ·exact w1.stop
    ·exact w1.fail 5
   have hpe:SmP (bL p).2.2:=by rw[ev];exact hs.rest
   obtain⟨h1,h2⟩:=ih _ _ hy hpe no
   refine⟨h1,fun nd hn=>?_⟩
   rw[Jk.1 hn,ev]
   have hm1:=hm.1
   have w3':(bN (ay rIn (aD (bD p).2))).1.length+(bN (ay rIn (aD (bD p).2))).2.r.length≤_:=w3
   exact ug ⟨Ju _,by show(bN _).1.length≤_;omega,Ju _,hq.2,fun x hx=>(by cases hx),w2,fun x hx=>(by cases hx)⟩ h2
  case group d p=>
   obtain⟨y,hy,rfl⟩:=Jh.1 h
   obtain⟨h1,h2⟩:=ih _ _ hy hp no
   exact⟨h1.jq _,fun nd hn=>by rw[Jk.1 hn];exact fl h2⟩
def sg (l:List Nd):Nat:=(l.map szN).sum
theorem mj (a b:List Nd):sg (a++b)=sg a+sg b:=by unfold sg;rw[List.map_append,List.sum_append]
theorem iU (n:Nd):sg [n]=szN n:=by unfold sg;simp
theorem zI:∀l:List Nd,dq l=1+sg l
 |[]=>by show szN.dq []=_;rw[szN.dq];rfl
 |n::l=>by
  have ih:=zI l
  show szN.dq (n::l)=_
  rw[szN.dq]
  have e:szN.dq l=1+sg l:=ih
  have e2:sg (n::l)=szN n+sg l:=by unfold sg;simp
  omega
theorem dt (k:Int) (b:Bool) (s:LB) (a:List (LB×LP)) (w:List LP) (r:List (Int×LP)) (l:List Nd):szN (.mk k b s a w r l)=2+sg l:=by
 have h:=je (.mk k b s a w r l)
 have h2:szN (.mk k b s a w r l)=1+dq l:=h
 rw[h2,zI];omega
theorem zW (k:Int) (l:List Nd):sg (cR k l)≤sg l+2:=by
 unfold cR
 split
 ·omega
 ·rw[iU];unfold ndK;rw[dt];omega
theorem CC (rs:List (Int×LP)) (n:Nd):szN (fh rs n)=szN n:=by
 obtain⟨k,b,s,a,w,r,l⟩:=n
 rw[qe,dt,dt]
theorem Dh (rs:List (Int×LP)) (l:List Nd):sg (l.map (fh rs))=sg l:=by
 unfold sg
 rw[List.map_map]
 congr 1
 exact List.map_congr_left fun n _=>CC rs n
def Job.extra:Job→Nat
 |.command _ _=>2
 |.pipeL _ _ _=>2
 |.pipe _ _=>4
 |.chainL _ _ _=>0
 |.chain _ _=>4
 |.kids _ _ _=>4
 |.list _ _=>6
 |.block _ _=>6
 |.body _ _=>6
 |.group _ _=>14
 |.branches _ _ _=>14
 |.loop _ _ _=>14
 |.each _ _=>14
 |.read _ _ _=>14
theorem Cl:∀(n:Nat) (j:Job) (x:Rd9),run n j=some x→sg x.ns+20*x.p.len≤sg j.has+20*j.p.len+j.extra
 |0,_,_,h=>by cases h
 |n+1,j,x,h=>by
  have ih:=Cl n
  cases j<;>unfold run at h
  case block d p=>
   obtain⟨y,hy,rfl⟩:=Jh.1 h
   have h1:=ih _ _ hy
   have h2:(aD p).len≤p.len:=cq p
   have h3:(if y.st then y.p else bm y.p 5).len≤y.p.len:=by
    split
    ·exact Jb _
    ·exact Ju _
   have h1':sg y.ns+20*y.p.len≤0+20*(aD p).len+6:=h1
   show sg y.ns+20*(if y.st then y.p else bm y.p 5).len≤0+20*p.len+6
   omega
  case list d p=>
   obtain⟨y,hy,rfl⟩:=Jh.1 h
   have h1:sg y.ns+20*y.p.len≤0+20*p.len+4:=ih _ _ hy
   have h2:=zW 5 y.ns
   show sg (cR 5 y.ns)+20*y.p.len≤0+20*p.len+6
   omega
  case kids d acc p=>
   obtain⟨y,hy,hz⟩:=Ji.1 h
   have h1:sg y.ns+20*y.p.len≤0+20*p.len+4:=ih _ _ hy
   have ha:=mj acc y.ns
   show sg x.ns+20*x.p.len≤sg acc+20*p.len+4
   split at hz
   ·rename_i hs
    have h2:(aL y.p).2.len<y.p.len:=lM hs
    have h3:(aD (aL y.p).2).len≤(aL y.p).2.len:=cq _
    split at hz
    ·have h4:sg x.ns+20*x.p.len≤sg (acc++y.ns)+20*(aD (aL y.p).2).len+4:=ih _ _ hz
     omega
    ·cases hz
     show sg (acc++y.ns)+20*(aD (aL y.p).2).len≤_
     omega
   ·cases hz
    show sg (acc++y.ns)+20*y.p.len≤_
    omega
  case chain d p=>
   obtain⟨y,hy,hz⟩:=Ji.1 h
   have h1:sg y.ns+20*y.p.len≤0+20*p.len+4:=ih _ _ hy
   have h2:sg x.ns+20*x.p.len≤sg y.ns+20*y.p.len+0:=ih _ _ hz
   show sg x.ns+20*x.p.len≤0+20*p.len+4
   omega
  case chainL d l p=>
   show sg x.ns+20*x.p.len≤sg l+20*p.len+0
   split at h
   ·rename_i hk
    obtain⟨y,hy,hz⟩:=Ji.1 h
    have h1:sg y.ns+20*y.p.len≤0+20*(aD (aJ p)).len+4:=ih _ _ hy
    have h2:sg x.ns+20*x.p.len≤sg [ndK (if ag p=4 then 3 else 4) (l++y.ns)]+20*y.p.len+0:=ih _ _ hz
    have h3:(aJ p).len<p.len:=eC (by rcases hk with hk|hk<;>rw[hk]<;>decide)
    have h4:(aD (aJ p)).len≤(aJ p).len:=cq _
    have h5:sg [ndK (if ag p=4 then 3 else 4) (l++y.ns)]=2+(sg l+sg y.ns):=by rw[iU];unfold ndK;rw[dt,mj]
    omega
   ·cases h;exact Jb _
  case pipe d p=>
   obtain⟨y,hy,rfl⟩:=Jh.1 h
   have hp2:(if aI p=dx then aJ p else p).len≤p.len:=by
    split
    ·exact eI p
    ·exact Jb _
   have h1:sg y.ns+20*y.p.len≤0+20*(if aI p=dx then aJ p else p).len+2:=ih _ _ hy
   have h2:sg (if aI p=dx then[Nd.mk 2 true [] [] [] [] y.ns] else cR 2 y.ns)≤sg y.ns+2:=by
    split
    ·rw[iU,dt];omega
    ·exact zW 2 y.ns
   show sg (if aI p=dx then[Nd.mk 2 true [] [] [] [] y.ns] else cR 2 y.ns)+20*y.p.len≤0+20*p.len+4
   omega
  case pipeL d acc p=>
   obtain⟨y,hy,hz⟩:=Ji.1 h
   have h1:sg y.ns+20*y.p.len≤0+20*p.len+2:=ih _ _ hy
   have ha:=mj acc y.ns
   show sg x.ns+20*x.p.len≤sg acc+20*p.len+2
   split at hz
   ·rename_i hk
    have h2:sg x.ns+20*x.p.len≤sg (acc++y.ns)+20*(aD (aJ y.p)).len+2:=ih _ _ hz
    have h3:(aJ y.p).len<y.p.len:=eC (by rw[hk];decide)
    have h4:(aD (aJ y.p)).len≤(aJ y.p).len:=cq _
    omega
   ·cases hz
    show sg (acc++y.ns)+20*y.p.len≤_
    omega
  case command d p=>
   show sg x.ns+20*x.p.len≤0+20*p.len+2
   have leaf:∀(k:Int) (a:List (LB×LP)) (w:List LP) (r:List (Int×LP)),sg [Nd.mk k false [] a w r []]=2:=fun k a w r=>by rw[iU,dt];rfl
   split at h
   ·cases h
    have h1:(aS p).2.len≤p.len:=pR p
    have h2:sg [(aS p).1]=2:=leaf _ _ _ _
    show sg [(aS p).1]+20*(aS p).2.len≤_
    omega
   ·split at h
    ·cases h
     have h2:sg [Nd0]=2:=leaf _ _ _ _
     show sg [Nd0]+20*0≤_
     omega
    ·split at h
     ·cases h
      have h2:sg [Nd0]=2:=leaf _ _ _ _
      show sg [Nd0]+20*0≤_
      omega
     ·rename_i hr _ _
      obtain⟨y,hy,rfl⟩:=Jh.1 h
      have h1:sg y.ns+20*y.p.len≤0+20*(aJ p).len+14:=ih _ _ hy
      have h2:(aJ p).len<p.len:=eY hr
      have h3:(aY y.p).2.len≤y.p.len:=qo _
      have h4:=Dh (aY y.p).1 y.ns
      show sg (y.ns.map (fh (aY y.p).1))+20*(aY y.p).2.len≤_
      omega
  case read d s p=>
   show sg x.ns+20*x.p.len≤0+20*p.len+14
   split at h
   ·exact ih _ _ h
   ·split at h
    ·exact ih _ _ h
    ·split at h
     ·exact ih _ _ h
     ·split at h
      ·exact ih _ _ h
      ·exact ih _ _ h
  case branches d acc p=>
   show sg x.ns+20*x.p.len≤sg acc+20*p.len+14
   obtain⟨y,hy,h⟩:=Ji.1 h
   obtain⟨z,hz,h⟩:=Ji.1 h
   have h1:sg y.ns+20*y.p.len≤0+20*p.len+6:=ih _ _ hy
   have h2:sg z.ns+20*z.p.len≤0+20*(ay cu y.p).len+6:=ih _ _ hz
   have h3:(ay cu y.p).len≤y.p.len:=bZ _ _
   have ha:sg (acc++y.ns++z.ns)=sg acc+sg y.ns+sg z.ns:=by rw[mj,mj]
   split at h
   ·rename_i he
    have h4:sg x.ns+20*x.p.len≤sg (acc++y.ns++z.ns)+20*(aJ z.p).len+14:=ih _ _ h
    have h5:(aJ z.p).len<z.p.len:=eY (by rw[he];decide)
    omega
   ·split at h
    ·rename_i he
     obtain⟨u,hu,rfl⟩:=Jh.1 h
     have h4:sg u.ns+20*u.p.len≤0+20*(aJ z.p).len+6:=ih _ _ hu
     have h5:(aJ z.p).len<z.p.len:=eY (by rw[he];decide)
     have h6:(ay rFi u.p).len≤u.p.len:=bZ _ _
     have h7:sg [ndK 6 (acc++y.ns++z.ns++u.ns)]=2+(sg (acc++y.ns++z.ns)+sg u.ns):=by rw[iU];unfold ndK;rw[dt,mj]
     show sg [ndK 6 (acc++y.ns++z.ns++u.ns)]+20*(ay rFi u.p).len≤_
     omega
    ·cases h
     have h6:(ay rFi z.p).len≤z.p.len:=bZ _ _
     have h7:sg [ndK 6 (acc++y.ns++z.ns)]=2+sg (acc++y.ns++z.ns):=by rw[iU];unfold ndK;rw[dt]
     show sg [ndK 6 (acc++y.ns++z.ns)]+20*(ay rFi z.p).len≤_
     omega
  case loop d k p=>
   show sg x.ns+20*x.p.len≤0+20*p.len+14
   obtain⟨y,hy,h⟩:=Ji.1 h
   obtain⟨z,hz,rfl⟩:=Jh.1 h
   have h1:sg y.ns+20*y.p.len≤0+20*p.len+6:=ih _ _ hy
   have h2:sg z.ns+20*z.p.len≤0+20*y.p.len+6:=ih _ _ hz
   have h7:sg [ndK k (y.ns++z.ns)]=2+(sg y.ns+sg z.ns):=by rw[iU];unfold ndK;rw[dt,mj]
   show sg [ndK k (y.ns++z.ns)]+20*z.p.len≤_
   omega
  case body d p=>
   show sg x.ns+20*x.p.len≤0+20*p.len+6
   obtain⟨y,hy,rfl⟩:=Jh.1 h
   have h1:sg y.ns+20*y.p.len≤0+20*(ay rDo p).len+6:=ih _ _ hy
   have h2:(ay rDo p).len≤p.len:=bZ _ _
   have h3:(ay bp y.p).len≤y.p.len:=bZ _ _
   show sg y.ns+20*(ay bp y.p).len≤_
   omega
  case each d p=>
   show sg x.ns+20*x.p.len≤0+20*p.len+14
   obtain⟨y,hy,rfl⟩:=Jh.1 h
   have h1:sg y.ns+20*y.p.len≤0+20*(bL p).2.2.len+6:=ih _ _ hy
   have h2:(bL p).2.2.len≤p.len:=qS p
   have h7:sg [Nd.mk 9 false (bL p).1 [] (bL p).2.1 [] y.ns]=2+sg y.ns:=by rw[iU,dt]
   show sg [Nd.mk 9 false (bL p).1 [] (bL p).2.1 [] y.ns]+20*y.p.len≤_
   omega
  case group d p=>
   show sg x.ns+20*x.p.len≤0+20*p.len+14
   obtain⟨y,hy,rfl⟩:=Jh.1 h
   have h1:sg y.ns+20*y.p.len≤0+20*p.len+6:=ih _ _ hy
   have h3:(ay cx y.p).len≤y.p.len:=bZ _ _
   have h7:sg [ndK 10 y.ns]=2+sg y.ns:=by rw[iU];unfold ndK;rw[dt]
   show sg [ndK 10 y.ns]+20*(ay cx y.p).len≤_
   omega
theorem uJ:∀(N:Nat) (n:Nd),szN n≤N→(aK n).length+1≤szN n∧∀m∈aK n,szN m≤szN n
 |0,n,h=>by obtain⟨k,b,s,a,w,r,l⟩:=n;rw[dt] at h;omega
 |N+1,.mk k b s a w r l,h=>by
  rw[jv,iH]
  rw[dt] at h⊢
  have key:∀l:List Nd,sg l≤N→(l.flatMap aK).length≤sg l∧∀m∈l.flatMap aK,szN m≤sg l:=by
   intro l
   induction l with
   |nil=>intro _;exact⟨Ju _,fun m hm=>by simp at hm⟩
   |cons x l ih=>
    intro hl
    have e:sg (x::l)=szN x+sg l:=by unfold sg;simp
    obtain⟨i1,i2⟩:=ih (by omega)
    obtain⟨j1,j2⟩:=uJ N x (by omega)
    rw[List.flatMap_cons]
    refine⟨by rw[Jf];omega,fun m hm=>?_⟩
    rcases Jm.1 hm with hm|hm
    ·have:=j2 m hm;omega
    ·have:=i2 m hm;omega
  obtain⟨i1,i2⟩:=key l (by omega)
  refine⟨by rw[Jg];omega,fun m hm=>?_⟩
  rcases Jl.1 hm with rfl|hm
  ·rw[dt];exact Jb _
  ·have:=i2 m hm;omega
theorem xK:∀l:List Nd,l.length≤sg l
 |[]=>Jb _
 |x::l=>by
  have e:sg (x::l)=szN x+sg l:=by unfold sg;simp
  have ih:=xK l
  obtain⟨k,b,s,a,w,r,l'⟩:=x
  have e2:=dt k b s a w r l'
  rw[Jg];omega
theorem DK {n:Nd} (h:jn n) (hz:szN n≤100000):∀m∈aK n,OkM m:=fun m hm=>by
 have h1:=h m hm
 have h2:=(uJ _ n (Jb _)).2 m hm
 obtain⟨k,b,s,a,w,r,l⟩:=m
 rw[dt] at h2
 have h3:=xK l
 exact⟨lt9 h1.la (by decide),lt9 h1.lw (by decide),lt9 h1.lr (by decide),by show l.length≤_;omega,lt9 h1.ln (by decide),fun a ha=>⟨lt9 (h1.ta a ha).1 (by decide),lt9 (h1.ta a ha).2 (by decide)⟩,fun a ha=>lt9 (h1.tw a ha) (by decide),fun a ha=>lt9 (h1.tr a ha) (by decide)⟩
