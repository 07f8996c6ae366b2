import Derived.Test.YtgigdlhcjahejaaGreatDoorF12
import Derived.Test.YtgigdlhcjahejaaGreatDoorF26
set_option linter.all false
set_option maxHeartbeats 400000000
namespace Go.Proofs.YtgigdlhcjahejaaGreatDoor
open Go Go.RowKit Go.Lw
def Job.p:Job→Ps
 |.block _ p|.list _ p|.kids _ _ p|.chain _ p|.chainL _ _ p|.pipe _ p|.pipeL _ _ p|.command _ p|.read _ _ p|.branches _ _ p|.loop _ _ p|.body _ p|.each _ p|.group _ p=>p
abbrev Ps.len (p:Ps):Nat:=p.r.length
theorem De (p:Ps) (e:Nat):(bm p e).len≤p.len:=Ju _
theorem eI (p:Ps):(aJ p).len≤p.len:=by
 show p.r.tail.length≤_
 rw[List.length_tail];exact Nat.sub_le _ _
theorem eC {p:Ps} (h:ag p≠0):(aJ p).len<p.len:=by
 show p.r.tail.length<p.r.length
 unfold ag at h
 split at h
 ·exact absurd rfl h
 ·rename_i t r e;rw[e];simp
theorem wj (p:Ps):(aL p).2.len≤p.len:=by
 unfold aL
 split
 ·exact eI p
 ·exact Jb _
theorem lM {p:Ps} (h:(aL p).1=true):(aL p).2.len<p.len:=by
 unfold aL at h⊢
 split at h
 ·rename_i e;rw[Jt e];exact eC (by rcases e with e|e<;>rw[e]<;>decide)
 ·cases h
theorem Dw {α:Type} (f:α→Bool):∀l:List α,(l.dropWhile f).length≤l.length
 |[]=>Jb _
 |x::l=>by
  rw[List.dropWhile_cons]
  split
  ·have:=Dw f l;simp;omega
  ·exact Jb _
theorem cq (p:Ps):(aD p).len≤p.len:=Dw _ _
theorem bZ (s:LB) (p:Ps):(ay s p).len≤p.len:=by
 unfold ay
 split
 ·exact eI p
 ·exact De p 5
theorem cK {p:Ps} (h:aI p≠[]):ag p=1:=by
 obtain⟨r,e⟩:=p
 cases r with
 |nil=>exact absurd rfl h
 |cons t r=>
  unfold aI at h
  simp only at h
  split at h
  ·rename_i e2;exact e2.1
  ·exact absurd rfl h
theorem eY {p:Ps} (h:aI p≠[]):(aJ p).len<p.len:=eC (by rw[cK h];decide)
theorem xd (p:Ps):(aP p).2.len≤p.len:=by
 obtain⟨r,e⟩:=p
 unfold aP
 cases r with
 |nil=>exact Ju _
 |cons t r=>
  simp only
  split
  ·split
   ·exact Nat.le_succ _
   ·exact Ju _
  ·exact Ju _
theorem fb {p:Ps} (h:ag p=1):(aP p).2.len<p.len:=by
 obtain⟨r,e⟩:=p
 cases r with
 |nil=>cases h
 |cons t r=>
  have h':t.kind=1:=h
  unfold aP
  simp only
  rw[Jt h']
  split
  ·exact Nat.lt_succ_self _
  ·exact Nat.succ_pos _
theorem dK {p:Ps} {x:(Int×LP)×Ps} (h:bf p=some x):x.2.len<p.len:=by
 unfold bf at h
 split at h
 ·cases h
 ·rename_i e
  cases h
  exact Nat.lt_of_le_of_lt (xd _) (eC (by omega))
theorem oR:∀(n:Nat) (p:Ps),(a8 n p).2.len≤p.len
 |0,p=>Jb _
 |n+1,p=>by
  unfold a8
  split
  ·exact Jb _
  ·rename_i x p' h
   exact lt9 (oR n p') (Nat.le_of_lt (dK h))
theorem nG:∀(n:Nat) (p:Ps),p.len<n→a8 (n+1) p=a8 n p
 |0,p,h=>by omega
 |n+1,p,h=>by
  conv=>lhs;unfold a8
  conv=>rhs;unfold a8
  cases e:bf p with
  |none=>rfl
  |some x=>
   obtain⟨x,p'⟩:=x
   have h2:p'.len<p.len:=dK e
   simp only
   rw[nG n p' (by omega)]
theorem uI (n k:Nat) (p:Ps) (h:p.len<n):a8 (n+k) p=a8 n p:=by
 induction k with
 |zero=>rfl
 |succ k ih=>rw[←Nat.add_assoc,nG _ p (by omega),ih]
theorem nx (p:Ps):aY p=match bf p with
  |none=>([],p)
  |some (x,p')=>(x::(aY p').1,(aY p').2):=by
 conv=>lhs;unfold aY
 unfold a8
 cases e:bf p with
 |none=>rfl
 |some x=>
  obtain⟨x,p'⟩:=x
  have h2:p'.len<p.len:=dK e
  simp only
  unfold aY
  obtain⟨k,hk⟩:∃k,p.r.length=(p'.r.length+1)+k:=⟨p.r.length -(p'.r.length+1),by have:p'.r.length<p.r.length:=h2;omega⟩
  rw[hk,uI _ _ _ (Nat.lt_succ_self _)]
theorem qo (p:Ps):(aY p).2.len≤p.len:=oR _ _
theorem ej {m:Sm} {p:Ps} {x:Sm×Ps} (h:aR m p=some x):x.2.len<p.len:=by
 unfold aR at h
 split at h
 ·rename_i y p' e
  cases h
  exact dK e
 ·split at h
  ·cases h
  ·rename_i t r e
   have hl:r.length<p.len:=by show _<p.r.length;rw[e];simp
   split at h
   ·rename_i hk
    split at h
    ·cases h;exact hl
    ·split at h
     ·cases h;exact Nat.lt_of_le_of_lt (Ju _) hl
     ·cases h
      exact fb (by unfold ag;rw[e];exact hk)
   ·cases h
theorem gC:∀(n:Nat) (m:Sm) (p:Ps),(aG n m p).2.len≤p.len
 |0,m,p=>Jb _
 |n+1,m,p=>by
  unfold aG
  split
  ·exact Jb _
  ·rename_i x h
   exact lt9 (gC n x.1 x.2) (Nat.le_of_lt (ej h))
theorem mU:∀(n:Nat) (m:Sm) (p:Ps),p.len<n→aG (n+1) m p=aG n m p
 |0,m,p,h=>by omega
 |n+1,m,p,h=>by
  conv=>lhs;unfold aG
  conv=>rhs;unfold aG
  cases e:aR m p with
  |none=>rfl
  |some x=>
   have h2:=ej e
   simp only
   exact mU n x.1 x.2 (by omega)
theorem tY (n k:Nat) (m:Sm) (p:Ps) (h:p.len<n):aG (n+k) m p=aG n m p:=by
 induction k with
 |zero=>rfl
 |succ k ih=>rw[←Nat.add_assoc,mU _ m p (by omega),ih]
theorem pR (p:Ps):(aS p).2.len≤p.len:=by
 unfold aS
 simp only
 split
 ·exact Ju _
 ·exact gC _ _ _
theorem ru:∀(n:Nat) (p:Ps),(bs n p).2.len≤p.len
 |0,p=>Jb _
 |n+1,p=>by
  unfold bs
  split
  ·exact lt9 (ru n _) (xd p)
  ·exact Jb _
theorem qS (p:Ps):(bL p).2.2.len≤p.len:=by
 unfold bL
 simp only
 refine lt9 (cq _) ?_
 have h1:∀q:LB×Ps,q.2.len≤p.len→(if(aL (bs ((ay rIn (aD q.2)).r.length+1) (ay rIn (aD q.2))).2).1=true then(aL (bs ((ay rIn (aD q.2)).r.length+1) (ay rIn (aD q.2))).2).2 else bm (bs ((ay rIn (aD q.2)).r.length+1) (ay rIn (aD q.2))).2 5).len≤p.len:=fun q hq=>by
  have h2:(bs ((ay rIn (aD q.2)).r.length+1) (ay rIn (aD q.2))).2.len≤p.len:=lt9 (ru _ _) (lt9 (bZ _ _) (lt9 (cq _) hq))
  split
  ·exact lt9 (wj _) h2
  ·exact Ju _
 refine h1 _ ?_
 obtain⟨r,e⟩:=p
 cases r with
 |nil=>exact Jb _
 |cons t r=>
  simp only
  split
  ·exact Nat.le_succ _
  ·exact Ju _
theorem eF:∀(n:Nat) (j:Job) (x:Rd9),run n j=some x→x.p.len≤j.p.len
 |0,_,_,h=>by cases h
 |n+1,j,x,h=>by
  have ih:=eF n
  cases j<;>unfold run at h
  case block d p=>
   obtain⟨y,hy,rfl⟩:=Jh.1 h
   have h1:=ih _ _ hy
   show(if _ then _ else _:Ps).len≤p.len
   split
   ·exact lt9 h1 (cq p)
   ·exact Ju _
  case list d p=>
   obtain⟨y,hy,rfl⟩:=Jh.1 h
   have h1:=ih _ _ hy
   exact h1
  case kids d acc p=>
   obtain⟨y,hy,hz⟩:=Ji.1 h
   have h1:y.p.len≤p.len:=ih _ _ hy
   have h2:(aD (aL y.p).2).len≤p.len:=lt9 (cq _) (lt9 (wj _) h1)
   split at hz
   ·split at hz
    ·have h3:=ih _ _ hz
     exact lt9 h3 h2
    ·cases hz;exact h2
   ·cases hz;exact h1
  case chain d p=>
   obtain⟨y,hy,hz⟩:=Ji.1 h
   have h1:=ih _ _ hy
   have h2:=ih _ _ hz
   exact lt9 h2 h1
  case chainL d l p=>
   split at h
   ·obtain⟨y,hy,hz⟩:=Ji.1 h
    have h1:=ih _ _ hy
    have h2:=ih _ _ hz
    exact lt9 h2 (lt9 h1 (lt9 (cq _) (eI p)))
   ·cases h;exact Jb _
  case pipe d p=>
   obtain⟨y,hy,rfl⟩:=Jh.1 h
   have h1:=ih _ _ hy
   refine lt9 h1 ?_
   show(if _ then _ else _:Ps).len≤p.len
   split
   ·exact eI p
   ·exact Jb _
  case pipeL d acc p=>
   obtain⟨y,hy,hz⟩:=Ji.1 h
   have h1:y.p.len≤p.len:=ih _ _ hy
   split at hz
   ·have h3:=ih _ _ hz
    exact lt9 h3 (lt9 (cq _) (lt9 (eI _) h1))
   ·cases hz;exact h1
  case command d p=>
   split at h
   ·cases h;exact pR p
   ·split at h
    ·cases h;exact Ju _
    ·split at h
     ·cases h;exact Ju _
     ·obtain⟨y,hy,rfl⟩:=Jh.1 h
      have h1:=ih _ _ hy
      exact lt9 (qo _) (lt9 h1 (eI p))
  case read d s p=>
   split at h
   ·have h1:=ih _ _ h
    exact h1
   ·split at h
    ·have h1:=ih _ _ h
     exact h1
    ·split at h
     ·have h1:=ih _ _ h
      exact h1
     ·split at h
      ·have h1:=ih _ _ h
       exact h1
      ·have h1:=ih _ _ h
       exact h1
  case branches d acc p=>
   obtain⟨y,hy,h⟩:=Ji.1 h
   obtain⟨z,hz,h⟩:=Ji.1 h
   have h7:=ih _ _ hy
   have h8:=ih _ _ hz
   have h1:z.p.len≤p.len:=lt9 h8 (lt9 (bZ _ _) h7)
   split at h
   ·have h9:=ih _ _ h
    exact lt9 h9 (lt9 (eI _) h1)
   ·split at h
    ·obtain⟨u,hu,rfl⟩:=Jh.1 h
     have h9:=ih _ _ hu
     exact lt9 (bZ _ _) (lt9 h9 (lt9 (eI _) h1))
    ·cases h;exact lt9 (bZ _ _) h1
  case loop d k p=>
   obtain⟨y,hy,h⟩:=Ji.1 h
   obtain⟨z,hz,rfl⟩:=Jh.1 h
   have h1:=ih _ _ hy
   have h2:=ih _ _ hz
   exact lt9 h2 h1
  case body d p=>
   obtain⟨y,hy,rfl⟩:=Jh.1 h
   have h1:=ih _ _ hy
   exact lt9 (bZ _ _) (lt9 h1 (bZ _ _))
  case each d p=>
   obtain⟨y,hy,rfl⟩:=Jh.1 h
   have h1:=ih _ _ hy
   exact lt9 h1 (qS p)
  case group d p=>
   obtain⟨y,hy,rfl⟩:=Jh.1 h
   have h1:=ih _ _ hy
   exact lt9 (bZ _ _) h1
def Job.single:Job→Prop
 |.kids _ _ _|.pipeL _ _ _=>False
 |.chainL _ x _=>∃n,x=[n]
 |_=>True
def Job.many:Job→Prop
 |.kids _ _ _|.pipeL _ _ _=>True
 |_=>False
def Job.acc:Job→List Nd
 |.kids _ acc _|.pipeL _ acc _=>acc
 |_=>[]
theorem oE (k:Int) (l:List Nd):∃n,cR k l=[n]:=by
 unfold cR
 split
 ·exact⟨_,rfl⟩
 ·exact⟨_,rfl⟩
theorem cJ:∀(n:Nat) (j:Job) (x:Rd9),run n j=some x→(j.single→∃nd,x.ns=[nd])∧(j.many→∃nd l,x.ns=j.acc++nd::l)
 |0,_,_,h=>by cases h
 |n+1,j,x,h=>by
  have ih:=cJ n
  cases j<;>unfold run at h
  case block d p=>
   obtain⟨y,hy,rfl⟩:=Jh.1 h
   exact⟨fun _=>(ih _ _ hy).1 trivial,fun h=>h.elim⟩
  case list d p=>
   obtain⟨y,hy,rfl⟩:=Jh.1 h
   exact⟨fun _=>oE _ _,fun h=>h.elim⟩
  case kids d acc p=>
   obtain⟨y,hy,hz⟩:=Ji.1 h
   obtain⟨nd,hnd⟩:=(ih _ _ hy).1 trivial
   refine⟨fun h=>h.elim,fun _=>?_⟩
   rw[hnd] at hz
   split at hz
   ·split at hz
    ·obtain⟨m,l,e⟩:=(ih _ _ hz).2 trivial
     exact⟨nd,m::l,by rw[e];show(acc++[nd])++_=acc++_;simp⟩
    ·cases hz;exact⟨nd,[],rfl⟩
   ·cases hz;exact⟨nd,[],rfl⟩
  case chain d p=>
   obtain⟨y,hy,hz⟩:=Ji.1 h
   obtain⟨nd,hnd⟩:=(ih _ _ hy).1 trivial
   exact⟨fun _=>(ih _ _ hz).1 ⟨nd,hnd⟩,fun h=>h.elim⟩
  case chainL d l p=>
   refine⟨fun hs=>?_,fun h=>h.elim⟩
   split at h
   ·obtain⟨y,hy,hz⟩:=Ji.1 h
    exact(ih _ _ hz).1 ⟨_,rfl⟩
   ·cases h;exact hs
  case pipe d p=>
   obtain⟨y,hy,rfl⟩:=Jh.1 h
   refine⟨fun _=>?_,fun h=>h.elim⟩
   show∃nd,(if aI p=dx then _ else _:List Nd)=[nd]
   split
   ·exact⟨_,rfl⟩
   ·exact oE _ _
  case pipeL d acc p=>
   obtain⟨y,hy,hz⟩:=Ji.1 h
   obtain⟨nd,hnd⟩:=(ih _ _ hy).1 trivial
   refine⟨fun h=>h.elim,fun _=>?_⟩
   rw[hnd] at hz
   split at hz
   ·obtain⟨m,l,e⟩:=(ih _ _ hz).2 trivial
    exact⟨nd,m::l,by rw[e];show(acc++[nd])++_=acc++_;simp⟩
   ·cases hz;exact⟨nd,[],rfl⟩
  case command d p=>
   refine⟨fun _=>?_,fun h=>h.elim⟩
   split at h
   ·cases h;exact⟨_,rfl⟩
   ·split at h
    ·cases h;exact⟨_,rfl⟩
    ·split at h
     ·cases h;exact⟨_,rfl⟩
     ·obtain⟨y,hy,rfl⟩:=Jh.1 h
      obtain⟨nd,hnd⟩:=(ih _ _ hy).1 trivial
      exact⟨fh (aY y.p).1 nd,by show List.map _ _=_;rw[hnd];rfl⟩
  case read d s p=>
   refine⟨fun _=>?_,fun h=>h.elim⟩
   split at h
   ·exact(ih _ _ h).1 trivial
   ·split at h
    ·exact(ih _ _ h).1 trivial
    ·split at h
     ·exact(ih _ _ h).1 trivial
     ·split at h
      ·exact(ih _ _ h).1 trivial
      ·exact(ih _ _ h).1 trivial
  case branches d acc p=>
   refine⟨fun _=>?_,fun h=>h.elim⟩
   obtain⟨y,hy,h⟩:=Ji.1 h
   obtain⟨z,hz,h⟩:=Ji.1 h
   split at h
   ·exact(ih _ _ h).1 trivial
   ·split at h
    ·obtain⟨u,hu,rfl⟩:=Jh.1 h
     exact⟨_,rfl⟩
    ·cases h;exact⟨_,rfl⟩
  case loop d k p=>
   obtain⟨y,hy,h⟩:=Ji.1 h
   obtain⟨z,hz,rfl⟩:=Jh.1 h
   exact⟨fun _=>⟨_,rfl⟩,fun h=>h.elim⟩
  case body d p=>
   obtain⟨y,hy,rfl⟩:=Jh.1 h
   exact⟨fun _=>(ih _ _ hy).1 trivial,fun h=>h.elim⟩
  case each d p=>
   obtain⟨y,hy,rfl⟩:=Jh.1 h
   exact⟨fun _=>⟨_,rfl⟩,fun h=>h.elim⟩
  case group d p=>
   obtain⟨y,hy,rfl⟩:=Jh.1 h
   exact⟨fun _=>⟨_,rfl⟩,fun h=>h.elim⟩
def Job.Df:Job→Nat
 |.command _ _=>0
 |.pipeL _ _ _=>1
 |.pipe _ _=>2
 |.chainL _ _ _=>2
 |.chain _ _=>3
 |.kids _ _ _=>4
 |.list _ _=>5
 |.block _ _=>6
 |.group _ _=>7
 |.branches _ _ _=>7
 |.body _ _=>8
 |.loop _ _ _=>9
 |.each _ _=>9
 |.read _ _ _=>10
def Job.size (j:Job):Nat:=12*j.p.len+j.Df
theorem vQ:∀(m:Nat) (j:Job),j.size<m→∃x,aM j x
 |0,j,h=>by omega
 |m+1,j,h=>by
  have ih:∀j':Job,j'.size<j.size→∃x,aM j' x:=fun j' hj=>vQ m j' (by omega)
  have lt:∀j':Job,j'.p.len≤j.p.len→j'.Df<j.Df→∃x,aM j' x:=fun j' h1 h2=>ih j' (by unfold Job.size;omega)
  have ls:∀j':Job,j'.p.len<j.p.len→∃x,aM j' x:=fun j' h1=>ih j' (by
   have h2:j'.Df≤10:=by cases j'<;>simp[Job.Df]
   unfold Job.size;omega)
  cases j
  case block d p=>
   obtain⟨x,n,hx⟩:=lt (.list d (aD p)) (cq p) (by decide:(5:Nat)<6)
   exact⟨_,n+1,by rw[run,hx];rfl⟩
  case list d p=>
   obtain⟨x,n,hx⟩:=lt (.kids d [] p) (Jb _) (by decide:(4:Nat)<5)
   exact⟨_,n+1,by rw[run,hx];rfl⟩
  case kids d acc p=>
   obtain⟨x,n,hx⟩:=lt (.chain d p) (Jb _) (by decide:(3:Nat)<4)
   have h1:x.p.len≤p.len:=eF _ _ _ hx
   by_cases c1:(aL x.p).1=true
   ·by_cases c2:ag (aD (aL x.p).2)≠0∧cQ (aI (aD (aL x.p).2))=false
    ·obtain⟨y,k,hy⟩:=ls (.kids d (acc++x.ns) (aD (aL x.p).2)) (Nat.lt_of_le_of_lt (cq _) (Jv (lM c1) h1))
     refine⟨y,max n k+1,?_⟩
     rw[run,aM.le hx (Nat.le_max_left n k)]
     show(if _ then(if _ then _ else _) else _)=_
     rw[Jt c1,Jt c2,aM.le hy (Nat.le_max_right n k)]
    ·refine⟨⟨acc++x.ns,true,aD (aL x.p).2⟩,n+1,?_⟩
     rw[run,hx]
     show(if _ then(if _ then _ else _) else _)=_
     rw[Jt c1,Js c2]
   ·refine⟨⟨acc++x.ns,false,x.p⟩,n+1,?_⟩
    rw[run,hx]
    show(if _ then _ else _)=_
    rw[Js c1]
  case chain d p=>
   obtain⟨x,n,hx⟩:=lt (.pipe d p) (Jb _) (by decide:(2:Nat)<3)
   have h1:=eF _ _ _ hx
   obtain⟨y,k,hy⟩:=lt (.chainL d x.ns x.p) h1 (by decide:(2:Nat)<3)
   refine⟨y,max n k+1,?_⟩
   rw[run,aM.le hx (Nat.le_max_left n k)]
   exact aM.le hy (Nat.le_max_right n k)
  case chainL d l p=>
   by_cases c:ag p=4∨ag p=5
   ·have hk:ag p≠0:=by rcases c with c|c<;>rw[c]<;>decide
    obtain⟨x,n,hx⟩:=ls (.pipe d (aD (aJ p))) (Nat.lt_of_le_of_lt (cq _) (eC hk))
    have h1:x.p.len≤(aD (aJ p)).len:=eF _ _ _ hx
    obtain⟨y,k,hy⟩:=ls (.chainL d [ndK (if ag p=4 then 3 else 4) (l++x.ns)] x.p) (Nat.lt_of_le_of_lt h1 (Nat.lt_of_le_of_lt (cq _) (eC hk)))
    refine⟨y,max n k+1,?_⟩
    rw[run,Jt c,aM.le hx (Nat.le_max_left n k)]
    exact aM.le hy (Nat.le_max_right n k)
   ·exact⟨_,1,by rw[run,Js c]⟩
  case pipe d p=>
   have h1:(if aI p=dx then aJ p else p).len≤p.len:=by
    split
    ·exact eI p
    ·exact Jb _
   obtain⟨x,n,hx⟩:=lt (.pipeL d [] (if aI p=dx then aJ p else p)) h1 (by decide:(1:Nat)<2)
   exact⟨_,n+1,by rw[run,hx];rfl⟩
  case pipeL d acc p=>
   obtain⟨x,n,hx⟩:=lt (.command d p) (Jb _) (by decide:(0:Nat)<1)
   have h1:x.p.len≤p.len:=eF _ _ _ hx
   by_cases c:ag x.p=6
   ·obtain⟨y,k,hy⟩:=ls (.pipeL d (acc++x.ns) (aD (aJ x.p))) (Nat.lt_of_le_of_lt (cq _) (Jv (eC (by rw[c];decide)) h1))
    refine⟨y,max n k+1,?_⟩
    rw[run,aM.le hx (Nat.le_max_left n k)]
    show(if _ then _ else _)=_
    rw[Jt c,aM.le hy (Nat.le_max_right n k)]
   ·refine⟨⟨acc++x.ns,false,x.p⟩,n+1,?_⟩
    rw[run,hx]
    show(if _ then _ else _)=_
    rw[Js c]
  case command d p=>
   by_cases c1:aI p=[]
   ·exact⟨_,1,by rw[run,Jt c1]⟩
   ·by_cases c2:iG (aI p)=false
    ·exact⟨_,1,by rw[run,Js c1,Jt c2]⟩
    ·by_cases c3:16≤d
     ·exact⟨_,1,by rw[run,Js c1,Js c2,Jt c3]⟩
     ·obtain⟨x,n,hx⟩:=ls (.read (d+1) (aI p) (aJ p)) (eY c1)
      exact⟨_,n+1,by rw[run,Js c1,Js c2,Js c3,hx];rfl⟩
  case read d s p=>
   by_cases c1:s=rIf
   ·obtain⟨x,n,hx⟩:=lt (.branches d [] p) (Jb _) (by decide:(7:Nat)<10)
    exact⟨x,n+1,by rw[run,Jt c1,hx]⟩
   ·by_cases c2:s=dX
    ·obtain⟨x,n,hx⟩:=lt (.loop d 7 p) (Jb _) (by decide:(9:Nat)<10)
     exact⟨x,n+1,by rw[run,Js c1,Jt c2,hx]⟩
    ·by_cases c3:s=cZ
     ·obtain⟨x,n,hx⟩:=lt (.loop d 8 p) (Jb _) (by decide:(9:Nat)<10)
      exact⟨x,n+1,by rw[run,Js c1,Js c2,Jt c3,hx]⟩
     ·by_cases c4:s=fw
      ·obtain⟨x,n,hx⟩:=lt (.each d p) (Jb _) (by decide:(9:Nat)<10)
       exact⟨x,n+1,by rw[run,Js c1,Js c2,Js c3,Jt c4,hx]⟩
      ·obtain⟨x,n,hx⟩:=lt (.group d p) (Jb _) (by decide:(7:Nat)<10)
       exact⟨x,n+1,by rw[run,Js c1,Js c2,Js c3,Js c4,hx]⟩
  case branches d acc p=>
   obtain⟨x,n,hx⟩:=lt (.block d p) (Jb _) (by decide:(6:Nat)<7)
   have h1:(ay cu x.p).len≤p.len:=lt9 (bZ _ _) (eF _ _ _ hx)
   obtain⟨y,k,hy⟩:=lt (.block d (ay cu x.p)) h1 (by decide:(6:Nat)<7)
   have h2:y.p.len≤p.len:=lt9 (eF _ _ _ hy) h1
   by_cases c1:aI y.p=eB
   ·obtain⟨z,i,hz⟩:=ls (.branches d (acc++x.ns++y.ns) (aJ y.p)) (Jv (eY (by rw[c1];decide)) h2)
    refine⟨z,max (max n k) i+1,?_⟩
    rw[run,aM.le hx (by omega)]
    show Option.bind (run _ _) _=_
    rw[aM.le hy (by omega)]
    show(if _ then _ else _)=_
    rw[Jt c1,aM.le hz (by omega)]
   ·by_cases c2:aI y.p=dF
    ·obtain⟨z,i,hz⟩:=ls (.block d (aJ y.p)) (Jv (eY (by rw[c2];decide)) h2)
     refine⟨⟨[ndK 6 (acc++x.ns++y.ns++z.ns)],false,ay rFi z.p⟩,max (max n k) i+1,?_⟩
     rw[run,aM.le hx (by omega)]
     show Option.bind (run _ _) _=_
     rw[aM.le hy (by omega)]
     show(if _ then _ else(if _ then _ else _))=_
     rw[Js c1,Jt c2,aM.le hz (by omega)]
     rfl
    ·refine⟨⟨[ndK 6 (acc++x.ns++y.ns)],false,ay rFi y.p⟩,max n k+1,?_⟩
     rw[run,aM.le hx (by omega)]
     show Option.bind (run _ _) _=_
     rw[aM.le hy (by omega)]
     show(if _ then _ else(if _ then _ else _))=_
     rw[Js c1,Js c2]
  case loop d k p=>
   obtain⟨x,n,hx⟩:=lt (.block d p) (Jb _) (by decide:(6:Nat)<9)
   have h1:=eF _ _ _ hx
   obtain⟨y,i,hy⟩:=lt (.body d x.p) h1 (by decide:(8:Nat)<9)
   refine⟨⟨[ndK k (x.ns++y.ns)],false,y.p⟩,max n i+1,?_⟩
   rw[run,aM.le hx (Nat.le_max_left n i)]
   show Option.map _ (run _ _)=_
   rw[aM.le hy (Nat.le_max_right n i)]
   rfl
  case body d p=>
   obtain⟨x,n,hx⟩:=lt (.block d (ay rDo p)) (bZ _ p) (by decide:(6:Nat)<8)
   exact⟨_,n+1,by rw[run,hx];rfl⟩
  case each d p=>
   obtain⟨x,n,hx⟩:=lt (.body d (bL p).2.2) (qS p) (by decide:(8:Nat)<9)
   exact⟨_,n+1,by rw[run,hx];rfl⟩
  case group d p=>
   obtain⟨x,n,hx⟩:=lt (.block d p) (Jb _) (by decide:(6:Nat)<7)
   exact⟨_,n+1,by rw[run,hx];rfl⟩
theorem DR (j:Job):∃x,aM j x:=vQ (j.size+1) j (Nat.lt_succ_self _)
set_option maxRecDepth 100000
attribute [local go_sem] aA
def NEl (T:TT) (w:World) (g d:Nat) (nd:Nd) (p1:Ps) (e:Ending) (w':World):Prop:=
 ∃v,e= .returned v∧NAt w' (fun b=>w.heap.size≤b) v nd∧RP T w' g d p1∧Kept (fun b=>b=g) w w'
theorem fN {T:TT} {w w':World} {g d:Nat} {nd:Nd} {p1:Ps} {x:Rd9} {e:Ending} (h1:x.ns=[nd]) (h2:x.p=p1) (h:eR T w g d x e w'):NEl T w g d nd p1 e w':=by
 obtain⟨v,n',hns,rfl,hv,hr,hk⟩:=h
 rw[h1] at hns
 cases hns
 exact⟨v,rfl,hv,h2▸hr,hk⟩
theorem Dk {α:Type} {C:α×Value→List Value} {w:World} {bb size:Nat} {e:TypeId} {x:α} {u:Value} (h:w.heap[bb]? =some (.cells (C (x,u)).toArray e (0,0))) (hn:(C (x,u)).length=size):w.ownsRow 0 e size (.slice (some ⟨bb,0,none⟩) 1 1) 1 (C (x,u)):=by
 refine⟨by omega,.inr ⟨bb,1,(C (x,u)).toArray,rfl,Ju _,h,Jb _,by unfold maxLen;omega,by simpa using hn,?_⟩⟩
 rw[show 1*size=(C (x,u)).length by omega]
 simp
theorem nT {w:World} {F:Nat→Prop} {u:Value} {x:Nd} (h:NAt w F u x):∀y∈NC (x,u),y.oneCell'=true:=by
 obtain⟨aa,an,ac,wa,wn,wc,ra,rn,rc,ka,kn,kc,rfl,_⟩:=h.opens
 intro y hy
 have hy':y∈[Value.int .i64 x.kind,.bool x.neg,.string (BA x.name),.slice aa an ac,.slice wa wn wc,.slice ra rn rc,.slice ka kn kc]:=hy
 simp only[Jl,List.not_mem_nil,or_false] at hy'
 rcases hy' with rfl|rfl|rfl|rfl|rfl|rfl|rfl<;>rfl
theorem NB.kid (w : World) (lo b bb : Nat) (k : Int) (nd : Nd) (u : Value) (hb : NBx w b #[.int .i64 k, .bool false, .string (BA []), .slice none 0 0, .slice none 0 0, .slice none 0 0, .slice (some ⟨bb, 0, none⟩) 1 1]) (hlo : lo ≤ b) (hbb : lo ≤ bb) (hne : bb ≠ b)
    (hc : w.heap[bb]? = some (.cells (NC (nd, u)).toArray 27 (0, 0))) (hu : NAt w (fun i => lo ≤ i ∧ i < w.heap.size ∧ i ≠ b ∧ i ≠ bb) u nd) :
    NB w lo b (fun i => lo ≤ i ∧ i < w.heap.size ∧ i ≠ b ∧ i ≠ bb) k false [] (.slice none 0 0) (.slice none 0 0) (.slice none 0 0) (.slice (some ⟨bb, 0, none⟩) 1 1) [] [] [] [nd] :=
  ⟨hb, gp.nil _ _, gp.nil _ _, gp.nil _ _, ⟨[(nd, u)], rfl, by simpa using Dk (C := NC) hc hu.vc, fun x hx => by rw [Jk.1 hx]; exact hu⟩,
   fun i hi => ⟨hi.1, hi.2.1, hi.2.2.1, dk, dk, dk, fun e => hi.2.2.2 (gI e)⟩, fun _ h => (dk h).elim, fun _ h => (dk h).elim, fun _ h => (dk h).elim, fun i hi => by rw [gI hi]; exact ⟨hbb, hne⟩, hlo⟩
theorem Cd (n:Nat) (HB:Hid (CJ 107 eR .block n)) (HD:Hid (CJ 109 eR .body n)):CJ 100 eG (fun d p=>.loop d 7 p) (n+1):=by
 intro T w g d p x hx hp hE hgn ht
 change run (n+1) (.loop d 7 p)=some x at hx
 rw[run] at hx
 obtain⟨y,hy,hX⟩:=Ji.1 hx
 obtain⟨y2,hy2,hX⟩:=Jh.1 hX
 obtain⟨nd,hn1⟩:=(cJ _ _ _ hy).1 trivial
 obtain⟨nd2,hn2⟩:=(cJ _ _ _ hy2).1 trivial
 have HXN:Hid (x.ns=[ndK 7 [nd,nd2]]):=jd (by rw[←hX,hn1,hn2];rfl)
 obtain⟨p1,hp1⟩:∃p1,y.p=p1:=⟨_,rfl⟩
 obtain⟨p2,hp2⟩:∃p2,y2.p=p2:=⟨_,rfl⟩
 have HXP:Hid (x.p=p2):=jd (by rw[←hX,←hp2])
 rw[hp1] at hy2
 have HY:=jd hy;have HN1:=jd hn1;have HP1:=jd hp1;have HY2:=jd hy2;have HN2:=jd hn2;have HP2:=jd hp2
 obtain⟨W0,hW0⟩:∃W0,w.alloc (.cells zN 27)=W0:=⟨_,rfl⟩
 have hs0:W0.heap.size=w.heap.size+1:=by rw[←hW0,World.size_alloc]
 have KA:Hid (Kept (fun _=>False) w W0):=jd (by rw[←hW0];exact(Ja _ w).alloc _)
 have PA:Hid (NBx W0 w.heap.size zN):=jd (by rw[←hW0];exact heap_alloc w _)
 have HW0:=jd hW0
 have hgl:=hp.lt
 have HE:=jd hE;have HGN:=jd hgn;have HTB:=jd ht
 have HP0:=jd (hp.au KA.o);have HE0:=jd (hE.au KA.o)
 have HC:=jd ((HB.o T W0 g d p y hy HP0.o HE0.o hgn ht).mono (fun e w' h=>fN hn1 hp1 h))
 have hBO:=HD.o
 have HBO:=jd (fun(wx:World) (hr:RP T wx g d p1) (he:bW wx)=>(hBO T wx g d p1 y2 hy2 hr he hgn ht).mono (fun e w' h=>fN hn2 hp2 h))
 have HS0:=jd hs0
 clear hx hp hE hgn ht hW0 hy hX hn1 hn2 hp1 hp2 hy2 hs0 hBO
 go_enter Tryz.func100,Tryz.ntmps100
 go_wp2_with fail
 rw[HW0.o]
 refine HC.o.mono ?_
 rintro e w2 ⟨v,rfl,hv,r2,k2⟩
 have R2:=jd r2;have K2:=jd k2
 have hz2:=k2.size
 obtain⟨vk,vb,vs,aa,an,ac,wa,wn,wc,ra,rn,rc,ka,kn,kc,rfl⟩:=hv.agg
 have HV:=jd hv
 have HPR2:Hid (NBx w2 w.heap.size zN):=jd (K2.o.heap PA.o (fun e=>by have e':w.heap.size=g:=e;omega))
 clear hv r2 k2
 go_wp2_with fail
 obtain⟨W3,hW3⟩:∃W3,w2.alloc (.cells #[.int .i64 vk,.bool vb,.string (BA vs),.slice aa an ac,.slice wa wn wc,.slice ra rn rc,.slice ka kn kc] 27)=W3:=⟨_,rfl⟩
 have hs3:W3.heap.size=w2.heap.size+1:=by rw[←hW3,World.size_alloc]
 have K3:Hid (Kept (fun _=>False) w2 W3):=jd (by rw[←hW3];exact(Ja _ w2).alloc _)
 have L3:Hid (W3.heap[w2.heap.size]? =some (.cells #[.int .i64 vk,.bool vb,.string (BA vs),.slice aa an ac,.slice wa wn wc,.slice ra rn rc,.slice ka kn kc] 27 (0,0))):=jd (by rw[←hW3];exact heap_alloc w2 _)
 rw[hW3]
 obtain⟨wr,hwr⟩:∃wr,W3.alloc (.cells #[.int .i64 7,.bool false,.string ⟨#[]⟩,.slice none 0 0,.slice none 0 0,.slice none 0 0,.slice (some ⟨w2.heap.size,0,none⟩) 1 1] 27)=wr:=⟨_,rfl⟩
 have hsr:wr.heap.size=W3.heap.size+1:=by rw[←hwr,World.size_alloc]
 have Kr:Hid (Kept (fun _=>False) W3 wr):=jd (by rw[←hwr];exact(Ja _ W3).alloc _)
 have Lr:Hid (NBx wr (w2.heap.size+1) #[.int .i64 7,.bool false,.string (BA []),.slice none 0 0,.slice none 0 0,.slice none 0 0,.slice (some ⟨w2.heap.size,0,none⟩) 1 1]):=jd (by rw[←hs3,←hwr];exact heap_alloc W3 _)
 have K2r:Hid (Kept (fun _=>False) w2 wr):=jd (K3.o.trans Kr.o (fun _ _ h=>h))
 have hlo:w.heap.size+1≤w2.heap.size:=by have:=HS0.o;omega
 have HNB:Hid (NB wr (w.heap.size+1) (w2.heap.size+1) (fun i=>w.heap.size+1≤i∧i<wr.heap.size∧i≠(w2.heap.size+1)∧i≠w2.heap.size) 7 false [] (.slice none 0 0) (.slice none 0 0) (.slice none 0 0) (.slice (some ⟨w2.heap.size,0,none⟩) 1 1) [] [] [] [nd]):=
  jd (NB.kid wr (w.heap.size+1) (w2.heap.size+1) w2.heap.size 7 nd _ Lr.o (by omega) hlo (by omega) (show _=some (.cells (NC (nd,.agg #[.int .i64 vk,.bool vb,.string (BA vs),.slice aa an ac,.slice wa wn wc,.slice ra rn rc,.slice ka kn kc])).toArray 27 (0,0)) from Kr.o.heap L3.o (fun h=>h)) ((HV.o.mono (G:=fun i=>w.heap.size+1≤i∧i<w2.heap.size) (fun i h1 h2=>⟨by have h2':W0.heap.size≤i:=h2;have:=HS0.o;omega,h1⟩)|>.kept K2r.o (fun _ _ h=>h)).mono (fun i _ h=>⟨h.1,by omega,by omega,by omega⟩)))
 have HRP:Hid (RP T wr g d p1):=jd (R2.o.au K2r.o)
 have HEr:Hid (bW wr):=jd ((HE0.o.dz K2.o HGN.o).au K2r.o)
 have HGL:Hid (g<w.heap.size+1):=jd (by omega)
 have HML:Hid (([nd]:List Nd).length≤5000):=jd (by simp)
 have HWP:=jd (fun(wx:World) (hk:Kept (fun _=>False) wr wx)=>HBO.o wx (HRP.o.au hk) (HEr.o.au hk))
 have HPRr:Hid (NBx wr w.heap.size zN):=jd (K2r.o.heap HPR2.o (fun h=>h))
 have HK0:Hid (Kept (fun i=>i=g) w wr):=jd (((KA.o.mono (S':=fun i=>i=g) (fun _ _ h=>h.elim)).trans K2.o (fun _ _ h=>h)).trans K2r.o (fun _ _ h=>h.elim))
 rw[hwr]
 obtain⟨vk9,hvk9⟩:∃v,Value.slice (some ⟨w2.heap.size,0,none⟩) 1 1=v:=⟨_,rfl⟩
 rw[hvk9] at HNB
 clear hW3 hwr hvk9 Lr
 have hnra:=HNB.o
 obtain⟨raa,rcpa,hsla,hrla⟩:=hnra.rk.slice
 obtain⟨ma,hma⟩:∃m,([nd]).length=m:=⟨_,rfl⟩
 rw[hma] at hsla hrla
 subst hsla
 have hloba:=HNB.o.lob
 have hgla:=HGL.o
 have hbga:(w2.heap.size+1)≠g:=by omega
 obtain⟨psa,hpsa,howna,hela⟩:=hnra.rk
 have HMa:=jd hma
 rw[hma] at howna
 have HOWNa:=jd howna;have HPSa:=jd hpsa;have HELa:=jd hela
 have hmla:ma≤5000:=by have h9:=HML.o;omega
 have hSSa:∀i,wr.heap.size≤i→¬duS (fun i=>i=g) (blk (.slice raa ma rcpa)) i:=fun i hi e=>by
  rcases e with e|e
  ·have e':i=g:=e;have:=HNB.o.lt;have:=HRP.o.lt;omega
  ·have:=df HOWNa.o i e;omega
 have hb1a:¬((w2.heap.size+1)=g):=hbga
 have hPra:∀(v:Value) (wx wy:World),Kept (fun i=>i=g) wx wy→(∃F',NB wx (w.heap.size+1) (w2.heap.size+1) F' 7 false [] (.slice none 0 0) (.slice none 0 0) (.slice none 0 0) v [] [] [] ([nd]++[nd2]))→∃F',NB wy (w.heap.size+1) (w2.heap.size+1) F' 7 false [] (.slice none 0 0) (.slice none 0 0) (.slice none 0 0) v [] [] [] ([nd]++[nd2]):=fun v wx wy hk ⟨F',h⟩=>⟨F',h.kept hk (fun i hi e=>by have e':i=g:=e;have:=HGL.o;omega)⟩
 clear hnra hpsa howna hela hma
 refine cS 7 3 5 (fun i=>i=g) (blk (.slice raa ma rcpa)) (RdI wr T g d p2 (w.heap.size+1) (w2.heap.size+1) #[.int .i64 7,.bool false,.string (BA []),(.slice none 0 0),(.slice none 0 0),(.slice none 0 0),(.slice raa ma rcpa)]) (jV (fun i=>i=g) (w2.heap.size+1) 6 hb1a (fun v wq=>∃F',NB wq (w.heap.size+1) (w2.heap.size+1) F' 7 false [] (.slice none 0 0) (.slice none 0 0) (.slice none 0 0) v [] [] [] ([nd]++[nd2])) hPra) [rV (.pointer (some ⟨(w2.heap.size+1),6,none⟩)),rV (.slice raa ma rcpa),rV (.pointer (some ⟨g,0,none⟩)),rEl eW (duS (fun i=>i=g) (blk (.slice raa ma rcpa))) (fun i=>wr.heap.size≤i) hSSa nd2,tS eW NC 27 (duS (fun i=>i=g) (blk (.slice raa ma rcpa))) (fun i=>wr.heap.size≤i) hSSa nd2,rV (.bool true),rV (.pointer (some ⟨(w2.heap.size+1),6,none⟩))] (by kernel_rfl) (by kernel_rfl) ?_ ?_ ?_
 case refine_1=>exact RdI.start HNB.o.box
 case refine_2=>
  iterate 3
   refine dY (by decide) (by kernel_rfl) (fun s hs1 a' w' hI hag hf K hK=>?_) ?_
   ·obtain⟨⟨_,h0,rfl⟩,-⟩:=hf
    have s0:=hag.same 0 (by decide)
    have s3:=hag.same 3 (by decide)
    clear hag
    obtain⟨⟨y0,y1,y2,y3,y4,y5,y6⟩,-⟩:=NBx.cells hI.box
    go_wp2_with fail
    exact hK _ _ hI (Ja _ _) rfl
  refine jK (by decide) (fun a' w' hI hag hf K hK=>?_) ?_
  ·obtain⟨⟨_,h2,rfl⟩,-⟩:ah _ _ a' w' [2]:=hf
   clear hag
   have HI:=jd hI
   have hk0:=hI.k0 rfl
   clear hI
   go_wp2_with fail
   refine(HWP.o _ hk0).mono ?_
   rintro x w4 ⟨v,rfl,hw4,hr4,hk4⟩
   go_wp2_with fail
   exact hK _ _ (HI.o.call hk4 hr4 hbga) hk4 (hw4.mono (fun i _ hi=>lt9 hk0.size hi))
  refine dY (by decide) (by kernel_rfl) (fun s hs1 a' w' hI hag hf K hK=>?_) ?_
  ·obtain⟨⟨v3,h3,e3⟩,-⟩:ah _ _ a' w' [3]:=hf
   clear hag
   have hw7:NAt w' (fun i=>wr.heap.size≤i) v3 nd2:=e3
   obtain⟨uk,ub,us,uaa,uan,uac,uwa,uwn,uwc,ura,urn,urc,uka,ukn,ukc,rfl⟩:=hw7.agg
   have hz:=hI.k.size
   go_wp2_with fail
   exact hK _ _ (hI.au ((Ja _ _).alloc _)) ((Ja _ _).alloc _) ⟨_,_,rfl,hz,heap_alloc _ _,hw7.kept ((Ja _ _).alloc _) (fun _ _ h=>h)⟩
  refine jS (fun a' w' hI hag hf K hK=>?_) ?_
  ·obtain⟨⟨_,h1,rfl⟩,⟨v4,h4,e4⟩,-⟩:ah _ _ a' w' [1,4,3]:=hf
   clear hag
   obtain⟨bb,u,rfl,hbb,hbh,hu⟩:∃bb u,v4= .slice (some ⟨bb,0,none⟩) 1 1∧wr.heap.size≤bb∧w'.heap[bb]? =some (.cells (NC (nd2,u)).toArray 27 (0,0))∧NAt w' (fun i=>wr.heap.size≤i) u nd2:=e4
   have hk1:=hI.k1 (Jb _)
   refine bg rfl _ _ _ rfl EKs (.slice raa ma rcpa) ma (psa.flatMap NC) (by simp[Act.eval,h1]) (bH hk1 HOWNa.o (fun i hi e=>absurd e ?_)) _ 1 (NC (nd2,u)) (by simp[Act.eval,h4]) (fs (C:=NC) hbh hu.vc) (fun y hy=>?_) (by unfold maxLen;omega) (by omega) (fun ad9 cap9 w9 ho9 hg9 hf9=>?_)
   ·have h9:=(HNB.o.bk i hi).1;have:=HGL.o;intro e';have e2:i=g:=e';omega
   ·exact nT hu y hy
   have hk9:Kept (blk (.slice raa ma rcpa)) w' w9:=(Ja _ _).grown hg9 (fun i e _=>e)
   have ho9':w9.ownsRow 0 27 7 (.slice ad9 (ma+1) cap9) (([nd]).length+1) (psa.flatMap NC++NC (nd2,u)):=by rw[HMa.o];exact ho9
   have hpush:=(HNB.o.mL (S:=fun i=>i=g) HPSa.o HELa.o hk1 (fun i hi e=>by have e':i=g:=e;have:=HGL.o;omega) (x:=nd2) (u:=u) (G:=fun i=>wr.heap.size≤i) hu (fun i hi=>hi) ho9' hg9 hf9).1
   exact hK _ _ (hI.app hk9 (fun i hi=>⟨(HNB.o.bk i hi).1,(HNB.o.bk i hi).2⟩) HGL.o (fun i hi=>Nat.lt_trans (HTB.o i hi) HGL.o)) hk9 ⟨_,hpush⟩
  refine eZ (by decide) (fun s a' w' hI hag hf K hK=>?_) ?_
  ·have s3:=hag.same 3 (by decide)
   clear hag
   go_wp2_with fail
   exact hK _ _ hI (Ja _ _) rfl
  exact trivial
 case refine_3=>
  intro vs wz hI hvs
  have q3:=hvs 3 _ _ rfl rfl
  have q4:=hvs 4 _ _ rfl rfl
  have q5:(jV (fun i=>i=g) (w2.heap.size+1) 6 hb1a (fun v wq=>∃F',NB wq (w.heap.size+1) (w2.heap.size+1) F' 7 false [] (.slice none 0 0) (.slice none 0 0) (.slice none 0 0) v [] [] [] ([nd]++[nd2])) hPra).1 (vs 5) wz:=hvs 5 _ _ rfl rfl
  simp only[pzz,aW,Act.put,Nat.reduceAdd,dpv (hvs 0 _ _ rfl rfl) (by decide) rfl,dpv (hvs 1 _ _ rfl rfl) (by decide) rfl,dpv (hvs 2 _ _ rfl rfl) (by decide) rfl,dpv (hvs 6 _ _ rfl rfl) (by decide) rfl]
  clear hvs
  generalize vs 3=x3 at*
  generalize vs 4=x4 at*
  generalize vs 5=x5 at*
  have HIa:=jd hI
  obtain⟨Fa,hnb⟩:∃F',NB (wz.setCell ⟨(w2.heap.size+1),6,none⟩ x5) (w.heap.size+1) (w2.heap.size+1) F' 7 false [] (.slice none 0 0) (.slice none 0 0) (.slice none 0 0) x5 [] [] [] ([nd]++[nd2]):=q5
  obtain⟨za,zn,zc,rfl⟩:∃a n c,x5= .slice a n c:=by obtain⟨a,c,e,_⟩:=hnb.rk.slice;exact⟨a,_,c,e⟩
  obtain⟨⟨y0,y1,y2,y3,y4,y5,y6⟩,z0,z1,z2,z3,z4,z5,z6⟩:=NBx.cells hI.box
  have hblta:(w2.heap.size+1)<wz.heap.size:=av hI.box
  have HNBa:=jd hnb
  have HRPa:Hid (RP T (wz.setCell ⟨(w2.heap.size+1),6,none⟩ (.slice za zn zc)) g d p2):=jd (by
   obtain⟨a,h1,h2⟩:=HIa.o.p (by decide)
   have kS:Kept (fun i=>i=(w2.heap.size+1)) wz (wz.setCell ⟨(w2.heap.size+1),6,none⟩ (.slice za zn zc)):=(Ja (fun i=>i=(w2.heap.size+1)) wz).set (w2.heap.size+1) 6 (fun _=>rfl) _
   exact⟨a,h1,h2.kept kS (fun e=>hbga e.symm) (fun i hi e=>by have e':i=(w2.heap.size+1):=e;have:=HTB.o i hi;omega)⟩)
  have HKWa:Hid (Kept (fun i=>i=g∨(w.heap.size+1)≤i) wr (wz.setCell ⟨(w2.heap.size+1),6,none⟩ (.slice za zn zc))):=jd (HIa.o.k.set (w2.heap.size+1) 6 (fun _=>.inr hloba) _)
  clear hI q3 q4 hnb
  have PRz:Hid (NBx wz w.heap.size zN):=jd (HIa.o.k.heap HPRr.o (fun e=>by rcases e with e|e<;>first|omega|(have e':w.heap.size=g:=e;omega)))
  obtain⟨⟨c0,c1,c2,c3,c4,c5,c6⟩,f0,f1,f2,f3,f4,f5,f6⟩:=NBx.cells PRz.o
  have hltN:w.heap.size<wz.heap.size:=av PRz.o
  go_wp2_with fail
  obtain⟨wN,hwN⟩:∃wN,wz.setCell ⟨w2.heap.size+1,6,none⟩ (.slice za zn zc)=wN:=⟨_,rfl⟩
  rw[hwN] at HNBa HRPa HKWa⊢
  have PRN:Hid (NBx wN w.heap.size zN):=jd (HKWa.o.heap HPRr.o (fun e=>by rcases e with e|e<;>first|omega|(have e':w.heap.size=g:=e;omega)))
  have HKF:Hid (Kept (fun i=>i=g) w wN):=jd (HK0.o.trans HKWa.o (fun i hi e=>by rcases e with e|e<;>first|exact e|(exfalso;omega)))
  clear y0 y1 y2 y3 y4 y5 y6 z0 z1 z2 z3 z4 z5 z6 hwN
  have K7:Hid (Kept (fun i=>i=w.heap.size) wN (st7 wN w.heap.size (.int .i64 7) (.bool false) (.string (BA [])) (.slice none 0 0) (.slice none 0 0) (.slice none 0 0) (.slice za zn zc))):=jd (bu (Ja (fun i=>i=w.heap.size) wN) (fun _=>rfl) _ _ _ _ _ _ _)
  have B7:=jd (bS PRN.o (.int .i64 7) (.bool false) (.string (BA [])) (.slice none 0 0) (.slice none 0 0) (.slice none 0 0) (.slice za zn zc))
  refine bodyPost_ret (v:= .agg #[.int .i64 7,.bool false,.string (BA []),.slice none 0 0,.slice none 0 0,.slice none 0 0,.slice za zn zc]) ?_ rfl ?_
  ·exact results_cell_row rfl _ _ w.heap.size 27 _ (0,0) _ (by rfl) B7.o Tryz.underlying27 rfl (by kernel_rfl)
  refine hZ ?_ (fun nd h=>by rw[HXN.o] at h;cases h;rfl)
  exact cp HXN.o HNBa.o.at (by rw[HXP.o];exact HRPa.o) HKF.o K7.o hgl HTB.o
