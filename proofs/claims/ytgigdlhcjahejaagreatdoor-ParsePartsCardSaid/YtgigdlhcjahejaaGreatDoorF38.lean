import Derived.Test.YtgigdlhcjahejaaGreatDoorF37
import Derived.Test.YtgigdlhcjahejaaGreatDoorF11
set_option linter.all false
namespace Go.Proofs.YtgigdlhcjahejaaGreatDoor
open Go Go.RowKit Go.Lw
def ca (l:List (LB×LP)):Nat:=(l.map fun a=>a.1.length+(aC a.2).length+2).sum
def cw (l:List LP):Nat:=(l.map fun w=>(aC w).length+1).sum
def cr (l:List (Int×LP)):Nat:=(l.map fun r=>(aC r.2).length+4).sum
theorem FT (a b:List (LB×LP)):ca (a++b)=ca a+ca b:=by unfold ca;rw[List.map_append,List.sum_append]
theorem DJ (a b:List LP):cw (a++b)=cw a+cw b:=by unfold cw;rw[List.map_append,List.sum_append]
theorem tW (a b:List (Int×LP)):cr (a++b)=cr a+cr b:=by unfold cr;rw[List.map_append,List.sum_append]
theorem FI (a:LB×LP):ca [a]=a.1.length+(aC a.2).length+2:=by unfold ca;simp
theorem Dc (a:LP):cw [a]=(aC a).length+1:=by unfold cw;simp
theorem yX (a:Int×LP):cr [a]=(aC a.2).length+4:=by unfold cr;simp
def tb:Nd→Nat
 |.mk k b s a w r l=>100+s.length+ca a+cw w+cr r+tbs l
where tbs:List Nd→Nat
 |[]=>0
 |n::l=>tb n+tbs l
def tg (l:List Nd):Nat:=(l.map tb).sum
theorem D0:∀l:List Nd,tb.tbs l=tg l
 |[]=>by rw[tb.tbs];rfl
 |n::l=>by rw[tb.tbs,D0 l];unfold tg;simp
theorem nX (k:Int) (b:Bool) (s:LB) (a:List (LB×LP)) (w:List LP) (r:List (Int×LP)) (l:List Nd):tb (.mk k b s a w r l)=100+s.length+ca a+cw w+cr r+tg l:=by rw[tb,D0]
theorem ox (k:Int) (b:Bool) (l:List Nd):tb (.mk k b [] [] [] [] l)=100+tg l:=by rw[nX];rfl
theorem mF (a b:List Nd):tg (a++b)=tg a+tg b:=by unfold tg;rw[List.map_append,List.sum_append]
theorem fY (n:Nd):tg [n]=tb n:=by unfold tg;simp
theorem zs (k:Int) (l:List Nd):tg (cR k l)≤tg l+100:=by
 unfold cR
 split
 ·omega
 ·rw[fY];unfold ndK;rw[ox];omega
theorem Ag {p:Ps} (h:SmP p) (hk:ag p=1):(aC (aP p).1).length+27000*(aP p).2.len+2424≤27000*p.len:=by
 have h1:=h.word.2
 have h2:=fb hk
 omega
theorem xu {p p':Ps} {x:Int×LP} (h:SmP p) (hr:bf p=some (x,p')):(aC x.2).length+27000*p'.len+2424≤27000*p.len:=by
 have h1:=(h.mM hr).2
 have h2:p'.len<p.len:=dK hr
 omega
theorem pX:∀(n:Nat) (p:Ps),SmP p→cr (a8 n p).1+27000*(a8 n p).2.len≤27000*p.len
 |0,p,h=>by show 0+_≤_;rw[Nat.zero_add];exact Jb _
 |n+1,p,h=>by
  unfold a8
  split
  ·show 0+_≤_;rw[Nat.zero_add];exact Jb _
  ·rename_i x p' hr
   have h1:=xu h hr
   have h2:=pX n p' (h.mM hr).1
   have e:cr (x::(a8 n p').1)=(aC x.2).length+4+cr (a8 n p').1:=by rw[←List.singleton_append,tW,yX]
   show cr (x::(a8 n p').1)+27000*(a8 n p').2.len≤_
   omega
theorem sP:∀(n:Nat) (p:Ps),SmP p→cw (bs n p).1+27000*(bs n p).2.len≤27000*p.len
 |0,p,h=>by show 0+_≤_;rw[Nat.zero_add];exact Jb _
 |n+1,p,h=>by
  unfold bs
  split
  ·rename_i hk
   have h1:=Ag h hk
   have h2:=sP n _ h.word.1
   have e:cw ((aP p).1::(bs n (aP p).2).1)=(aC (aP p).1).length+1+cw (bs n (aP p).2).1:=by rw[←List.singleton_append,DJ,Dc]
   show cw ((aP p).1::(bs n (aP p).2).1)+27000*(bs n (aP p).2).2.len≤_
   omega
  ·show 0+_≤_;rw[Nat.zero_add];exact Jb _
def cm (m:Sm):Nat:=ca m.al+cw m.ws+cr m.rs
theorem yR {m:Sm} {p:Ps} {x:Sm×Ps} (h:aR m p=some x) (hp:SmP p):cm x.1+27000*x.2.len≤cm m+27000*p.len:=by
 have hl:=ej h
 unfold aR at h
 split at h
 ·rename_i y p' e
  cases h
  have h1:=xu hp e
  show ca m.al+cw m.ws+cr (m.rs++[y])+27000*p'.len≤ca m.al+cw m.ws+cr m.rs+_
  rw[tW,yX]
  omega
 ·split at h
  ·cases h
  ·rename_i t r e
   have htx:t.text.length≤2048:=hp.2 t (by rw[e];exact Jz)
   split at h
   ·rename_i hk
    split at h
    ·cases h
     have hl':r.length<p.len:=hl
     have ha:((bE t.text).getD ([],[])).1.length+(aC ((bE t.text).getD ([],[])).2).length≤26624:=by
      cases ea:bE t.text with
      |none=>show 0+(aC []).length≤_;rw[eE];decide
      |some a=>
       have:=oO ea
       show a.1.length+(aC a.2).length≤_
       omega
     show ca (m.al++[(bE t.text).getD ([],[])])+cw m.ws+cr m.rs+27000*r.length≤ca m.al+cw m.ws+cr m.rs+_
     rw[FT,FI]
     omega
    ·split at h
     ·cases h
      show ca m.al+cw m.ws+cr m.rs+27000*0≤ca m.al+cw m.ws+cr m.rs+_
      omega
     ·cases h
      have h1:=Ag hp (by unfold ag;rw[e];exact hk)
      show ca m.al+cw (m.ws++[(aP p).1])+cr m.rs+27000*(aP p).2.len≤ca m.al+cw m.ws+cr m.rs+_
      rw[DJ,Dc]
      omega
   ·cases h
theorem qD:∀(n:Nat) (m:Sm) (p:Ps),wK m→SmP p→cm (aG n m p).1+27000*(aG n m p).2.len≤cm m+27000*p.len
 |0,m,p,_,h=>Jb _
 |n+1,m,p,hm,h=>by
  unfold aG
  split
  ·exact Jb _
  ·rename_i x hx
   obtain⟨a1,a2,a3⟩:=qR hx hm h
   have h1:=yR hx h
   have h2:=qD n x.1 x.2 a1 a2
   omega
theorem D3 (rs:List (Int×LP)) (n:Nd):tb (fh rs n)=tb n+cr rs:=by
 obtain⟨k,b,s,a,w,r,l⟩:=n
 rw[qe,nX,nX,tW];omega
theorem fK (p:Ps):(aJ p).r.Sublist p.r:=List.tail_sublist _
theorem jr (p:Ps):(aD p).r.Sublist p.r:=List.dropWhile_sublist _
theorem wO (p:Ps):(aL p).2.r.Sublist p.r:=by
 unfold aL
 split
 ·exact fK p
 ·exact List.Sublist.refl _
theorem iB (s:LB) (p:Ps):(ay s p).r.Sublist p.r:=by
 unfold ay
 split
 ·exact fK p
 ·exact List.nil_sublist _
theorem sy {p p':Ps} {x:Int×LP} (hr:bf p=some (x,p')):p'.r.Sublist p.r:=by
 unfold bf at hr
 split at hr
 ·cases hr
 ·cases hr
  exact(jC _).1.trans (fK p)
theorem oF:∀(n:Nat) (p:Ps),(a8 n p).2.r.Sublist p.r
 |0,p=>List.Sublist.refl _
 |n+1,p=>by
  unfold a8
  split
  ·exact List.Sublist.refl _
  ·rename_i x p' hr
   exact(oF n p').trans (sy hr)
theorem xM (p:Ps):(aY p).2.r.Sublist p.r:=oF _ _
theorem wH {m:Sm} {p:Ps} {x:Sm×Ps} (h:aR m p=some x):x.2.r.Sublist p.r:=by
 unfold aR at h
 split at h
 ·rename_i y p' e
  cases h
  exact sy e
 ·split at h
  ·cases h
  ·rename_i t r e
   split at h
   ·split at h
    ·cases h
     show r.Sublist p.r
     rw[e];exact List.sublist_cons_self t r
    ·split at h
     ·cases h;exact List.nil_sublist _
     ·cases h;exact(jC _).1
   ·cases h
theorem oC:∀(n:Nat) (m:Sm) (p:Ps),(aG n m p).2.r.Sublist p.r
 |0,m,p=>List.Sublist.refl _
 |n+1,m,p=>by
  unfold aG
  split
  ·exact List.Sublist.refl _
  ·rename_i x hx
   exact(oC n x.1 x.2).trans (wH hx)
theorem yq (p:Ps):(aS p).2.r.Sublist p.r:=by
 unfold aS
 simp only
 split
 ·exact List.nil_sublist _
 ·exact oC _ _ _
theorem pZ:∀(n:Nat) (p:Ps),(bs n p).2.r.Sublist p.r
 |0,p=>List.Sublist.refl _
 |n+1,p=>by
  unfold bs
  split
  ·exact(pZ n _).trans (jC p).1
  ·exact List.Sublist.refl _
theorem tu (p:Ps):(bD p).2.r.Sublist p.r:=by
 obtain⟨r,e⟩:=p
 unfold bD
 cases r with
 |nil=>exact List.nil_sublist _
 |cons t r=>
  simp only
  split
  ·exact List.sublist_cons_self t r
  ·exact List.nil_sublist _
theorem sW (p:Ps):(dP p).r.Sublist p.r:=by
 unfold dP
 split
 ·exact wO p
 ·exact List.nil_sublist _
theorem uX (p:Ps):(bL p).2.2.r.Sublist p.r:=by
 rw[ev]
 exact(jr _).trans ((sW _).trans ((pZ _ _).trans ((iB _ _).trans ((jr _).trans (tu p)))))
theorem z8:∀(n:Nat) (j:Job) (x:Rd9),run n j=some x→x.p.r.Sublist j.p.r
 |0,_,_,h=>by cases h
 |n+1,j,x,h=>by
  have ih:=z8 n
  cases j<;>unfold run at h
  case block d p=>
   obtain⟨y,hy,rfl⟩:=Jh.1 h
   have h1:=ih _ _ hy
   show(if _ then _ else _:Ps).r.Sublist p.r
   split
   ·exact List.Sublist.trans h1 (jr p)
   ·exact List.nil_sublist _
  case list d p=>
   obtain⟨y,hy,rfl⟩:=Jh.1 h
   have h1:=ih _ _ hy
   exact h1
  case kids d acc p=>
   obtain⟨y,hy,hz⟩:=Ji.1 h
   have h1:(y.p).r.Sublist p.r:=ih _ _ hy
   have h2:((aD (aL y.p).2)).r.Sublist p.r:=List.Sublist.trans (jr _) (List.Sublist.trans (wO _) h1)
   split at hz
   ·split at hz
    ·have h3:=ih _ _ hz
     exact List.Sublist.trans h3 h2
    ·cases hz;exact h2
   ·cases hz;exact h1
  case chain d p=>
   obtain⟨y,hy,hz⟩:=Ji.1 h
   have h1:=ih _ _ hy
   have h2:=ih _ _ hz
   exact List.Sublist.trans h2 h1
  case chainL d l p=>
   split at h
   ·obtain⟨y,hy,hz⟩:=Ji.1 h
    have h1:=ih _ _ hy
    have h2:=ih _ _ hz
    exact List.Sublist.trans h2 (List.Sublist.trans h1 (List.Sublist.trans (jr _) (fK p)))
   ·cases h;exact List.Sublist.refl _
  case pipe d p=>
   obtain⟨y,hy,rfl⟩:=Jh.1 h
   have h1:=ih _ _ hy
   refine List.Sublist.trans h1 ?_
   show(if _ then _ else _:Ps).r.Sublist p.r
   split
   ·exact fK p
   ·exact List.Sublist.refl _
  case pipeL d acc p=>
   obtain⟨y,hy,hz⟩:=Ji.1 h
   have h1:(y.p).r.Sublist p.r:=ih _ _ hy
   split at hz
   ·have h3:=ih _ _ hz
    exact List.Sublist.trans h3 (List.Sublist.trans (jr _) (List.Sublist.trans (fK _) h1))
   ·cases hz;exact h1
  case command d p=>
   split at h
   ·cases h;exact yq p
   ·split at h
    ·cases h;exact List.nil_sublist _
    ·split at h
     ·cases h;exact List.nil_sublist _
     ·obtain⟨y,hy,rfl⟩:=Jh.1 h
      have h1:=ih _ _ hy
      exact List.Sublist.trans (xM _) (List.Sublist.trans h1 (fK p))
  case read d s p=>
   split at h
   ·have h1:=ih _ _ h
    exact h1
   ·split at h
    ·have h1:=ih _ _ h
     exact h1
    ·split at h
     ·have h1:=ih _ _ h
      exact h1
     ·split at h
      ·have h1:=ih _ _ h
       exact h1
      ·have h1:=ih _ _ h
       exact h1
  case branches d acc p=>
   obtain⟨y,hy,h⟩:=Ji.1 h
   obtain⟨z,hz,h⟩:=Ji.1 h
   have h7:=ih _ _ hy
   have h8:=ih _ _ hz
   have h1:(z.p).r.Sublist p.r:=List.Sublist.trans h8 (List.Sublist.trans (iB _ _) h7)
   split at h
   ·have h9:=ih _ _ h
    exact List.Sublist.trans h9 (List.Sublist.trans (fK _) h1)
   ·split at h
    ·obtain⟨u,hu,rfl⟩:=Jh.1 h
     have h9:=ih _ _ hu
     exact List.Sublist.trans (iB _ _) (List.Sublist.trans h9 (List.Sublist.trans (fK _) h1))
    ·cases h;exact List.Sublist.trans (iB _ _) h1
  case loop d k p=>
   obtain⟨y,hy,h⟩:=Ji.1 h
   obtain⟨z,hz,rfl⟩:=Jh.1 h
   have h1:=ih _ _ hy
   have h2:=ih _ _ hz
   exact List.Sublist.trans h2 h1
  case body d p=>
   obtain⟨y,hy,rfl⟩:=Jh.1 h
   have h1:=ih _ _ hy
   exact List.Sublist.trans (iB _ _) (List.Sublist.trans h1 (iB _ _))
  case each d p=>
   obtain⟨y,hy,rfl⟩:=Jh.1 h
   have h1:=ih _ _ hy
   exact List.Sublist.trans h1 (uX p)
  case group d p=>
   obtain⟨y,hy,rfl⟩:=Jh.1 h
   have h1:=ih _ _ hy
   exact List.Sublist.trans (iB _ _) h1
theorem DM:∀(n:Nat) (j:Job) (x:Rd9),run n j=some x→SmP j.p→tg x.ns+27000*x.p.len≤tg j.has+27000*j.p.len+50*j.extra
 |0,_,_,h,_=>by cases h
 |n+1,j,x,h,hp=>by
  have ih:=DM n
  have sm:∀(j:Job) (y:Rd9),run n j=some y→SmP j.p→SmP y.p:=fun j y h1 h2=>h2.sub (z8 n j y h1)
  cases j<;>unfold run at h
  case block d p=>
   obtain⟨y,hy,rfl⟩:=Jh.1 h
   have h1:=ih _ _ hy (SmP.rest hp)
   have h2:(aD p).len≤p.len:=cq p
   have h3:(if y.st then y.p else bm y.p 5).len≤y.p.len:=by
    split
    ·exact Jb _
    ·exact Ju _
   have h1':tg y.ns+27000*y.p.len≤0+27000*(aD p).len+300:=h1
   show tg y.ns+27000*(if y.st then y.p else bm y.p 5).len≤0+27000*p.len+300
   omega
  case list d p=>
   obtain⟨y,hy,rfl⟩:=Jh.1 h
   have h1:tg y.ns+27000*y.p.len≤0+27000*p.len+200:=ih _ _ hy hp
   have h2:=zs 5 y.ns
   show tg (cR 5 y.ns)+27000*y.p.len≤0+27000*p.len+300
   omega
  case kids d acc p=>
   obtain⟨y,hy,hz⟩:=Ji.1 h
   have h1:tg y.ns+27000*y.p.len≤0+27000*p.len+200:=ih _ _ hy hp
   have ha:=mF acc y.ns
   show tg x.ns+27000*x.p.len≤tg acc+27000*p.len+200
   split at hz
   ·rename_i hs
    have h2:(aL y.p).2.len<y.p.len:=lM hs
    have h3:(aD (aL y.p).2).len≤(aL y.p).2.len:=cq _
    split at hz
    ·have h4:tg x.ns+27000*x.p.len≤tg (acc++y.ns)+27000*(aD (aL y.p).2).len+200:=ih _ _ hz (sm _ _ hy hp).stop.rest
     omega
    ·cases hz
     show tg (acc++y.ns)+27000*(aD (aL y.p).2).len≤_
     omega
   ·cases hz
    show tg (acc++y.ns)+27000*y.p.len≤_
    omega
  case chain d p=>
   obtain⟨y,hy,hz⟩:=Ji.1 h
   have h1:tg y.ns+27000*y.p.len≤0+27000*p.len+200:=ih _ _ hy hp
   have h2:tg x.ns+27000*x.p.len≤tg y.ns+27000*y.p.len+0:=ih _ _ hz (sm _ _ hy hp)
   show tg x.ns+27000*x.p.len≤0+27000*p.len+200
   omega
  case chainL d l p=>
   show tg x.ns+27000*x.p.len≤tg l+27000*p.len+0
   split at h
   ·rename_i hk
    obtain⟨y,hy,hz⟩:=Ji.1 h
    have h1:tg y.ns+27000*y.p.len≤0+27000*(aD (aJ p)).len+200:=ih _ _ hy (SmP.rest (SmP.tail hp))
    have h2:tg x.ns+27000*x.p.len≤tg [ndK (if ag p=4 then 3 else 4) (l++y.ns)]+27000*y.p.len+0:=ih _ _ hz (sm _ _ hy (SmP.rest (SmP.tail hp)))
    have h3:(aJ p).len<p.len:=eC (by rcases hk with hk|hk<;>rw[hk]<;>decide)
    have h4:(aD (aJ p)).len≤(aJ p).len:=cq _
    have h5:tg [ndK (if ag p=4 then 3 else 4) (l++y.ns)]=100+(tg l+tg y.ns):=by rw[fY];unfold ndK;rw[ox,mF]
    omega
   ·cases h;exact Jb _
  case pipe d p=>
   obtain⟨y,hy,rfl⟩:=Jh.1 h
   have hp2:(if aI p=dx then aJ p else p).len≤p.len:=by
    split
    ·exact eI p
    ·exact Jb _
   have hps:SmP (if aI p=dx then aJ p else p):=by
    split
    ·exact SmP.tail hp
    ·exact hp
   have h1:tg y.ns+27000*y.p.len≤0+27000*(if aI p=dx then aJ p else p).len+100:=ih _ _ hy hps
   have h2:tg (if aI p=dx then[Nd.mk 2 true [] [] [] [] y.ns] else cR 2 y.ns)≤tg y.ns+100:=by
    split
    ·rw[fY,ox];omega
    ·exact zs 2 y.ns
   show tg (if aI p=dx then[Nd.mk 2 true [] [] [] [] y.ns] else cR 2 y.ns)+27000*y.p.len≤0+27000*p.len+200
   omega
  case pipeL d acc p=>
   obtain⟨y,hy,hz⟩:=Ji.1 h
   have h1:tg y.ns+27000*y.p.len≤0+27000*p.len+100:=ih _ _ hy hp
   have ha:=mF acc y.ns
   show tg x.ns+27000*x.p.len≤tg acc+27000*p.len+100
   split at hz
   ·rename_i hk
    have h2:tg x.ns+27000*x.p.len≤tg (acc++y.ns)+27000*(aD (aJ y.p)).len+100:=ih _ _ hz (sm _ _ hy hp).tail.rest
    have h3:(aJ y.p).len<y.p.len:=eC (by rw[hk];decide)
    have h4:(aD (aJ y.p)).len≤(aJ y.p).len:=cq _
    omega
   ·cases hz
    show tg (acc++y.ns)+27000*y.p.len≤_
    omega
  case command d p=>
   show tg x.ns+27000*x.p.len≤0+27000*p.len+100
   split at h
   ·cases h
    have h1:=qD (p.r.length+1) ⟨[],[],[]⟩ p ⟨fun x hx=>(by cases hx),fun x hx=>(by cases hx),fun x hx=>(by cases hx)⟩ hp
    have h0:cm ⟨[],[],[]⟩=0:=rfl
    have h2:tg [(aS p).1]=100+cm (aG (p.r.length+1) ⟨[],[],[]⟩ p).1:=by
     rw[fY]
     unfold aS
     simp only
     rw[nX]
     show 100+0+ca _+cw _+cr _+0=100+(ca _+cw _+cr _)
     omega
    have h3:(aS p).2.len≤(aG (p.r.length+1) ⟨[],[],[]⟩ p).2.len:=by
     unfold aS
     simp only
     split
     ·exact Ju _
     ·exact Jb _
    show tg [(aS p).1]+27000*(aS p).2.len≤_
    omega
   ·have leaf:tg [Nd0]=100:=by rw[fY];exact ox 0 false []
    split at h
    ·cases h
     show tg [Nd0]+27000*0≤_
     omega
    ·split at h
     ·cases h
      show tg [Nd0]+27000*0≤_
      omega
     ·rename_i hr _ _
      obtain⟨y,hy,rfl⟩:=Jh.1 h
      have h1:tg y.ns+27000*y.p.len≤0+27000*(aJ p).len+700:=ih _ _ hy (SmP.tail hp)
      have h2:(aJ p).len<p.len:=eY hr
      have h3:=pX (y.p.r.length+1) y.p (sm _ _ hy (SmP.tail hp))
      obtain⟨nd,hn⟩:=(cJ _ _ _ hy).1 trivial
      have h4:tg (y.ns.map (fh (aY y.p).1))=tg y.ns+cr (aY y.p).1:=by rw[hn];show tg [fh _ nd]=_;rw[fY,fY,D3]
      show tg (y.ns.map (fh (aY y.p).1))+27000*(aY y.p).2.len≤_
      have h5:cr (aY y.p).1+27000*(aY y.p).2.len≤27000*y.p.len:=h3
      omega
  case read d s p=>
   show tg x.ns+27000*x.p.len≤0+27000*p.len+700
   split at h
   ·exact ih _ _ h hp
   ·split at h
    ·exact ih _ _ h hp
    ·split at h
     ·exact ih _ _ h hp
     ·split at h
      ·exact ih _ _ h hp
      ·exact ih _ _ h hp
  case branches d acc p=>
   show tg x.ns+27000*x.p.len≤tg acc+27000*p.len+700
   obtain⟨y,hy,h⟩:=Ji.1 h
   obtain⟨z,hz,h⟩:=Ji.1 h
   have h1:tg y.ns+27000*y.p.len≤0+27000*p.len+300:=ih _ _ hy hp
   have h2:tg z.ns+27000*z.p.len≤0+27000*(ay cu y.p).len+300:=ih _ _ hz ((sm _ _ hy hp).jq _)
   have h3:(ay cu y.p).len≤y.p.len:=bZ _ _
   have ha:tg (acc++y.ns++z.ns)=tg acc+tg y.ns+tg z.ns:=by rw[mF,mF]
   split at h
   ·rename_i he
    have h4:tg x.ns+27000*x.p.len≤tg (acc++y.ns++z.ns)+27000*(aJ z.p).len+700:=ih _ _ h (sm _ _ hz ((sm _ _ hy hp).jq _)).tail
    have h5:(aJ z.p).len<z.p.len:=eY (by rw[he];decide)
    omega
   ·split at h
    ·rename_i he
     obtain⟨u,hu,rfl⟩:=Jh.1 h
     have h4:tg u.ns+27000*u.p.len≤0+27000*(aJ z.p).len+300:=ih _ _ hu (sm _ _ hz ((sm _ _ hy hp).jq _)).tail
     have h5:(aJ z.p).len<z.p.len:=eY (by rw[he];decide)
     have h6:(ay rFi u.p).len≤u.p.len:=bZ _ _
     have h7:tg [ndK 6 (acc++y.ns++z.ns++u.ns)]=100+(tg (acc++y.ns++z.ns)+tg u.ns):=by rw[fY];unfold ndK;rw[ox,mF]
     show tg [ndK 6 (acc++y.ns++z.ns++u.ns)]+27000*(ay rFi u.p).len≤_
     omega
    ·cases h
     have h6:(ay rFi z.p).len≤z.p.len:=bZ _ _
     have h7:tg [ndK 6 (acc++y.ns++z.ns)]=100+tg (acc++y.ns++z.ns):=by rw[fY];unfold ndK;rw[ox]
     show tg [ndK 6 (acc++y.ns++z.ns)]+27000*(ay rFi z.p).len≤_
     omega
  case loop d k p=>
   show tg x.ns+27000*x.p.len≤0+27000*p.len+700
   obtain⟨y,hy,h⟩:=Ji.1 h
   obtain⟨z,hz,rfl⟩:=Jh.1 h
   have h1:tg y.ns+27000*y.p.len≤0+27000*p.len+300:=ih _ _ hy hp
   have h2:tg z.ns+27000*z.p.len≤0+27000*y.p.len+300:=ih _ _ hz (sm _ _ hy hp)
   have h7:tg [ndK k (y.ns++z.ns)]=100+(tg y.ns+tg z.ns):=by rw[fY];unfold ndK;rw[ox,mF]
   show tg [ndK k (y.ns++z.ns)]+27000*z.p.len≤_
   omega
  case body d p=>
   show tg x.ns+27000*x.p.len≤0+27000*p.len+300
   obtain⟨y,hy,rfl⟩:=Jh.1 h
   have h1:tg y.ns+27000*y.p.len≤0+27000*(ay rDo p).len+300:=ih _ _ hy (SmP.jq hp _)
   have h2:(ay rDo p).len≤p.len:=bZ _ _
   have h3:(ay bp y.p).len≤y.p.len:=bZ _ _
   show tg y.ns+27000*(ay bp y.p).len≤_
   omega
  case each d p=>
   show tg x.ns+27000*x.p.len≤0+27000*p.len+700
   obtain⟨y,hy,rfl⟩:=Jh.1 h
   have h1:tg y.ns+27000*y.p.len≤0+27000*(bL p).2.2.len+300:=ih _ _ hy (SmP.sub hp (uX p))
   have hq:(bD p).1.length+27000*(bD p).2.len≤27000*p.len:=by
    obtain⟨r,e⟩:=p
    unfold bD
    cases r with
    |nil=>exact Ju _
    |cons t r=>
     simp only
     split
     ·have:=hp.2 t Jz
      show t.text.length+27000*r.length≤27000*(r.length+1)
      omega
     ·show 0+27000*0≤_;omega
   have hm:=(SmP.sub hp (tu p)).rest.jq rIn
   have hw:=sP ((ay rIn (aD (bD p).2)).r.length+1) _ hm
   have hm1:(ay rIn (aD (bD p).2)).len≤(bD p).2.len:=lt9 (bZ _ _) (cq _)
   have hw':cw (bN (ay rIn (aD (bD p).2))).1+27000*(bN (ay rIn (aD (bD p).2))).2.len≤27000*(ay rIn (aD (bD p).2)).len:=hw
   have h2:(bL p).2.2.len≤(bN (ay rIn (aD (bD p).2))).2.len:=by
    rw[ev]
    exact lt9 (cq _) (sW _).length_le
   have h7:tg [Nd.mk 9 false (bL p).1 [] (bL p).2.1 [] y.ns]=100+(bD p).1.length+cw (bN (ay rIn (aD (bD p).2))).1+tg y.ns:=by
    rw[fY,nX,ev]
    show 100+(bD p).1.length+0+cw (bN (ay rIn (aD (bD p).2))).1+0+tg y.ns=_
    omega
   show tg [Nd.mk 9 false (bL p).1 [] (bL p).2.1 [] y.ns]+27000*y.p.len≤_
   omega
  case group d p=>
   show tg x.ns+27000*x.p.len≤0+27000*p.len+700
   obtain⟨y,hy,rfl⟩:=Jh.1 h
   have h1:tg y.ns+27000*y.p.len≤0+27000*p.len+300:=ih _ _ hy hp
   have h3:(ay cx y.p).len≤y.p.len:=bZ _ _
   have h7:tg [ndK 10 y.ns]=100+tg y.ns:=by rw[fY];unfold ndK;rw[ox]
   show tg [ndK 10 y.ns]+27000*(ay cx y.p).len≤_
   omega
theorem jI (sep:LB):∀l:List LB,(bP sep l).length≤(l.map fun x=>x.length+sep.length).sum
 |[]=>Jb _
 |[x]=>by show x.length≤_;simp
 |x::y::l=>by
  have ih:=jI sep (y::l)
  show(x++sep++bP sep (y::l)).length≤_
  rw[Jf,Jf,List.map_cons,List.sum_cons]
  omega
theorem Af (f:LB→Nat) (a b:List LB):((a++b).map f).sum=(a.map f).sum+(b.map f).sum:=by rw[List.map_append,List.sum_append]
theorem yV (a:List (LB×LP)) (w:List LP):((bI a w).map fun x=>x.length+1).sum≤ca a+cw w:=by
 unfold bI
 rw[Af]
 have h1:((a.map fun a=>a.1++[61]++aC a.2).map fun x=>x.length+1).sum=ca a:=by
  unfold ca
  rw[List.map_map]
  congr 1
  exact List.map_congr_left fun x _=>by show(x.1++[61]++aC x.2).length+1=_;rw[Jf,Jf];simp;omega
 have h2:((w.map aC).map fun x=>x.length+1).sum=cw w:=by
  unfold cw
  rw[List.map_map]
  rfl
 omega
theorem CF (k:Int):(fT k).length≤3:=by
 unfold fT
 split
 ·decide
 ·split
  ·decide
  ·split
   ·decide
   ·split
    ·decide
    ·split<;>decide
theorem vB:∀(r:List (Int×LP)),((dQ r).map fun x=>x.length+1).sum≤cr r
 |[]=>Jb _
 |x::r=>by
  have ih:=vB r
  have h1:=CF x.1
  have e:cr (x::r)=(aC x.2).length+4+cr r:=by rw[←List.singleton_append,tW,yX]
  show(((fT x.1++aC x.2)::dQ r).map fun x=>x.length+1).sum≤_
  rw[List.map_cons,List.sum_cons,Jf,e]
  omega
theorem p7 (s:List LB) (r:List (Int×LP)):(aX s r).length≤(s.map fun x=>x.length+1).sum+cr r:=by
 unfold aX
 have h1:=jI [32] (s++dQ r)
 have h2:=vB r
 rw[Af] at h1
 have h3:((s.map fun x=>x.length+[32].length).sum)=(s.map fun x=>x.length+1).sum:=rfl
 have h4:(((dQ r).map fun x=>x.length+[32].length).sum)=((dQ r).map fun x=>x.length+1).sum:=rfl
 omega
theorem gL (x:LB) (r:List (Int×LP)):(aX [x] r).length≤x.length+1+cr r:=by
 have:=p7 [x] r
 simp only[List.map_cons,List.map_nil,List.sum_cons,List.sum_nil] at this
 omega
theorem re:∀(l:List LB) (f:Bool),(cv f l).length≤(l.map fun x=>x.length+14).sum
 |[],f=>Jb _
 |[x],f=>by
  show(dF++[32]++x++[59,32]).length≤_
  simp[dF]<;>omega
 |c::b::l,f=>by
  have ih:=re l false
  show((if f then[] else eB++[32])++c++[59,32]++cu++[32]++b++[59,32]++cv false l).length≤_
  have h1:(if f=true then([]:LB) else eB++[32]).length≤5:=by cases f<;>decide
  have h2:cu.length=4:=rfl
  simp only[Jf,Jg,Jn,List.map_cons,List.sum_cons,h2]
  omega
theorem F7 (l:List LB):(k0 l).length+(k1 l).length≤(l.map fun x=>x.length+14).sum:=by
 unfold k0 k1
 match l with
 |[]=>exact Jb _
 |[x]=>simp<;>omega
 |x::y::l=>simp<;>omega
theorem lG {sep:LB} (h:sep.length≤14) (l:List LB):(bP sep l).length≤(l.map fun x=>x.length+14).sum:=by
 refine lt9 (jI sep l) ?_
 induction l with
 |nil=>exact Jb _
 |cons x l ih=>rw[List.map_cons,List.map_cons,List.sum_cons,List.sum_cons];omega
theorem Bx (k:Int) (b:Bool) (s:LB) (a:List (LB×LP)) (w:List LP) (r:List (Int×LP)) (l:List Nd) (ks:List LB):(fS (.mk k b s a w r l) ks).length≤80+s.length+ca a+cw w+cr r+(ks.map fun x=>x.length+14).sum:=by
 have hk:=F7 ks
 have hws:=yV a w
 show(if k=1 then aX (bI a w) r else _:LB).length≤_
 split
 ·have:=p7 (bI a w) r;omega
 ·split
  ·have:=lG (sep:=[32,124,32]) (by decide) ks
   rw[Jf]
   have h2:(if b=true then([33,32]:LB) else[]).length≤2:=by cases b<;>decide
   omega
  ·split
   ·have:=lG (sep:=[32,38,38,32]) (by decide) ks;omega
   ·split
    ·have:=lG (sep:=[32,124,124,32]) (by decide) ks;omega
    ·split
     ·have:=lG (sep:=[59,32]) (by decide) ks;omega
     ·split
      ·have h1:=gL (rIf++[32]++cv true ks++rFi) r
       have h2:=re ks true
       simp only[Jf,Jg,Jn,show rIf.length=2 from rfl,show rFi.length=2 from rfl] at h1
       omega
      ·split
       ·have h1:=gL (dX++[32]++k0 ks++[59,32]++rDo++[32]++k1 ks++[59,32]++bp) r
        simp only[Jf,Jg,Jn,show dX.length=5 from rfl,show rDo.length=2 from rfl,show bp.length=4 from rfl] at h1
        omega
       ·split
        ·have h1:=gL (cZ++[32]++k0 ks++[59,32]++rDo++[32]++k1 ks++[59,32]++bp) r
         simp only[Jf,Jg,Jn,show cZ.length=5 from rfl,show rDo.length=2 from rfl,show bp.length=4 from rfl] at h1
         omega
        ·split
         ·have h1:=gL (bP [32] ((fw++[32]++s++[32]++rIn)::bI a w)++[59,32]++rDo++[32]++k0 ks++[59,32]++bp) r
          have h2:(bP [32] ((fw++[32]++s++[32]++rIn)::bI a w)).length≤(fw++[32]++s++[32]++rIn).length+1+((bI a w).map fun x=>x.length+1).sum:=by
           have h2:=jI [32] ((fw++[32]++s++[32]++rIn)::bI a w)
           rw[List.map_cons,List.sum_cons] at h2
           exact h2
          simp only[Jf,Jg,Jn,show fw.length=3 from rfl,show rIn.length=2 from rfl,show rDo.length=2 from rfl,show bp.length=4 from rfl] at h1 h2
          omega
         ·have h1:=gL ([123,32]++k0 ks++[59,32,125]) r
          simp only[Jf,Jg,Jn] at h1
          omega
theorem Ad:∀(N:Nat) (n:Nd),szN n≤N→(aj n).length+14≤tb n
 |0,n,h=>by obtain⟨k,b,s,a,w,r,l⟩:=n;rw[dt] at h;omega
 |N+1,.mk k b s a w r l,h=>by
  rw[dt] at h
  have e:aj (.mk k b s a w r l)=fS (.mk k b s a w r l) (l.map aj):=qO _
  have h1:=Bx k b s a w r l (l.map aj)
  have key:∀l:List Nd,sg l≤N→((l.map aj).map fun x=>x.length+14).sum≤tg l:=by
   intro l
   induction l with
   |nil=>intro _;exact Jb _
   |cons x l ih=>
    intro hl
    have e:sg (x::l)=szN x+sg l:=by unfold sg;simp
    have e2:tg (x::l)=tb x+tg l:=by unfold tg;simp
    have i1:=ih (by omega)
    have i2:=Ad N x (by omega)
    rw[List.map_cons,List.map_cons,List.sum_cons,e2]
    omega
  have h2:=key l (by omega)
  rw[e,nX]
  omega
theorem CQ {n:Nat} {j:Job} {x:Rd9} {nd:Nd} (h:run n j=some x) (hp:SmP j.p) (hj:j.has=[]) (hn:x.ns=[nd]):SmN nd:=by
 have h1:=(C8 n j x h hp (fun nd hm=>by rw[hj] at hm;cases hm)).2 nd (by rw[hn];exact Jz)
 have h2:=Cl n j x h
 have h3:=DM n j x h hp
 have hx:j.extra≤14:=by cases j<;>simp[Job.extra]
 rw[hn,hj,iU] at h2
 rw[hn,hj,fY] at h3
 have h4:=hp.1
 have hpl:j.p.len≤2048:=h4
 have e0:sg []=0:=rfl
 have e1:tg []=0:=rfl
 have h5:=Ad _ nd (Jb _)
 have h6:=(uJ _ nd (Jb _)).1
 exact⟨by omega,by omega,DK h1 (by omega),fun _ _=>by omega⟩
theorem fM {α:Type} (k:Nat) (x t:List α) (h:k≤x.length):(x++t).take k=x.take k:=List.take_append_of_le_length h
theorem qJ {c:UInt8}:∀{x t y:LB},dC c (x++t)= .ok (y++t)→dC c x= .ok y
 |[],t,y,h=>by
  rw[List.nil_append] at h
  cases t with
  |nil=>cases h
  |cons d t=>
   unfold dC at h
   split at h
   ·have:=congrArg List.length (Except.ok.inj h);simp at this;omega
   ·have:=(lI h).len;simp at this;omega
 |d::x,t,y,h=>by
  rw[Jy] at h
  unfold dC at h⊢
  split at h
  ·rename_i e
   rw[Jt e,List.append_cancel_right (Except.ok.inj h)]
  ·rename_i e
   rw[Js e]
   exact qJ h
theorem Cg:∀{x t y:LB},fR (x++t)= .ok (y++t)→fR x= .ok y
 |[],t,y,h=>by
  have:=(qI h)
  rw[List.nil_append] at h
  cases t with
  |nil=>cases h
  |cons d t=>
   unfold fR at h
   simp only at h
   split at h
   ·cases h
   ·have:=congrArg List.length (Except.ok.inj h);simp at this;omega
 |d::x,t,y,h=>by
  rw[Jy] at h
  unfold fR at h⊢
  simp only at h⊢
  split at h
  ·cases h
  ·rename_i e
   rw[Js e,List.append_cancel_right (Except.ok.inj h)]
theorem jF:∀{x t y:LB} {o:Nat},bO o (x++t)= .ok (y++t)→bO o x= .ok y
 |[],t,y,o,h=>by
  rw[List.nil_append] at h
  cases t with
  |nil=>cases h
  |cons c t=>
   unfold bO at h
   split at h
   ·have:=congrArg List.length (Except.ok.inj h);simp at this;omega
   ·split at h
    ·have:=(fg h).len;simp at this;omega
    ·split at h
     ·have:=(fg h).len;simp at this;omega
     ·split at h
      ·cases h
      ·have:=(fg h).len;simp at this;omega
 |c::x,t,y,o,h=>by
  rw[Jy] at h
  unfold bO at h⊢
  split at h
  ·rename_i e
   have hl:=congrArg List.length (Except.ok.inj h)
   simp at hl
   have hx:1≤x.length:=by
    have:=congrArg List.length e.2
    simp at this
    omega
   rw[←Jy,fM 2 (c::x) t (by simp;omega)] at e
   rw[Jt e]
   rw[List.drop_append_of_le_length hx] at h
   rw[List.append_cancel_right (Except.ok.inj h)]
  ·rename_i e
   have e':¬(o=0∧(c::x).take 2=[41,41]):=fun h2=>e ⟨h2.1,by
    have hx:2≤(c::x).length:=take_len h2.2 rfl
    rw[←Jy,fM 2 (c::x) t hx];exact h2.2⟩
   rw[Js e']
   split at h
   ·rename_i e1
    rw[Jt e1];exact jF h
   ·rename_i e1
    rw[Js e1]
    split at h
    ·rename_i e2
     rw[Jt e2];exact jF h
    ·rename_i e2
     rw[Js e2]
     split at h
     ·cases h
     ·rename_i e3
      rw[Js e3];exact jF h
theorem pT:∀{first:Bool} {x t y:LB},dE first (x++t)=y++t→dE first x=y
 |first,[],t,y,h=>by
  have:=(lH (first:=first) (r:=t)).len
  rw[List.nil_append] at h
  rw[h] at this
  simp at this
  have hy:y=[]:=List.length_eq_zero_iff.1 (by omega)
  rw[hy]
  rfl
 |first,c::x,t,y,h=>by
  rw[Jy] at h
  unfold dE at h⊢
  split at h
  ·rename_i e
   rw[Jt e];exact pT h
  ·rename_i e
   rw[Js e]
   rw[←Jy] at h
   exact List.append_cancel_right h
theorem om {x t r:LB} (h:Tl (x++t) r) (hl:t.length≤r.length):∃z,r=z++t:=by
 obtain⟨k,hk,rfl⟩:=h
 rw[Jo,Jf] at hl
 exact⟨x.drop k,List.drop_append_of_le_length (by rw[Jf] at hk;omega)⟩
theorem uO {k:Nat} {x t w:LB} (hx:k≤x.length) (e:(x++t).take k=w):x.take k=w:=by
 rw[fM k x t hx] at e;exact e
theorem pv {k:Nat} {x t w:LB} (e:¬(x++t).take k=w) (hw:w.length=k):¬x.take k=w:=fun h=>e (by
 rw[fM k x t (take_len h hw)];exact h)
theorem gE:∀(n:Nat) (m:Md) (d:Nat) {x t y:LB},scan n m d (x++t)= .ok (y++t)→scan n m d x= .ok y
 |0,m,d,x,t,y,h=>by unfold scan at h;cases h
 |n+1,.piece q,d,[],t,y,h=>by
  rw[List.nil_append] at h
  cases t with
  |nil=>unfold scan at h;cases h
  |cons c t=>have:=(dL h).len;simp at this;omega
 |n+1,.piece q,d,c::x,t,y,h=>by
  rw[Jy] at h
  unfold scan at h⊢
  simp only at h⊢
  split at h
  ·rename_i e;rw[Jt e];exact Cg h
  ·rename_i e;rw[Js e]
   split at h
   ·rename_i e;rw[Jt e];exact qJ h
   ·rename_i e;rw[Js e]
    split at h
    ·rename_i e;rw[Jt e]
     split at h
     ·cases h
     ·rename_i e;rw[Js e];exact gE n _ _ h
    ·rename_i e;rw[Js e]
     split at h
     ·rename_i e;rw[Jt e]
      split at h
      ·rename_i e
       have hl:=(fg h).len
       have h2:2≤(x++t).length:=take_len e rfl
       simp at hl h2
       have hx:2≤x.length:=by omega
       rw[Jt (uO hx e)]
       rw[List.drop_append_of_le_length hx] at h
       exact jF h
      ·rename_i e
       rw[Js (pv e rfl)]
       split at h
       ·cases h
       ·rename_i e
        rw[Js (pv e rfl)]
        split at h
        ·rename_i e
         split at h
         ·cases h
         ·rename_i e2
          have hl:=(cO n _ _ h).len
          have h2:1≤(x++t).length:=take_len e rfl
          simp at hl h2
          have hx:1≤x.length:=by omega
          rw[Jt (uO hx e),Js e2]
          rw[List.drop_append_of_le_length hx] at h
          exact gE n _ _ h
        ·rename_i e
         rw[Js (pv e rfl)]
         split at h
         ·rename_i e
          have hl:=congrArg List.length (Except.ok.inj h)
          have h2:1≤(x++t).length:=take_len e rfl
          simp at hl h2
          have hx:1≤x.length:=by omega
          rw[Jt (uO hx e)]
          rw[List.drop_append_of_le_length hx] at h
          rw[List.append_cancel_right (Except.ok.inj h)]
         ·rename_i e
          rw[Js (pv e rfl)]
          rw[pT (Except.ok.inj h)]
     ·rename_i e;rw[Js e]
      split at h
      ·cases h
      ·rename_i e;rw[Js e]
       rw[List.append_cancel_right (Except.ok.inj h)]
 |n+1,.double,d,[],t,y,h=>by
  rw[List.nil_append] at h
  cases t with
  |nil=>unfold scan at h;cases h
  |cons c t=>
   unfold scan at h
   simp only at h
   split at h
   ·have:=congrArg List.length (Except.ok.inj h);simp at this;omega
   ·split at h
    ·cases h
    ·rename_i r1 h1
     have a:=(dL h1).len
     have b:=(cO n _ _ h).len
     simp at b;omega
 |n+1,.double,d,c::x,t,y,h=>by
  rw[Jy] at h
  unfold scan at h⊢
  simp only at h⊢
  split at h
  ·rename_i e;rw[Jt e,List.append_cancel_right (Except.ok.inj h)]
  ·rename_i e;rw[Js e]
   split at h
   ·cases h
   ·rename_i r1 h1
    have b:=(cO n _ _ h).len
    obtain⟨z,rfl⟩:=om (x:=c::x) (cO n _ _ h1) (by simp at b;omega)
    rw[gE n (.piece true) d (x:=c::x) h1]
    exact gE n .double d h
 |n+1,.brace,d,[],t,y,h=>by
  rw[List.nil_append] at h
  cases t with
  |nil=>unfold scan at h;cases h
  |cons c t=>
   unfold scan at h
   simp only at h
   split at h
   ·have:=congrArg List.length (Except.ok.inj h);simp at this;omega
   ·split at h
    ·cases h
    ·split at h
     ·have:=(cO n _ _ h).len;simp at this;omega
     ·split at h
      ·cases h
      ·rename_i r1 h1
       have a:=(dL h1).len
       have b:=(cO n _ _ h).len
       simp at b;omega
 |n+1,.brace,d,c::x,t,y,h=>by
  rw[Jy] at h
  unfold scan at h⊢
  simp only at h⊢
  split at h
  ·rename_i e;rw[Jt e,List.append_cancel_right (Except.ok.inj h)]
  ·rename_i e;rw[Js e]
   split at h
   ·cases h
   ·rename_i e;rw[Js e]
    split at h
    ·rename_i e;rw[Jt e];exact gE n .brace d h
    ·rename_i e;rw[Js e]
     split at h
     ·cases h
     ·rename_i r1 h1
      have b:=(cO n _ _ h).len
      obtain⟨z,rfl⟩:=om (x:=c::x) (cO n _ _ h1) (by simp at b;omega)
      rw[gE n (.piece false) d (x:=c::x) h1]
      exact gE n .brace d h
theorem A0 {x t y:LB} (h:fy false 0 (x++t)= .ok (y++t)):fy false 0 x= .ok y:=by
 unfold fy at h⊢
 have h1:=gE _ _ _ h
 rw[show dy (.piece false) (x++t).length=dy (.piece false) x.length+2*t.length by unfold dy;simp;omega,sM _ _ _ _ _ (Jb _)] at h1
 exact h1
theorem ti:∀(n:Nat) {x t y:LB},bF n (x++t)= .ok (y++t)→bF n x= .ok y
 |0,x,t,y,h=>by cases h
 |n+1,[],t,y,h=>by
  rw[List.nil_append] at h
  have hy:y.length=0:=by
   have:=(iu (n+1) h).len;simp at this;omega
  rw[List.length_eq_zero_iff.1 hy]
  rfl
 |n+1,c::x,t,y,h=>by
  rw[Jy] at h
  unfold bF at h⊢
  split at h
  ·rename_i e
   rw[Jt e]
   rw[←Jy] at h
   rw[List.append_cancel_right (Except.ok.inj h)]
  ·rename_i e
   rw[Js e]
   split at h
   ·cases h
   ·rename_i r1 h1
    have b:=(iu n h).len
    obtain⟨z,rfl⟩:=om (x:=c::x) (cO _ _ _ h1) (by simp at b;omega)
    rw[A0 (x:=c::x) h1]
    exact ti n h
def ve (x:LB):Prop:=bF (x.length+1) x= .ok []
theorem yF {c:UInt8} {x:LB} (h:ve (c::x)):fX c=false:=by
 cases e:fX c with
 |false=>rfl
 |true=>
  unfold ve at h
  rw[Jg,qg e] at h
  cases h
theorem AV {x t:LB} (h:cb (x++t)=none):cb x=none:=by
 unfold cb at h⊢
 rw[List.find?_eq_none] at h⊢
 intro o ho hx
 refine h o ho ?_
 simp only[beq_iff_eq] at hx⊢
 rw[fM _ x t (take_len hx rfl)]
 exact hx
