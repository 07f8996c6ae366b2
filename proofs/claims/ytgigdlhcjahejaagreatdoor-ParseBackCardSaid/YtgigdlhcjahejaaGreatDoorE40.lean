/- Of the proof of ParseBack: ParX, TilesP. -/
import Derived.Test.YtgigdlhcjahejaaGreatDoorE39
import Derived.Test.YtgigdlhcjahejaaGreatDoorE12
namespace Go.Proofs.YtgigdlhcjahejaaGreatDoor
open Go Go.RowKit Go.Lw
set_option linter.unusedVariables false
set_option linter.unusedSimpArgs false
def ca (l:List (LB×LP)):Nat:=(l.map fun a=>a.1.length+(af a.2).length+2).sum
def cw (l:List LP):Nat:=(l.map fun w=>(af w).length+1).sum
def cr (l:List (Int×LP)):Nat:=(l.map fun r=>(af r.2).length+4).sum
theorem Fk (a b:List (LB×LP)):ca (a++b)=ca a+ca b:=by unfold ca;rw[List.map_append,List.sum_append]
theorem Df (a b:List LP):cw (a++b)=cw a+cw b:=by unfold cw;rw[List.map_append,List.sum_append]
theorem tO (a b:List (Int×LP)):cr (a++b)=cr a+cr b:=by unfold cr;rw[List.map_append,List.sum_append]
theorem Fm (a:LB×LP):ca [a]=a.1.length+(af a.2).length+2:=by unfold ca;simp
theorem Di (a:LP):cw [a]=(af a).length+1:=by unfold cw;simp
theorem xN (a:Int×LP):cr [a]=(af a.2).length+4:=by unfold cr;simp
def tb:Nd→Nat
 |.mk k b s a w r l=>100+s.length+ca a+cw w+cr r+tbs l
where tbs:List Nd→Nat
 |[]=>0
 |n::l=>tb n+tbs l
def tg (l:List Nd):Nat:=(l.map tb).sum
theorem CC:∀l:List Nd,tb.tbs l=tg l
 |[]=>by rw[tb.tbs];rfl
 |n::l=>by rw[tb.tbs,CC l];unfold tg;simp
theorem lT (k:Int) (b:Bool) (s:LB) (a:List (LB×LP)) (w:List LP) (r:List (Int×LP)) (l:List Nd):tb (.mk k b s a w r l)=100+s.length+ca a+cw w+cr r+tg l:=by rw[tb,CC]
theorem oA (k:Int) (b:Bool) (l:List Nd):tb (.mk k b [] [] [] [] l)=100+tg l:=by rw[lT];rfl
theorem mr (a b:List Nd):tg (a++b)=tg a+tg b:=by unfold tg;rw[List.map_append,List.sum_append]
theorem fP (n:Nd):tg [n]=tb n:=by unfold tg;simp
theorem zM (k:Int) (l:List Nd):tg (fz k l)≤tg l+100:=by
 unfold fz
 split
 ·omega
 ·rw[fP];unfold ndK;rw[oA];omega
theorem ze {p:Ps} (h:SmP p) (hk:ai p=1):(af (aR p).1).length+27000*(aR p).2.len+2424≤27000*p.len:=by
 have h1:=h.word.2
 have h2:=gg hk
 omega
theorem vO {p p':Ps} {x:Int×LP} (h:SmP p) (hr:bF p=some (x,p')):(af x.2).length+27000*p'.len+2424≤27000*p.len:=by
 have h1:=(h.qC hr).2
 have h2:p'.len<p.len:=ez hr
 omega
theorem qP:∀(n:Nat) (p:Ps),SmP p→cr (bp n p).1+27000*(bp n p).2.len≤27000*p.len
 |0,p,h=>by show 0+_≤_;rw[Nat.zero_add];exact Jb _
 |n+1,p,h=>by
  unfold bp
  split
  ·show 0+_≤_;rw[Nat.zero_add];exact Jb _
  ·rename_i x p' hr
   have h1:=vO h hr
   have h2:=qP n p' (h.qC hr).1
   have e:cr (x::(bp n p').1)=(af x.2).length+4+cr (bp n p').1:=by rw[←List.singleton_append,tO,xN]
   show cr (x::(bp n p').1)+27000*(bp n p').2.len≤_
   omega
theorem sI:∀(n:Nat) (p:Ps),SmP p→cw (bG n p).1+27000*(bG n p).2.len≤27000*p.len
 |0,p,h=>by show 0+_≤_;rw[Nat.zero_add];exact Jb _
 |n+1,p,h=>by
  unfold bG
  split
  ·rename_i hk
   have h1:=ze h hk
   have h2:=sI n _ h.word.1
   have e:cw ((aR p).1::(bG n (aR p).2).1)=(af (aR p).1).length+1+cw (bG n (aR p).2).1:=by rw[←List.singleton_append,Df,Di]
   show cw ((aR p).1::(bG n (aR p).2).1)+27000*(bG n (aR p).2).2.len≤_
   omega
  ·show 0+_≤_;rw[Nat.zero_add];exact Jb _
def cm (m:Sm):Nat:=ca m.al+cw m.ws+cr m.rs
theorem xJ {m:Sm} {p:Ps} {x:Sm×Ps} (h:bD m p=some x) (hp:SmP p):cm x.1+27000*x.2.len≤cm m+27000*p.len:=by
 have hl:=fF h
 unfold bD at h
 split at h
 ·rename_i y p' e
  cases h
  have h1:=vO hp e
  show ca m.al+cw m.ws+cr (m.rs++[y])+27000*p'.len≤ca m.al+cw m.ws+cr m.rs+_
  rw[tO,xN]
  omega
 ·split at h
  ·cases h
  ·rename_i t r e
   have htx:t.text.length≤2048:=hp.2 t (by rw[e];exact List.mem_cons_self)
   split at h
   ·rename_i hk
    split at h
    ·cases h
     have hl':r.length<p.len:=hl
     have ha:((a7 t.text).getD ([],[])).1.length+(af ((a7 t.text).getD ([],[])).2).length≤26624:=by
      cases ea:a7 t.text with
      |none=>show 0+(af []).length≤_;rw[dF];decide
      |some a=>
       have:=oL ea
       show a.1.length+(af a.2).length≤_
       omega
     show ca (m.al++[(a7 t.text).getD ([],[])])+cw m.ws+cr m.rs+27000*r.length≤ca m.al+cw m.ws+cr m.rs+_
     rw[Fk,Fm]
     omega
    ·split at h
     ·cases h
      show ca m.al+cw m.ws+cr m.rs+27000*0≤ca m.al+cw m.ws+cr m.rs+_
      omega
     ·cases h
      have h1:=ze hp (by unfold ai;rw[e];exact hk)
      show ca m.al+cw (m.ws++[(aR p).1])+cr m.rs+27000*(aR p).2.len≤ca m.al+cw m.ws+cr m.rs+_
      rw[Df,Di]
      omega
   ·cases h
theorem qD:∀(n:Nat) (m:Sm) (p:Ps),vN m→SmP p→cm (aE n m p).1+27000*(aE n m p).2.len≤cm m+27000*p.len
 |0,m,p,_,h=>Jb _
 |n+1,m,p,hm,h=>by
  unfold aE
  split
  ·exact Jb _
  ·rename_i x hx
   obtain⟨a1,a2,a3⟩:=qp hx hm h
   have h1:=xJ hx h
   have h2:=qD n x.1 x.2 a1 a2
   omega
theorem CI (rs:List (Int×LP)) (n:Nd):tb (iq rs n)=tb n+cr rs:=by
 obtain⟨k,b,s,a,w,r,l⟩:=n
 rw[qe,lT,lT,tO];omega
theorem fH (p:Ps):(aC p).r.Sublist p.r:=List.tail_sublist _
theorem jg (p:Ps):(aA p).r.Sublist p.r:=List.dropWhile_sublist _
theorem vt (p:Ps):(aM p).2.r.Sublist p.r:=by
 unfold aM
 split
 ·exact fH p
 ·exact List.Sublist.refl _
theorem iu (s:LB) (p:Ps):(az s p).r.Sublist p.r:=by
 unfold az
 split
 ·exact fH p
 ·exact List.nil_sublist _
theorem sV {p p':Ps} {x:Int×LP} (hr:bF p=some (x,p')):p'.r.Sublist p.r:=by
 unfold bF at hr
 split at hr
 ·cases hr
 ·cases hr
  exact(jv _).1.trans (fH p)
theorem oI:∀(n:Nat) (p:Ps),(bp n p).2.r.Sublist p.r
 |0,p=>List.Sublist.refl _
 |n+1,p=>by
  unfold bp
  split
  ·exact List.Sublist.refl _
  ·rename_i x p' hr
   exact(oI n p').trans (sV hr)
theorem xT (p:Ps):(bj p).2.r.Sublist p.r:=oI _ _
theorem uR {m:Sm} {p:Ps} {x:Sm×Ps} (h:bD m p=some x):x.2.r.Sublist p.r:=by
 unfold bD at h
 split at h
 ·rename_i y p' e
  cases h
  exact sV e
 ·split at h
  ·cases h
  ·rename_i t r e
   split at h
   ·split at h
    ·cases h
     show r.Sublist p.r
     rw[e];exact List.sublist_cons_self t r
    ·split at h
     ·cases h;exact List.nil_sublist _
     ·cases h;exact(jv _).1
   ·cases h
theorem oR:∀(n:Nat) (m:Sm) (p:Ps),(aE n m p).2.r.Sublist p.r
 |0,m,p=>List.Sublist.refl _
 |n+1,m,p=>by
  unfold aE
  split
  ·exact List.Sublist.refl _
  ·rename_i x hx
   exact(oR n x.1 x.2).trans (uR hx)
theorem xH (p:Ps):(bB p).2.r.Sublist p.r:=by
 unfold bB
 simp only
 split
 ·exact List.nil_sublist _
 ·exact oR _ _ _
theorem qn:∀(n:Nat) (p:Ps),(bG n p).2.r.Sublist p.r
 |0,p=>List.Sublist.refl _
 |n+1,p=>by
  unfold bG
  split
  ·exact(qn n _).trans (jv p).1
  ·exact List.Sublist.refl _
theorem sj (p:Ps):(cg p).2.r.Sublist p.r:=by
 obtain⟨r,e⟩:=p
 unfold cg
 cases r with
 |nil=>exact List.nil_sublist _
 |cons t r=>
  simp only
  split
  ·exact List.sublist_cons_self t r
  ·exact List.nil_sublist _
theorem tz (p:Ps):(fx p).r.Sublist p.r:=by
 unfold fx
 split
 ·exact vt p
 ·exact List.nil_sublist _
theorem vG (p:Ps):(cV p).2.2.r.Sublist p.r:=by
 rw[fA]
 exact(jg _).trans ((tz _).trans ((qn _ _).trans ((iu _ _).trans ((jg _).trans (sj p)))))
theorem zJ:∀(n:Nat) (j:Job) (x:Rd9),run n j=some x→x.p.r.Sublist j.p.r
 |0,_,_,h=>by cases h
 |n+1,j,x,h=>by
  have ih:=zJ n
  cases j<;>unfold run at h
  case block d p=>
   obtain⟨y,hy,rfl⟩:=Jh.1 h
   have h1:=ih _ _ hy
   show(if _ then _ else _:Ps).r.Sublist p.r
   split
   ·exact List.Sublist.trans h1 (jg p)
   ·exact List.nil_sublist _
  case list d p=>
   obtain⟨y,hy,rfl⟩:=Jh.1 h
   have h1:=ih _ _ hy
   exact h1
  case kids d acc p=>
   obtain⟨y,hy,hz⟩:=Ji.1 h
   have h1:(y.p).r.Sublist p.r:=ih _ _ hy
   have h2:((aA (aM y.p).2)).r.Sublist p.r:=List.Sublist.trans (jg _) (List.Sublist.trans (vt _) h1)
   split at hz
   ·split at hz
    ·have h3:=ih _ _ hz
     exact List.Sublist.trans h3 h2
    ·cases hz;exact h2
   ·cases hz;exact h1
  case chain d p=>
   obtain⟨y,hy,hz⟩:=Ji.1 h
   have h1:=ih _ _ hy
   have h2:=ih _ _ hz
   exact List.Sublist.trans h2 h1
  case chainL d l p=>
   split at h
   ·obtain⟨y,hy,hz⟩:=Ji.1 h
    have h1:=ih _ _ hy
    have h2:=ih _ _ hz
    exact List.Sublist.trans h2 (List.Sublist.trans h1 (List.Sublist.trans (jg _) (fH p)))
   ·cases h;exact List.Sublist.refl _
  case pipe d p=>
   obtain⟨y,hy,rfl⟩:=Jh.1 h
   have h1:=ih _ _ hy
   refine List.Sublist.trans h1 ?_
   show(if _ then _ else _:Ps).r.Sublist p.r
   split
   ·exact fH p
   ·exact List.Sublist.refl _
  case pipeL d acc p=>
   obtain⟨y,hy,hz⟩:=Ji.1 h
   have h1:(y.p).r.Sublist p.r:=ih _ _ hy
   split at hz
   ·have h3:=ih _ _ hz
    exact List.Sublist.trans h3 (List.Sublist.trans (jg _) (List.Sublist.trans (fH _) h1))
   ·cases hz;exact h1
  case command d p=>
   split at h
   ·cases h;exact xH p
   ·split at h
    ·cases h;exact List.nil_sublist _
    ·split at h
     ·cases h;exact List.nil_sublist _
     ·obtain⟨y,hy,rfl⟩:=Jh.1 h
      have h1:=ih _ _ hy
      exact List.Sublist.trans (xT _) (List.Sublist.trans h1 (fH p))
  case read d s p=>
   split at h
   ·have h1:=ih _ _ h
    exact h1
   ·split at h
    ·have h1:=ih _ _ h
     exact h1
    ·split at h
     ·have h1:=ih _ _ h
      exact h1
     ·split at h
      ·have h1:=ih _ _ h
       exact h1
      ·have h1:=ih _ _ h
       exact h1
  case branches d acc p=>
   obtain⟨y,hy,h⟩:=Ji.1 h
   obtain⟨z,hz,h⟩:=Ji.1 h
   have h7:=ih _ _ hy
   have h8:=ih _ _ hz
   have h1:(z.p).r.Sublist p.r:=List.Sublist.trans h8 (List.Sublist.trans (iu _ _) h7)
   split at h
   ·have h9:=ih _ _ h
    exact List.Sublist.trans h9 (List.Sublist.trans (fH _) h1)
   ·split at h
    ·obtain⟨u,hu,rfl⟩:=Jh.1 h
     have h9:=ih _ _ hu
     exact List.Sublist.trans (iu _ _) (List.Sublist.trans h9 (List.Sublist.trans (fH _) h1))
    ·cases h;exact List.Sublist.trans (iu _ _) h1
  case loop d k p=>
   obtain⟨y,hy,h⟩:=Ji.1 h
   obtain⟨z,hz,rfl⟩:=Jh.1 h
   have h1:=ih _ _ hy
   have h2:=ih _ _ hz
   exact List.Sublist.trans h2 h1
  case body d p=>
   obtain⟨y,hy,rfl⟩:=Jh.1 h
   have h1:=ih _ _ hy
   exact List.Sublist.trans (iu _ _) (List.Sublist.trans h1 (iu _ _))
  case each d p=>
   obtain⟨y,hy,rfl⟩:=Jh.1 h
   have h1:=ih _ _ hy
   exact List.Sublist.trans h1 (vG p)
  case group d p=>
   obtain⟨y,hy,rfl⟩:=Jh.1 h
   have h1:=ih _ _ hy
   exact List.Sublist.trans (iu _ _) h1
theorem CQ:∀(n:Nat) (j:Job) (x:Rd9),run n j=some x→SmP j.p→tg x.ns+27000*x.p.len≤tg j.has+27000*j.p.len+50*j.extra
 |0,_,_,h,_=>by cases h
 |n+1,j,x,h,hp=>by
  have ih:=CQ n
  have sm:∀(j:Job) (y:Rd9),run n j=some y→SmP j.p→SmP y.p:=fun j y h1 h2=>h2.sub (zJ n j y h1)
  cases j<;>unfold run at h
  case block d p=>
   obtain⟨y,hy,rfl⟩:=Jh.1 h
   have h1:=ih _ _ hy (SmP.rest hp)
   have h2:(aA p).len≤p.len:=cp p
   have h3:(if y.st then y.p else bd y.p 5).len≤y.p.len:=by
    split
    ·exact Jb _
    ·exact Nat.zero_le _
   have h1':tg y.ns+27000*y.p.len≤0+27000*(aA p).len+300:=h1
   show tg y.ns+27000*(if y.st then y.p else bd y.p 5).len≤0+27000*p.len+300
   omega
  case list d p=>
   obtain⟨y,hy,rfl⟩:=Jh.1 h
   have h1:tg y.ns+27000*y.p.len≤0+27000*p.len+200:=ih _ _ hy hp
   have h2:=zM 5 y.ns
   show tg (fz 5 y.ns)+27000*y.p.len≤0+27000*p.len+300
   omega
  case kids d acc p=>
   obtain⟨y,hy,hz⟩:=Ji.1 h
   have h1:tg y.ns+27000*y.p.len≤0+27000*p.len+200:=ih _ _ hy hp
   have ha:=mr acc y.ns
   show tg x.ns+27000*x.p.len≤tg acc+27000*p.len+200
   split at hz
   ·rename_i hs
    have h2:(aM y.p).2.len<y.p.len:=lH hs
    have h3:(aA (aM y.p).2).len≤(aM y.p).2.len:=cp _
    split at hz
    ·have h4:tg x.ns+27000*x.p.len≤tg (acc++y.ns)+27000*(aA (aM y.p).2).len+200:=ih _ _ hz (sm _ _ hy hp).stop.rest
     omega
    ·cases hz
     show tg (acc++y.ns)+27000*(aA (aM y.p).2).len≤_
     omega
   ·cases hz
    show tg (acc++y.ns)+27000*y.p.len≤_
    omega
  case chain d p=>
   obtain⟨y,hy,hz⟩:=Ji.1 h
   have h1:tg y.ns+27000*y.p.len≤0+27000*p.len+200:=ih _ _ hy hp
   have h2:tg x.ns+27000*x.p.len≤tg y.ns+27000*y.p.len+0:=ih _ _ hz (sm _ _ hy hp)
   show tg x.ns+27000*x.p.len≤0+27000*p.len+200
   omega
  case chainL d l p=>
   show tg x.ns+27000*x.p.len≤tg l+27000*p.len+0
   split at h
   ·rename_i hk
    obtain⟨y,hy,hz⟩:=Ji.1 h
    have h1:tg y.ns+27000*y.p.len≤0+27000*(aA (aC p)).len+200:=ih _ _ hy (SmP.rest (SmP.tail hp))
    have h2:tg x.ns+27000*x.p.len≤tg [ndK (if ai p=4 then 3 else 4) (l++y.ns)]+27000*y.p.len+0:=ih _ _ hz (sm _ _ hy (SmP.rest (SmP.tail hp)))
    have h3:(aC p).len<p.len:=dX (by rcases hk with hk|hk<;>rw[hk]<;>decide)
    have h4:(aA (aC p)).len≤(aC p).len:=cp _
    have h5:tg [ndK (if ai p=4 then 3 else 4) (l++y.ns)]=100+(tg l+tg y.ns):=by rw[fP];unfold ndK;rw[oA,mr]
    omega
   ·cases h;exact Jb _
  case pipe d p=>
   obtain⟨y,hy,rfl⟩:=Jh.1 h
   have hp2:(if aG p=dU then aC p else p).len≤p.len:=by
    split
    ·exact ey p
    ·exact Jb _
   have hps:SmP (if aG p=dU then aC p else p):=by
    split
    ·exact SmP.tail hp
    ·exact hp
   have h1:tg y.ns+27000*y.p.len≤0+27000*(if aG p=dU then aC p else p).len+100:=ih _ _ hy hps
   have h2:tg (if aG p=dU then[Nd.mk 2 true [] [] [] [] y.ns] else fz 2 y.ns)≤tg y.ns+100:=by
    split
    ·rw[fP,oA];omega
    ·exact zM 2 y.ns
   show tg (if aG p=dU then[Nd.mk 2 true [] [] [] [] y.ns] else fz 2 y.ns)+27000*y.p.len≤0+27000*p.len+200
   omega
  case pipeL d acc p=>
   obtain⟨y,hy,hz⟩:=Ji.1 h
   have h1:tg y.ns+27000*y.p.len≤0+27000*p.len+100:=ih _ _ hy hp
   have ha:=mr acc y.ns
   show tg x.ns+27000*x.p.len≤tg acc+27000*p.len+100
   split at hz
   ·rename_i hk
    have h2:tg x.ns+27000*x.p.len≤tg (acc++y.ns)+27000*(aA (aC y.p)).len+100:=ih _ _ hz (sm _ _ hy hp).tail.rest
    have h3:(aC y.p).len<y.p.len:=dX (by rw[hk];decide)
    have h4:(aA (aC y.p)).len≤(aC y.p).len:=cp _
    omega
   ·cases hz
    show tg (acc++y.ns)+27000*y.p.len≤_
    omega
  case command d p=>
   show tg x.ns+27000*x.p.len≤0+27000*p.len+100
   split at h
   ·cases h
    have h1:=qD (p.r.length+1) ⟨[],[],[]⟩ p ⟨fun x hx=>(by cases hx),fun x hx=>(by cases hx),fun x hx=>(by cases hx)⟩ hp
    have h0:cm ⟨[],[],[]⟩=0:=rfl
    have h2:tg [(bB p).1]=100+cm (aE (p.r.length+1) ⟨[],[],[]⟩ p).1:=by
     rw[fP]
     unfold bB
     simp only
     rw[lT]
     show 100+0+ca _+cw _+cr _+0=100+(ca _+cw _+cr _)
     omega
    have h3:(bB p).2.len≤(aE (p.r.length+1) ⟨[],[],[]⟩ p).2.len:=by
     unfold bB
     simp only
     split
     ·exact Nat.zero_le _
     ·exact Jb _
    show tg [(bB p).1]+27000*(bB p).2.len≤_
    omega
   ·have leaf:tg [Nd0]=100:=by rw[fP];exact oA 0 false []
    split at h
    ·cases h
     show tg [Nd0]+27000*0≤_
     omega
    ·split at h
     ·cases h
      show tg [Nd0]+27000*0≤_
      omega
     ·rename_i hr _ _
      obtain⟨y,hy,rfl⟩:=Jh.1 h
      have h1:tg y.ns+27000*y.p.len≤0+27000*(aC p).len+700:=ih _ _ hy (SmP.tail hp)
      have h2:(aC p).len<p.len:=eN hr
      have h3:=qP (y.p.r.length+1) y.p (sm _ _ hy (SmP.tail hp))
      obtain⟨nd,hn⟩:=(cC _ _ _ hy).1 trivial
      have h4:tg (y.ns.map (iq (bj y.p).1))=tg y.ns+cr (bj y.p).1:=by rw[hn];show tg [iq _ nd]=_;rw[fP,fP,CI]
      show tg (y.ns.map (iq (bj y.p).1))+27000*(bj y.p).2.len≤_
      have h5:cr (bj y.p).1+27000*(bj y.p).2.len≤27000*y.p.len:=h3
      omega
  case read d s p=>
   show tg x.ns+27000*x.p.len≤0+27000*p.len+700
   split at h
   ·exact ih _ _ h hp
   ·split at h
    ·exact ih _ _ h hp
    ·split at h
     ·exact ih _ _ h hp
     ·split at h
      ·exact ih _ _ h hp
      ·exact ih _ _ h hp
  case branches d acc p=>
   show tg x.ns+27000*x.p.len≤tg acc+27000*p.len+700
   obtain⟨y,hy,h⟩:=Ji.1 h
   obtain⟨z,hz,h⟩:=Ji.1 h
   have h1:tg y.ns+27000*y.p.len≤0+27000*p.len+300:=ih _ _ hy hp
   have h2:tg z.ns+27000*z.p.len≤0+27000*(az bN y.p).len+300:=ih _ _ hz ((sm _ _ hy hp).iS _)
   have h3:(az bN y.p).len≤y.p.len:=bX _ _
   have ha:tg (acc++y.ns++z.ns)=tg acc+tg y.ns+tg z.ns:=by rw[mr,mr]
   split at h
   ·rename_i he
    have h4:tg x.ns+27000*x.p.len≤tg (acc++y.ns++z.ns)+27000*(aC z.p).len+700:=ih _ _ h (sm _ _ hz ((sm _ _ hy hp).iS _)).tail
    have h5:(aC z.p).len<z.p.len:=eN (by rw[he];decide)
    omega
   ·split at h
    ·rename_i he
     obtain⟨u,hu,rfl⟩:=Jh.1 h
     have h4:tg u.ns+27000*u.p.len≤0+27000*(aC z.p).len+300:=ih _ _ hu (sm _ _ hz ((sm _ _ hy hp).iS _)).tail
     have h5:(aC z.p).len<z.p.len:=eN (by rw[he];decide)
     have h6:(az rFi u.p).len≤u.p.len:=bX _ _
     have h7:tg [ndK 6 (acc++y.ns++z.ns++u.ns)]=100+(tg (acc++y.ns++z.ns)+tg u.ns):=by rw[fP];unfold ndK;rw[oA,mr]
     show tg [ndK 6 (acc++y.ns++z.ns++u.ns)]+27000*(az rFi u.p).len≤_
     omega
    ·cases h
     have h6:(az rFi z.p).len≤z.p.len:=bX _ _
     have h7:tg [ndK 6 (acc++y.ns++z.ns)]=100+tg (acc++y.ns++z.ns):=by rw[fP];unfold ndK;rw[oA]
     show tg [ndK 6 (acc++y.ns++z.ns)]+27000*(az rFi z.p).len≤_
     omega
  case loop d k p=>
   show tg x.ns+27000*x.p.len≤0+27000*p.len+700
   obtain⟨y,hy,h⟩:=Ji.1 h
   obtain⟨z,hz,rfl⟩:=Jh.1 h
   have h1:tg y.ns+27000*y.p.len≤0+27000*p.len+300:=ih _ _ hy hp
   have h2:tg z.ns+27000*z.p.len≤0+27000*y.p.len+300:=ih _ _ hz (sm _ _ hy hp)
   have h7:tg [ndK k (y.ns++z.ns)]=100+(tg y.ns+tg z.ns):=by rw[fP];unfold ndK;rw[oA,mr]
   show tg [ndK k (y.ns++z.ns)]+27000*z.p.len≤_
   omega
  case body d p=>
   show tg x.ns+27000*x.p.len≤0+27000*p.len+300
   obtain⟨y,hy,rfl⟩:=Jh.1 h
   have h1:tg y.ns+27000*y.p.len≤0+27000*(az rDo p).len+300:=ih _ _ hy (SmP.iS hp _)
   have h2:(az rDo p).len≤p.len:=bX _ _
   have h3:(az bM y.p).len≤y.p.len:=bX _ _
   show tg y.ns+27000*(az bM y.p).len≤_
   omega
  case each d p=>
   show tg x.ns+27000*x.p.len≤0+27000*p.len+700
   obtain⟨y,hy,rfl⟩:=Jh.1 h
   have h1:tg y.ns+27000*y.p.len≤0+27000*(cV p).2.2.len+300:=ih _ _ hy (SmP.sub hp (vG p))
   have hq:(cg p).1.length+27000*(cg p).2.len≤27000*p.len:=by
    obtain⟨r,e⟩:=p
    unfold cg
    cases r with
    |nil=>exact Nat.zero_le _
    |cons t r=>
     simp only
     split
     ·have:=hp.2 t List.mem_cons_self
      show t.text.length+27000*r.length≤27000*(r.length+1)
      omega
     ·show 0+27000*0≤_;omega
   have hm:=(SmP.sub hp (sj p)).rest.iS rIn
   have hw:=sI ((az rIn (aA (cg p).2)).r.length+1) _ hm
   have hm1:(az rIn (aA (cg p).2)).len≤(cg p).2.len:=lt9 (bX _ _) (cp _)
   have hw':cw (cR (az rIn (aA (cg p).2))).1+27000*(cR (az rIn (aA (cg p).2))).2.len≤27000*(az rIn (aA (cg p).2)).len:=hw
   have h2:(cV p).2.2.len≤(cR (az rIn (aA (cg p).2))).2.len:=by
    rw[fA]
    exact lt9 (cp _) (tz _).length_le
   have h7:tg [Nd.mk 9 false (cV p).1 [] (cV p).2.1 [] y.ns]=100+(cg p).1.length+cw (cR (az rIn (aA (cg p).2))).1+tg y.ns:=by
    rw[fP,lT,fA]
    show 100+(cg p).1.length+0+cw (cR (az rIn (aA (cg p).2))).1+0+tg y.ns=_
    omega
   show tg [Nd.mk 9 false (cV p).1 [] (cV p).2.1 [] y.ns]+27000*y.p.len≤_
   omega
  case group d p=>
   show tg x.ns+27000*x.p.len≤0+27000*p.len+700
   obtain⟨y,hy,rfl⟩:=Jh.1 h
   have h1:tg y.ns+27000*y.p.len≤0+27000*p.len+300:=ih _ _ hy hp
   have h3:(az eO y.p).len≤y.p.len:=bX _ _
   have h7:tg [ndK 10 y.ns]=100+tg y.ns:=by rw[fP];unfold ndK;rw[oA]
   show tg [ndK 10 y.ns]+27000*(az eO y.p).len≤_
   omega
theorem jC (sep:LB):∀l:List LB,(cG sep l).length≤(l.map fun x=>x.length+sep.length).sum
 |[]=>Jb _
 |[x]=>by show x.length≤_;simp
 |x::y::l=>by
  have ih:=jC sep (y::l)
  show(x++sep++cG sep (y::l)).length≤_
  rw[Jf,Jf,List.map_cons,List.sum_cons]
  omega
theorem yN (f:LB→Nat) (a b:List LB):((a++b).map f).sum=(a.map f).sum+(b.map f).sum:=by rw[List.map_append,List.sum_append]
theorem xE (a:List (LB×LP)) (w:List LP):((cd a w).map fun x=>x.length+1).sum≤ca a+cw w:=by
 unfold cd
 rw[yN]
 have h1:((a.map fun a=>a.1++[61]++af a.2).map fun x=>x.length+1).sum=ca a:=by
  unfold ca
  rw[List.map_map]
  congr 1
  exact List.map_congr_left fun x _=>by show(x.1++[61]++af x.2).length+1=_;rw[Jf,Jf];simp;omega
 have h2:((w.map af).map fun x=>x.length+1).sum=cw w:=by
  unfold cw
  rw[List.map_map]
  rfl
 omega
theorem DH (k:Int):(dz k).length≤3:=by
 unfold dz
 split
 ·decide
 ·split
  ·decide
  ·split
   ·decide
   ·split
    ·decide
    ·split<;>decide
theorem wZ:∀(r:List (Int×LP)),((iX r).map fun x=>x.length+1).sum≤cr r
 |[]=>Jb _
 |x::r=>by
  have ih:=wZ r
  have h1:=DH x.1
  have e:cr (x::r)=(af x.2).length+4+cr r:=by rw[←List.singleton_append,tO,xN]
  show(((dz x.1++af x.2)::iX r).map fun x=>x.length+1).sum≤_
  rw[List.map_cons,List.sum_cons,Jf,e]
  omega
theorem rJ (s:List LB) (r:List (Int×LP)):(aT s r).length≤(s.map fun x=>x.length+1).sum+cr r:=by
 unfold aT
 have h1:=jC [32] (s++iX r)
 have h2:=wZ r
 rw[yN] at h1
 have h3:((s.map fun x=>x.length+[32].length).sum)=(s.map fun x=>x.length+1).sum:=rfl
 have h4:(((iX r).map fun x=>x.length+[32].length).sum)=((iX r).map fun x=>x.length+1).sum:=rfl
 omega
theorem gI (x:LB) (r:List (Int×LP)):(aT [x] r).length≤x.length+1+cr r:=by
 have:=rJ [x] r
 simp only[List.map_cons,List.map_nil,List.sum_cons,List.sum_nil] at this
 omega
theorem qW:∀(l:List LB) (f:Bool),(bK f l).length≤(l.map fun x=>x.length+14).sum
 |[],f=>Jb _
 |[x],f=>by
  show(df++[32]++x++[59,32]).length≤_
  simp[df]<;>omega
 |c::b::l,f=>by
  have ih:=qW l false
  show((if f then[] else cK++[32])++c++[59,32]++bN++[32]++b++[59,32]++bK false l).length≤_
  have h1:(if f=true then([]:LB) else cK++[32]).length≤5:=by cases f<;>decide
  have h2:bN.length=4:=rfl
  simp only[Jf,Jg,List.length_nil,List.map_cons,List.sum_cons,h2]
  omega
theorem EX (l:List LB):(k0 l).length+(k1 l).length≤(l.map fun x=>x.length+14).sum:=by
 unfold k0 k1
 match l with
 |[]=>exact Jb _
 |[x]=>simp<;>omega
 |x::y::l=>simp<;>omega
theorem kZ {sep:LB} (h:sep.length≤14) (l:List LB):(cG sep l).length≤(l.map fun x=>x.length+14).sum:=by
 refine lt9 (jC sep l) ?_
 induction l with
 |nil=>exact Jb _
 |cons x l ih=>rw[List.map_cons,List.map_cons,List.sum_cons,List.sum_cons];omega
theorem Ak (k:Int) (b:Bool) (s:LB) (a:List (LB×LP)) (w:List LP) (r:List (Int×LP)) (l:List Nd) (ks:List LB):(gK (.mk k b s a w r l) ks).length≤80+s.length+ca a+cw w+cr r+(ks.map fun x=>x.length+14).sum:=by
 have hk:=EX ks
 have hws:=xE a w
 show(if k=1 then aT (cd a w) r else _:LB).length≤_
 split
 ·have:=rJ (cd a w) r;omega
 ·split
  ·have:=kZ (sep:=[32,124,32]) (by decide) ks
   rw[Jf]
   have h2:(if b=true then([33,32]:LB) else[]).length≤2:=by cases b<;>decide
   omega
  ·split
   ·have:=kZ (sep:=[32,38,38,32]) (by decide) ks;omega
   ·split
    ·have:=kZ (sep:=[32,124,124,32]) (by decide) ks;omega
    ·split
     ·have:=kZ (sep:=[59,32]) (by decide) ks;omega
     ·split
      ·have h1:=gI (rIf++[32]++bK true ks++rFi) r
       have h2:=qW ks true
       simp only[Jf,Jg,List.length_nil,show rIf.length=2 from rfl,show rFi.length=2 from rfl] at h1
       omega
      ·split
       ·have h1:=gI (dE++[32]++k0 ks++[59,32]++rDo++[32]++k1 ks++[59,32]++bM) r
        simp only[Jf,Jg,List.length_nil,show dE.length=5 from rfl,show rDo.length=2 from rfl,show bM.length=4 from rfl] at h1
        omega
       ·split
        ·have h1:=gI (dI++[32]++k0 ks++[59,32]++rDo++[32]++k1 ks++[59,32]++bM) r
         simp only[Jf,Jg,List.length_nil,show dI.length=5 from rfl,show rDo.length=2 from rfl,show bM.length=4 from rfl] at h1
         omega
        ·split
         ·have h1:=gI (cG [32] ((fh++[32]++s++[32]++rIn)::cd a w)++[59,32]++rDo++[32]++k0 ks++[59,32]++bM) r
          have h2:(cG [32] ((fh++[32]++s++[32]++rIn)::cd a w)).length≤(fh++[32]++s++[32]++rIn).length+1+((cd a w).map fun x=>x.length+1).sum:=by
           have h2:=jC [32] ((fh++[32]++s++[32]++rIn)::cd a w)
           rw[List.map_cons,List.sum_cons] at h2
           exact h2
          simp only[Jf,Jg,List.length_nil,show fh.length=3 from rfl,show rIn.length=2 from rfl,show rDo.length=2 from rfl,show bM.length=4 from rfl] at h1 h2
          omega
         ·have h1:=gI ([123,32]++k0 ks++[59,32,125]) r
          simp only[Jf,Jg,List.length_nil] at h1
          omega
theorem um:∀(N:Nat) (n:Nd),szN n≤N→(aK n).length+14≤tb n
 |0,n,h=>by obtain⟨k,b,s,a,w,r,l⟩:=n;rw[dm] at h;omega
 |N+1,.mk k b s a w r l,h=>by
  rw[dm] at h
  have e:aK (.mk k b s a w r l)=gK (.mk k b s a w r l) (l.map aK):=rj _
  have h1:=Ak k b s a w r l (l.map aK)
  have key:∀l:List Nd,sg l≤N→((l.map aK).map fun x=>x.length+14).sum≤tg l:=by
   intro l
   induction l with
   |nil=>intro _;exact Jb _
   |cons x l ih=>
    intro hl
    have e:sg (x::l)=szN x+sg l:=by unfold sg;simp
    have e2:tg (x::l)=tb x+tg l:=by unfold tg;simp
    have i1:=ih (by omega)
    have i2:=um N x (by omega)
    rw[List.map_cons,List.map_cons,List.sum_cons,e2]
    omega
  have h2:=key l (by omega)
  rw[e,lT]
  omega
theorem CT {n:Nat} {j:Job} {x:Rd9} {nd:Nd} (h:run n j=some x) (hp:SmP j.p) (hj:j.has=[]) (hn:x.ns=[nd]):SmN nd:=by
 have h1:=(BS n j x h hp (fun nd hm=>by rw[hj] at hm;cases hm)).2 nd (by rw[hn];exact List.mem_cons_self)
 have h2:=CS n j x h
 have h3:=CQ n j x h hp
 have hx:j.extra≤14:=by cases j<;>simp[Job.extra]
 rw[hn,hj,iP] at h2
 rw[hn,hj,fP] at h3
 have h4:=hp.1
 have hpl:j.p.len≤2048:=h4
 have e0:sg []=0:=rfl
 have e1:tg []=0:=rfl
 have h5:=um _ nd (Jb _)
 have h6:=(tX _ nd (Jb _)).1
 exact⟨by omega,by omega,Cs h1 (by omega),fun _ _=>by omega⟩
theorem gO {α:Type} (k:Nat) (x t:List α) (h:k≤x.length):(x++t).take k=x.take k:=List.take_append_of_le_length h
theorem qm {c:UInt8}:∀{x t y:LB},dr c (x++t)= .ok (y++t)→dr c x= .ok y
 |[],t,y,h=>by
  rw[List.nil_append] at h
  cases t with
  |nil=>cases h
  |cons d t=>
   unfold dr at h
   split at h
   ·have:=congrArg List.length (Except.ok.inj h);simp at this;omega
   ·have:=(lj h).len;simp at this;omega
 |d::x,t,y,h=>by
  rw[List.cons_append] at h
  unfold dr at h⊢
  split at h
  ·rename_i e
   rw[if_pos e,List.append_cancel_right (Except.ok.inj h)]
  ·rename_i e
   rw[if_neg e]
   exact qm h
theorem Am:∀{x t y:LB},fM (x++t)= .ok (y++t)→fM x= .ok y
 |[],t,y,h=>by
  have:=(ry h)
  rw[List.nil_append] at h
  cases t with
  |nil=>cases h
  |cons d t=>
   unfold fM at h
   simp only at h
   split at h
   ·cases h
   ·have:=congrArg List.length (Except.ok.inj h);simp at this;omega
 |d::x,t,y,h=>by
  rw[List.cons_append] at h
  unfold fM at h⊢
  simp only at h⊢
  split at h
  ·cases h
  ·rename_i e
   rw[if_neg e,List.append_cancel_right (Except.ok.inj h)]
theorem jP:∀{x t y:LB} {o:Nat},bL o (x++t)= .ok (y++t)→bL o x= .ok y
 |[],t,y,o,h=>by
  rw[List.nil_append] at h
  cases t with
  |nil=>cases h
  |cons c t=>
   unfold bL at h
   split at h
   ·have:=congrArg List.length (Except.ok.inj h);simp at this;omega
   ·split at h
    ·have:=(eM h).len;simp at this;omega
    ·split at h
     ·have:=(eM h).len;simp at this;omega
     ·split at h
      ·cases h
      ·have:=(eM h).len;simp at this;omega
 |c::x,t,y,o,h=>by
  rw[List.cons_append] at h
  unfold bL at h⊢
  split at h
  ·rename_i e
   have hl:=congrArg List.length (Except.ok.inj h)
   simp at hl
   have hx:1≤x.length:=by
    have:=congrArg List.length e.2
    simp at this
    omega
   rw[←List.cons_append,gO 2 (c::x) t (by simp;omega)] at e
   rw[if_pos e]
   rw[List.drop_append_of_le_length hx] at h
   rw[List.append_cancel_right (Except.ok.inj h)]
  ·rename_i e
   have e':¬(o=0∧(c::x).take 2=[41,41]):=fun h2=>e ⟨h2.1,by
    have hx:2≤(c::x).length:=take_len h2.2 rfl
    rw[←List.cons_append,gO 2 (c::x) t hx];exact h2.2⟩
   rw[if_neg e']
   split at h
   ·rename_i e1
    rw[if_pos e1];exact jP h
   ·rename_i e1
    rw[if_neg e1]
    split at h
    ·rename_i e2
     rw[if_pos e2];exact jP h
    ·rename_i e2
     rw[if_neg e2]
     split at h
     ·cases h
     ·rename_i e3
      rw[if_neg e3];exact jP h
theorem qy:∀{first:Bool} {x t y:LB},dq first (x++t)=y++t→dq first x=y
 |first,[],t,y,h=>by
  have:=(lE (first:=first) (r:=t)).len
  rw[List.nil_append] at h
  rw[h] at this
  simp at this
  have hy:y=[]:=List.length_eq_zero_iff.1 (by omega)
  rw[hy]
  rfl
 |first,c::x,t,y,h=>by
  rw[List.cons_append] at h
  unfold dq at h⊢
  split at h
  ·rename_i e
   rw[if_pos e];exact qy h
  ·rename_i e
   rw[if_neg e]
   rw[←List.cons_append] at h
   exact List.append_cancel_right h
theorem oo {x t r:LB} (h:Tl (x++t) r) (hl:t.length≤r.length):∃z,r=z++t:=by
 obtain⟨k,hk,rfl⟩:=h
 rw[List.length_drop,Jf] at hl
 exact⟨x.drop k,List.drop_append_of_le_length (by rw[Jf] at hk;omega)⟩
theorem uf {k:Nat} {x t w:LB} (hx:k≤x.length) (e:(x++t).take k=w):x.take k=w:=by
 rw[gO k x t hx] at e;exact e
theorem py {k:Nat} {x t w:LB} (e:¬(x++t).take k=w) (hw:w.length=k):¬x.take k=w:=fun h=>e (by
 rw[gO k x t (take_len h hw)];exact h)
theorem gF:∀(n:Nat) (m:Md) (d:Nat) {x t y:LB},scan n m d (x++t)= .ok (y++t)→scan n m d x= .ok y
 |0,m,d,x,t,y,h=>by unfold scan at h;cases h
 |n+1,.piece q,d,[],t,y,h=>by
  rw[List.nil_append] at h
  cases t with
  |nil=>unfold scan at h;cases h
  |cons c t=>have:=(dy h).len;simp at this;omega
 |n+1,.piece q,d,c::x,t,y,h=>by
  rw[List.cons_append] at h
  unfold scan at h⊢
  simp only at h⊢
  split at h
  ·rename_i e;rw[if_pos e];exact Am h
  ·rename_i e;rw[if_neg e]
   split at h
   ·rename_i e;rw[if_pos e];exact qm h
   ·rename_i e;rw[if_neg e]
    split at h
    ·rename_i e;rw[if_pos e]
     split at h
     ·cases h
     ·rename_i e;rw[if_neg e];exact gF n _ _ h
    ·rename_i e;rw[if_neg e]
     split at h
     ·rename_i e;rw[if_pos e]
      split at h
      ·rename_i e
       have hl:=(eM h).len
       have h2:2≤(x++t).length:=take_len e rfl
       simp at hl h2
       have hx:2≤x.length:=by omega
       rw[if_pos (uf hx e)]
       rw[List.drop_append_of_le_length hx] at h
       exact jP h
      ·rename_i e
       rw[if_neg (py e rfl)]
       split at h
       ·cases h
       ·rename_i e
        rw[if_neg (py e rfl)]
        split at h
        ·rename_i e
         split at h
         ·cases h
         ·rename_i e2
          have hl:=(cI n _ _ h).len
          have h2:1≤(x++t).length:=take_len e rfl
          simp at hl h2
          have hx:1≤x.length:=by omega
          rw[if_pos (uf hx e),if_neg e2]
          rw[List.drop_append_of_le_length hx] at h
          exact gF n _ _ h
        ·rename_i e
         rw[if_neg (py e rfl)]
         split at h
         ·rename_i e
          have hl:=congrArg List.length (Except.ok.inj h)
          have h2:1≤(x++t).length:=take_len e rfl
          simp at hl h2
          have hx:1≤x.length:=by omega
          rw[if_pos (uf hx e)]
          rw[List.drop_append_of_le_length hx] at h
          rw[List.append_cancel_right (Except.ok.inj h)]
         ·rename_i e
          rw[if_neg (py e rfl)]
          rw[qy (Except.ok.inj h)]
     ·rename_i e;rw[if_neg e]
      split at h
      ·cases h
      ·rename_i e;rw[if_neg e]
       rw[List.append_cancel_right (Except.ok.inj h)]
 |n+1,.double,d,[],t,y,h=>by
  rw[List.nil_append] at h
  cases t with
  |nil=>unfold scan at h;cases h
  |cons c t=>
   unfold scan at h
   simp only at h
   split at h
   ·have:=congrArg List.length (Except.ok.inj h);simp at this;omega
   ·split at h
    ·cases h
    ·rename_i r1 h1
     have a:=(dy h1).len
     have b:=(cI n _ _ h).len
     simp at b;omega
 |n+1,.double,d,c::x,t,y,h=>by
  rw[List.cons_append] at h
  unfold scan at h⊢
  simp only at h⊢
  split at h
  ·rename_i e;rw[if_pos e,List.append_cancel_right (Except.ok.inj h)]
  ·rename_i e;rw[if_neg e]
   split at h
   ·cases h
   ·rename_i r1 h1
    have b:=(cI n _ _ h).len
    obtain⟨z,rfl⟩:=oo (x:=c::x) (cI n _ _ h1) (by simp at b;omega)
    rw[gF n (.piece true) d (x:=c::x) h1]
    exact gF n .double d h
 |n+1,.brace,d,[],t,y,h=>by
  rw[List.nil_append] at h
  cases t with
  |nil=>unfold scan at h;cases h
  |cons c t=>
   unfold scan at h
   simp only at h
   split at h
   ·have:=congrArg List.length (Except.ok.inj h);simp at this;omega
   ·split at h
    ·cases h
    ·split at h
     ·have:=(cI n _ _ h).len;simp at this;omega
     ·split at h
      ·cases h
      ·rename_i r1 h1
       have a:=(dy h1).len
       have b:=(cI n _ _ h).len
       simp at b;omega
 |n+1,.brace,d,c::x,t,y,h=>by
  rw[List.cons_append] at h
  unfold scan at h⊢
  simp only at h⊢
  split at h
  ·rename_i e;rw[if_pos e,List.append_cancel_right (Except.ok.inj h)]
  ·rename_i e;rw[if_neg e]
   split at h
   ·cases h
   ·rename_i e;rw[if_neg e]
    split at h
    ·rename_i e;rw[if_pos e];exact gF n .brace d h
    ·rename_i e;rw[if_neg e]
     split at h
     ·cases h
     ·rename_i r1 h1
      have b:=(cI n _ _ h).len
      obtain⟨z,rfl⟩:=oo (x:=c::x) (cI n _ _ h1) (by simp at b;omega)
      rw[gF n (.piece false) d (x:=c::x) h1]
      exact gF n .brace d h
theorem Aj {x t y:LB} (h:fj false 0 (x++t)= .ok (y++t)):fj false 0 x= .ok y:=by
 unfold fj at h⊢
 have h1:=gF _ _ _ h
 rw[show dj (.piece false) (x++t).length=dj (.piece false) x.length+2*t.length by unfold dj;simp;omega,r8 _ _ _ _ _ (Jb _)] at h1
 exact h1
theorem r7:∀(n:Nat) {x t y:LB},bJ n (x++t)= .ok (y++t)→bJ n x= .ok y
 |0,x,t,y,h=>by cases h
 |n+1,[],t,y,h=>by
  rw[List.nil_append] at h
  have hy:y.length=0:=by
   have:=(ix (n+1) h).len;simp at this;omega
  rw[List.length_eq_zero_iff.1 hy]
  rfl
 |n+1,c::x,t,y,h=>by
  rw[List.cons_append] at h
  unfold bJ at h⊢
  split at h
  ·rename_i e
   rw[if_pos e]
   rw[←List.cons_append] at h
   rw[List.append_cancel_right (Except.ok.inj h)]
  ·rename_i e
   rw[if_neg e]
   split at h
   ·cases h
   ·rename_i r1 h1
    have b:=(ix n h).len
    obtain⟨z,rfl⟩:=oo (x:=c::x) (cI _ _ _ h1) (by simp at b;omega)
    rw[Aj (x:=c::x) h1]
    exact r7 n h
def sE (x:LB):Prop:=bJ (x.length+1) x= .ok []
theorem rp {c:UInt8} {x:LB} (h:sE (c::x)):fR c=false:=by
 cases e:fR c with
 |false=>rfl
 |true=>
  unfold sE at h
  rw[Jg,qT e] at h
  cases h
theorem zS {x t:LB} (h:bU (x++t)=none):bU x=none:=by
 unfold bU at h⊢
 rw[List.find?_eq_none] at h⊢
 intro o ho hx
 refine h o ho ?_
 simp only[beq_iff_eq] at hx⊢
 rw[gO _ x t (take_len hx rfl)]
 exact hx
end Go.Proofs.YtgigdlhcjahejaaGreatDoor
