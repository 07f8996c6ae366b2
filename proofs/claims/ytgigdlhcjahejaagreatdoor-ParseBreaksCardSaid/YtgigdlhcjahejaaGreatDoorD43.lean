/- Of the proof of ParseBreaks: ParX. -/
import Derived.Test.YtgigdlhcjahejaaGreatDoorD42
namespace Go.Proofs.YtgigdlhcjahejaaGreatDoor
open Go Go.RowKit Go.Lw
set_option linter.unusedVariables false
set_option linter.unusedSimpArgs false
def ca (l:List (List UInt8×List Prt)):Nat:=(l.map fun a=>a.1.length+(aA a.2).length+2).sum
def cw (l:List (List Prt)):Nat:=(l.map fun w=>(aA w).length+1).sum
def cr (l:List (Int×List Prt)):Nat:=(l.map fun r=>(aA r.2).length+4).sum
theorem DC (a b:List (List UInt8×List Prt)):ca (a++b)=ca a+ca b:=by unfold ca;rw[List.map_append,List.sum_append]
theorem Bt (a b:List (List Prt)):cw (a++b)=cw a+cw b:=by unfold cw;rw[List.map_append,List.sum_append]
theorem sl (a b:List (Int×List Prt)):cr (a++b)=cr a+cr b:=by unfold cr;rw[List.map_append,List.sum_append]
theorem Dr (a:List UInt8×List Prt):ca [a]=a.1.length+(aA a.2).length+2:=by unfold ca;simp
theorem A9 (a:List Prt):cw [a]=(aA a).length+1:=by unfold cw;simp
theorem uN (a:Int×List Prt):cr [a]=(aA a.2).length+4:=by unfold cr;simp
def tb:Nd→Nat
 |.mk k b s a w r l=>100+s.length+ca a+cw w+cr r+tbs l
where tbs:List Nd→Nat
 |[]=>0
 |n::l=>tb n+tbs l
def tg (l:List Nd):Nat:=(l.map tb).sum
theorem z7:∀l:List Nd,tb.tbs l=tg l
 |[]=>by rw[tb.tbs];rfl
 |n::l=>by rw[tb.tbs,z7 l];unfold tg;simp
theorem mJ (k:Int) (b:Bool) (s:List UInt8) (a:List (List UInt8×List Prt)) (w:List (List Prt)) (r:List (Int×List Prt)) (l:List Nd):tb (.mk k b s a w r l)=100+s.length+ca a+cw w+cr r+tg l:=by rw[tb,z7]
theorem ny (k:Int) (b:Bool) (l:List Nd):tb (.mk k b [] [] [] [] l)=100+tg l:=by rw[mJ];rfl
theorem kL (a b:List Nd):tg (a++b)=tg a+tg b:=by unfold tg;rw[List.map_append,List.sum_append]
theorem fm (n:Nd):tg [n]=tb n:=by unfold tg;simp
theorem wO (k:Int) (l:List Nd):tg (ez k l)≤tg l+100:=by
 unfold ez
 split
 ·omega
 ·rw[fm];unfold ndK;rw[ny];omega
theorem xi {p:Ps} (h:SmP p) (hk:af p=1):(aA (aL p).1).length+27000*(aL p).2.len+2424≤27000*p.len:=by
 have h1:=h.word.2
 have h2:=ep hk
 omega
theorem tH {p p':Ps} {x:Int×List Prt} (h:SmP p) (hr:aT p=some (x,p')):(aA x.2).length+27000*p'.len+2424≤27000*p.len:=by
 have h1:=(h.i6 hr).2
 have h2:p'.len<p.len:=dg hr
 omega
theorem oK:∀(n:Nat) (p:Ps),SmP p→cr (aZ n p).1+27000*(aZ n p).2.len≤27000*p.len
 |0,p,h=>by show 0+_≤_;rw[Nat.zero_add];exact Nat.le_refl _
 |n+1,p,h=>by
  unfold aZ
  split
  ·show 0+_≤_;rw[Nat.zero_add];exact Nat.le_refl _
  ·rename_i x p' hr
   have h1:=tH h hr
   have h2:=oK n p' (h.i6 hr).1
   have e:cr (x::(aZ n p').1)=(aA x.2).length+4+cr (aZ n p').1:=by rw[←List.singleton_append,sl,uN]
   show cr (x::(aZ n p').1)+27000*(aZ n p').2.len≤_
   omega
theorem qL:∀(n:Nat) (p:Ps),SmP p→cw (bm n p).1+27000*(bm n p).2.len≤27000*p.len
 |0,p,h=>by show 0+_≤_;rw[Nat.zero_add];exact Nat.le_refl _
 |n+1,p,h=>by
  unfold bm
  split
  ·rename_i hk
   have h1:=xi h hk
   have h2:=qL n _ h.word.1
   have e:cw ((aL p).1::(bm n (aL p).2).1)=(aA (aL p).1).length+1+cw (bm n (aL p).2).1:=by rw[←List.singleton_append,Bt,A9]
   show cw ((aL p).1::(bm n (aL p).2).1)+27000*(bm n (aL p).2).2.len≤_
   omega
  ·show 0+_≤_;rw[Nat.zero_add];exact Nat.le_refl _
def cm (m:Sm):Nat:=ca m.al+cw m.ws+cr m.rs
theorem vB {m:Sm} {p:Ps} {x:Sm×Ps} (h:aQ m p=some x) (hp:SmP p):cm x.1+27000*x.2.len≤cm m+27000*p.len:=by
 have hl:=dF h
 unfold aQ at h
 split at h
 ·rename_i y p' e
  cases h
  have h1:=tH hp e
  show ca m.al+cw m.ws+cr (m.rs++[y])+27000*p'.len≤ca m.al+cw m.ws+cr m.rs+_
  rw[sl,uN]
  omega
 ·split at h
  ·cases h
  ·rename_i t r e
   have htx:t.text.length≤2048:=hp.2 t (by rw[e];exact List.mem_cons_self)
   split at h
   ·rename_i hk
    split at h
    ·cases h
     have hl':r.length<p.len:=hl
     have ha:((bB t.text).getD ([],[])).1.length+(aA ((bB t.text).getD ([],[])).2).length≤26624:=by
      cases ea:bB t.text with
      |none=>show 0+(aA []).length≤_;rw[eR];decide
      |some a=>
       have:=nt ea
       show a.1.length+(aA a.2).length≤_
       omega
     show ca (m.al++[(bB t.text).getD ([],[])])+cw m.ws+cr m.rs+27000*r.length≤ca m.al+cw m.ws+cr m.rs+_
     rw[DC,Dr]
     omega
    ·split at h
     ·cases h
      show ca m.al+cw m.ws+cr m.rs+27000*0≤ca m.al+cw m.ws+cr m.rs+_
      omega
     ·cases h
      have h1:=xi hp (by unfold af;rw[e];exact hk)
      show ca m.al+cw (m.ws++[(aL p).1])+cr m.rs+27000*(aL p).2.len≤ca m.al+cw m.ws+cr m.rs+_
      rw[Bt,A9]
      omega
   ·cases h
theorem pO:∀(n:Nat) (m:Sm) (p:Ps),tG m→SmP p→cm (aD n m p).1+27000*(aD n m p).2.len≤cm m+27000*p.len
 |0,m,p,_,h=>Nat.le_refl _
 |n+1,m,p,hm,h=>by
  unfold aD
  split
  ·exact Nat.le_refl _
  ·rename_i x hx
   obtain⟨a1,a2,a3⟩:=qe hx hm h
   have h1:=vB hx h
   have h2:=pO n x.1 x.2 a1 a2
   omega
theorem Aq (rs:List (Int×List Prt)) (n:Nd):tb (fM rs n)=tb n+cr rs:=by
 obtain⟨k,b,s,a,w,r,l⟩:=n
 rw[oo,mJ,mJ,sl];omega
theorem eU (p:Ps):(aC p).r.Sublist p.r:=List.tail_sublist _
theorem iq (p:Ps):(az p).r.Sublist p.r:=List.dropWhile_sublist _
theorem tT (p:Ps):(aE p).2.r.Sublist p.r:=by
 unfold aE
 split
 ·exact eU p
 ·exact List.Sublist.refl _
theorem gF (s:List UInt8) (p:Ps):(ay s p).r.Sublist p.r:=by
 unfold ay
 split
 ·exact eU p
 ·exact List.nil_sublist _
theorem qO {p p':Ps} {x:Int×List Prt} (hr:aT p=some (x,p')):p'.r.Sublist p.r:=by
 unfold aT at hr
 split at hr
 ·cases hr
 ·cases hr
  exact(iK _).1.trans (eU p)
theorem nf:∀(n:Nat) (p:Ps),(aZ n p).2.r.Sublist p.r
 |0,p=>List.Sublist.refl _
 |n+1,p=>by
  unfold aZ
  split
  ·exact List.Sublist.refl _
  ·rename_i x p' hr
   exact(nf n p').trans (qO hr)
theorem vg (p:Ps):(aY p).2.r.Sublist p.r:=nf _ _
theorem uH {m:Sm} {p:Ps} {x:Sm×Ps} (h:aQ m p=some x):x.2.r.Sublist p.r:=by
 unfold aQ at h
 split at h
 ·rename_i y p' e
  cases h
  exact qO e
 ·split at h
  ·cases h
  ·rename_i t r e
   split at h
   ·split at h
    ·cases h
     show r.Sublist p.r
     rw[e];exact List.sublist_cons_self t r
    ·split at h
     ·cases h;exact List.nil_sublist _
     ·cases h;exact(iK _).1
   ·cases h
theorem mW:∀(n:Nat) (m:Sm) (p:Ps),(aD n m p).2.r.Sublist p.r
 |0,m,p=>List.Sublist.refl _
 |n+1,m,p=>by
  unfold aD
  split
  ·exact List.Sublist.refl _
  ·rename_i x hx
   exact(mW n x.1 x.2).trans (uH hx)
theorem uM (p:Ps):(aV p).2.r.Sublist p.r:=by
 unfold aV
 simp only
 split
 ·exact List.nil_sublist _
 ·exact mW _ _ _
theorem pZ:∀(n:Nat) (p:Ps),(bm n p).2.r.Sublist p.r
 |0,p=>List.Sublist.refl _
 |n+1,p=>by
  unfold bm
  split
  ·exact(pZ n _).trans (iK p).1
  ·exact List.Sublist.refl _
theorem qp (p:Ps):(bp p).2.r.Sublist p.r:=by
 obtain⟨r,e⟩:=p
 unfold bp
 cases r with
 |nil=>exact List.nil_sublist _
 |cons t r=>
  simp only
  split
  ·exact List.sublist_cons_self t r
  ·exact List.nil_sublist _
theorem qR (p:Ps):(dx p).r.Sublist p.r:=by
 unfold dx
 split
 ·exact tT p
 ·exact List.nil_sublist _
theorem sS (p:Ps):(bR p).2.2.r.Sublist p.r:=by
 rw[dV]
 exact(iq _).trans ((qR _).trans ((pZ _ _).trans ((gF _ _).trans ((iq _).trans (qp p)))))
theorem xJ:∀(n:Nat) (j:Job) (x:Rd9),run n j=some x→x.p.r.Sublist j.p.r
 |0,_,_,h=>by cases h
 |n+1,j,x,h=>by
  have ih:=xJ n
  cases j<;>unfold run at h
  case block d p=>
   obtain⟨y,hy,rfl⟩:=Option.map_eq_some_iff.1 h
   have h1:=ih _ _ hy
   show(if _ then _ else _:Ps).r.Sublist p.r
   split
   ·exact List.Sublist.trans h1 (iq p)
   ·exact List.nil_sublist _
  case list d p=>
   obtain⟨y,hy,rfl⟩:=Option.map_eq_some_iff.1 h
   have h1:=ih _ _ hy
   exact h1
  case kids d acc p=>
   obtain⟨y,hy,hz⟩:=Option.bind_eq_some_iff.1 h
   have h1:(y.p).r.Sublist p.r:=ih _ _ hy
   have h2:((az (aE y.p).2)).r.Sublist p.r:=List.Sublist.trans (iq _) (List.Sublist.trans (tT _) h1)
   split at hz
   ·split at hz
    ·have h3:=ih _ _ hz
     exact List.Sublist.trans h3 h2
    ·cases hz;exact h2
   ·cases hz;exact h1
  case chain d p=>
   obtain⟨y,hy,hz⟩:=Option.bind_eq_some_iff.1 h
   have h1:=ih _ _ hy
   have h2:=ih _ _ hz
   exact List.Sublist.trans h2 h1
  case chainL d l p=>
   split at h
   ·obtain⟨y,hy,hz⟩:=Option.bind_eq_some_iff.1 h
    have h1:=ih _ _ hy
    have h2:=ih _ _ hz
    exact List.Sublist.trans h2 (List.Sublist.trans h1 (List.Sublist.trans (iq _) (eU p)))
   ·cases h;exact List.Sublist.refl _
  case pipe d p=>
   obtain⟨y,hy,rfl⟩:=Option.map_eq_some_iff.1 h
   have h1:=ih _ _ hy
   refine List.Sublist.trans h1 ?_
   show(if _ then _ else _:Ps).r.Sublist p.r
   split
   ·exact eU p
   ·exact List.Sublist.refl _
  case pipeL d acc p=>
   obtain⟨y,hy,hz⟩:=Option.bind_eq_some_iff.1 h
   have h1:(y.p).r.Sublist p.r:=ih _ _ hy
   split at hz
   ·have h3:=ih _ _ hz
    exact List.Sublist.trans h3 (List.Sublist.trans (iq _) (List.Sublist.trans (eU _) h1))
   ·cases hz;exact h1
  case command d p=>
   split at h
   ·cases h;exact uM p
   ·split at h
    ·cases h;exact List.nil_sublist _
    ·split at h
     ·cases h;exact List.nil_sublist _
     ·obtain⟨y,hy,rfl⟩:=Option.map_eq_some_iff.1 h
      have h1:=ih _ _ hy
      exact List.Sublist.trans (vg _) (List.Sublist.trans h1 (eU p))
  case read d s p=>
   split at h
   ·have h1:=ih _ _ h
    exact h1
   ·split at h
    ·have h1:=ih _ _ h
     exact h1
    ·split at h
     ·have h1:=ih _ _ h
      exact h1
     ·split at h
      ·have h1:=ih _ _ h
       exact h1
      ·have h1:=ih _ _ h
       exact h1
  case branches d acc p=>
   obtain⟨y,hy,h⟩:=Option.bind_eq_some_iff.1 h
   obtain⟨z,hz,h⟩:=Option.bind_eq_some_iff.1 h
   have h7:=ih _ _ hy
   have h8:=ih _ _ hz
   have h1:(z.p).r.Sublist p.r:=List.Sublist.trans h8 (List.Sublist.trans (gF _ _) h7)
   split at h
   ·have h9:=ih _ _ h
    exact List.Sublist.trans h9 (List.Sublist.trans (eU _) h1)
   ·split at h
    ·obtain⟨u,hu,rfl⟩:=Option.map_eq_some_iff.1 h
     have h9:=ih _ _ hu
     exact List.Sublist.trans (gF _ _) (List.Sublist.trans h9 (List.Sublist.trans (eU _) h1))
    ·cases h;exact List.Sublist.trans (gF _ _) h1
  case loop d k p=>
   obtain⟨y,hy,h⟩:=Option.bind_eq_some_iff.1 h
   obtain⟨z,hz,rfl⟩:=Option.map_eq_some_iff.1 h
   have h1:=ih _ _ hy
   have h2:=ih _ _ hz
   exact List.Sublist.trans h2 h1
  case body d p=>
   obtain⟨y,hy,rfl⟩:=Option.map_eq_some_iff.1 h
   have h1:=ih _ _ hy
   exact List.Sublist.trans (gF _ _) (List.Sublist.trans h1 (gF _ _))
  case each d p=>
   obtain⟨y,hy,rfl⟩:=Option.map_eq_some_iff.1 h
   have h1:=ih _ _ hy
   exact List.Sublist.trans h1 (sS p)
  case group d p=>
   obtain⟨y,hy,rfl⟩:=Option.map_eq_some_iff.1 h
   have h1:=ih _ _ hy
   exact List.Sublist.trans (gF _ _) h1
theorem AO:∀(n:Nat) (j:Job) (x:Rd9),run n j=some x→SmP j.p→tg x.ns+27000*x.p.len≤tg j.has+27000*j.p.len+50*j.extra
 |0,_,_,h,_=>by cases h
 |n+1,j,x,h,hp=>by
  have ih:=AO n
  have sm:∀(j:Job) (y:Rd9),run n j=some y→SmP j.p→SmP y.p:=fun j y h1 h2=>h2.sub (xJ n j y h1)
  cases j<;>unfold run at h
  case block d p=>
   obtain⟨y,hy,rfl⟩:=Option.map_eq_some_iff.1 h
   have h1:=ih _ _ hy (SmP.rest hp)
   have h2:(az p).len≤p.len:=cd p
   have h3:(if y.st then y.p else aX y.p 5).len≤y.p.len:=by
    split
    ·exact Nat.le_refl _
    ·exact Nat.zero_le _
   have h1':tg y.ns+27000*y.p.len≤0+27000*(az p).len+300:=h1
   show tg y.ns+27000*(if y.st then y.p else aX y.p 5).len≤0+27000*p.len+300
   omega
  case list d p=>
   obtain⟨y,hy,rfl⟩:=Option.map_eq_some_iff.1 h
   have h1:tg y.ns+27000*y.p.len≤0+27000*p.len+200:=ih _ _ hy hp
   have h2:=wO 5 y.ns
   show tg (ez 5 y.ns)+27000*y.p.len≤0+27000*p.len+300
   omega
  case kids d acc p=>
   obtain⟨y,hy,hz⟩:=Option.bind_eq_some_iff.1 h
   have h1:tg y.ns+27000*y.p.len≤0+27000*p.len+200:=ih _ _ hy hp
   have ha:=kL acc y.ns
   show tg x.ns+27000*x.p.len≤tg acc+27000*p.len+200
   split at hz
   ·rename_i hs
    have h2:(aE y.p).2.len<y.p.len:=jK hs
    have h3:(az (aE y.p).2).len≤(aE y.p).2.len:=cd _
    split at hz
    ·have h4:tg x.ns+27000*x.p.len≤tg (acc++y.ns)+27000*(az (aE y.p).2).len+200:=ih _ _ hz (sm _ _ hy hp).stop.rest
     omega
    ·cases hz
     show tg (acc++y.ns)+27000*(az (aE y.p).2).len≤_
     omega
   ·cases hz
    show tg (acc++y.ns)+27000*y.p.len≤_
    omega
  case chain d p=>
   obtain⟨y,hy,hz⟩:=Option.bind_eq_some_iff.1 h
   have h1:tg y.ns+27000*y.p.len≤0+27000*p.len+200:=ih _ _ hy hp
   have h2:tg x.ns+27000*x.p.len≤tg y.ns+27000*y.p.len+0:=ih _ _ hz (sm _ _ hy hp)
   show tg x.ns+27000*x.p.len≤0+27000*p.len+200
   omega
  case chainL d l p=>
   show tg x.ns+27000*x.p.len≤tg l+27000*p.len+0
   split at h
   ·rename_i hk
    obtain⟨y,hy,hz⟩:=Option.bind_eq_some_iff.1 h
    have h1:tg y.ns+27000*y.p.len≤0+27000*(az (aC p)).len+200:=ih _ _ hy (SmP.rest (SmP.tail hp))
    have h2:tg x.ns+27000*x.p.len≤tg [ndK (if af p=4 then 3 else 4) (l++y.ns)]+27000*y.p.len+0:=ih _ _ hz (sm _ _ hy (SmP.rest (SmP.tail hp)))
    have h3:(aC p).len<p.len:=dI (by rcases hk with hk|hk<;>rw[hk]<;>decide)
    have h4:(az (aC p)).len≤(aC p).len:=cd _
    have h5:tg [ndK (if af p=4 then 3 else 4) (l++y.ns)]=100+(tg l+tg y.ns):=by rw[fm];unfold ndK;rw[ny,kL]
    omega
   ·cases h;exact Nat.le_refl _
  case pipe d p=>
   obtain⟨y,hy,rfl⟩:=Option.map_eq_some_iff.1 h
   have hp2:(if aG p=eD then aC p else p).len≤p.len:=by
    split
    ·exact ee p
    ·exact Nat.le_refl _
   have hps:SmP (if aG p=eD then aC p else p):=by
    split
    ·exact SmP.tail hp
    ·exact hp
   have h1:tg y.ns+27000*y.p.len≤0+27000*(if aG p=eD then aC p else p).len+100:=ih _ _ hy hps
   have h2:tg (if aG p=eD then[Nd.mk 2 true [] [] [] [] y.ns] else ez 2 y.ns)≤tg y.ns+100:=by
    split
    ·rw[fm,ny];omega
    ·exact wO 2 y.ns
   show tg (if aG p=eD then[Nd.mk 2 true [] [] [] [] y.ns] else ez 2 y.ns)+27000*y.p.len≤0+27000*p.len+200
   omega
  case pipeL d acc p=>
   obtain⟨y,hy,hz⟩:=Option.bind_eq_some_iff.1 h
   have h1:tg y.ns+27000*y.p.len≤0+27000*p.len+100:=ih _ _ hy hp
   have ha:=kL acc y.ns
   show tg x.ns+27000*x.p.len≤tg acc+27000*p.len+100
   split at hz
   ·rename_i hk
    have h2:tg x.ns+27000*x.p.len≤tg (acc++y.ns)+27000*(az (aC y.p)).len+100:=ih _ _ hz (sm _ _ hy hp).tail.rest
    have h3:(aC y.p).len<y.p.len:=dI (by rw[hk];decide)
    have h4:(az (aC y.p)).len≤(aC y.p).len:=cd _
    omega
   ·cases hz
    show tg (acc++y.ns)+27000*y.p.len≤_
    omega
  case command d p=>
   show tg x.ns+27000*x.p.len≤0+27000*p.len+100
   split at h
   ·cases h
    have h1:=pO (p.r.length+1) ⟨[],[],[]⟩ p ⟨fun x hx=>(by cases hx),fun x hx=>(by cases hx),fun x hx=>(by cases hx)⟩ hp
    have h0:cm ⟨[],[],[]⟩=0:=rfl
    have h2:tg [(aV p).1]=100+cm (aD (p.r.length+1) ⟨[],[],[]⟩ p).1:=by
     rw[fm]
     unfold aV
     simp only
     rw[mJ]
     show 100+0+ca _+cw _+cr _+0=100+(ca _+cw _+cr _)
     omega
    have h3:(aV p).2.len≤(aD (p.r.length+1) ⟨[],[],[]⟩ p).2.len:=by
     unfold aV
     simp only
     split
     ·exact Nat.zero_le _
     ·exact Nat.le_refl _
    show tg [(aV p).1]+27000*(aV p).2.len≤_
    omega
   ·have leaf:tg [Nd0]=100:=by rw[fm];exact ny 0 false []
    split at h
    ·cases h
     show tg [Nd0]+27000*0≤_
     omega
    ·split at h
     ·cases h
      show tg [Nd0]+27000*0≤_
      omega
     ·rename_i hr _ _
      obtain⟨y,hy,rfl⟩:=Option.map_eq_some_iff.1 h
      have h1:tg y.ns+27000*y.p.len≤0+27000*(aC p).len+700:=ih _ _ hy (SmP.tail hp)
      have h2:(aC p).len<p.len:=ev hr
      have h3:=oK (y.p.r.length+1) y.p (sm _ _ hy (SmP.tail hp))
      obtain⟨nd,hn⟩:=(cu _ _ _ hy).1 trivial
      have h4:tg (y.ns.map (fM (aY y.p).1))=tg y.ns+cr (aY y.p).1:=by rw[hn];show tg [fM _ nd]=_;rw[fm,fm,Aq]
      show tg (y.ns.map (fM (aY y.p).1))+27000*(aY y.p).2.len≤_
      have h5:cr (aY y.p).1+27000*(aY y.p).2.len≤27000*y.p.len:=h3
      omega
  case read d s p=>
   show tg x.ns+27000*x.p.len≤0+27000*p.len+700
   split at h
   ·exact ih _ _ h hp
   ·split at h
    ·exact ih _ _ h hp
    ·split at h
     ·exact ih _ _ h hp
     ·split at h
      ·exact ih _ _ h hp
      ·exact ih _ _ h hp
  case branches d acc p=>
   show tg x.ns+27000*x.p.len≤tg acc+27000*p.len+700
   obtain⟨y,hy,h⟩:=Option.bind_eq_some_iff.1 h
   obtain⟨z,hz,h⟩:=Option.bind_eq_some_iff.1 h
   have h1:tg y.ns+27000*y.p.len≤0+27000*p.len+300:=ih _ _ hy hp
   have h2:tg z.ns+27000*z.p.len≤0+27000*(ay dy y.p).len+300:=ih _ _ hz ((sm _ _ hy hp).fb _)
   have h3:(ay dy y.p).len≤y.p.len:=bS _ _
   have ha:tg (acc++y.ns++z.ns)=tg acc+tg y.ns+tg z.ns:=by rw[kL,kL]
   split at h
   ·rename_i he
    have h4:tg x.ns+27000*x.p.len≤tg (acc++y.ns++z.ns)+27000*(aC z.p).len+700:=ih _ _ h (sm _ _ hz ((sm _ _ hy hp).fb _)).tail
    have h5:(aC z.p).len<z.p.len:=ev (by rw[he];decide)
    omega
   ·split at h
    ·rename_i he
     obtain⟨u,hu,rfl⟩:=Option.map_eq_some_iff.1 h
     have h4:tg u.ns+27000*u.p.len≤0+27000*(aC z.p).len+300:=ih _ _ hu (sm _ _ hz ((sm _ _ hy hp).fb _)).tail
     have h5:(aC z.p).len<z.p.len:=ev (by rw[he];decide)
     have h6:(ay rFi u.p).len≤u.p.len:=bS _ _
     have h7:tg [ndK 6 (acc++y.ns++z.ns++u.ns)]=100+(tg (acc++y.ns++z.ns)+tg u.ns):=by rw[fm];unfold ndK;rw[ny,kL]
     show tg [ndK 6 (acc++y.ns++z.ns++u.ns)]+27000*(ay rFi u.p).len≤_
     omega
    ·cases h
     have h6:(ay rFi z.p).len≤z.p.len:=bS _ _
     have h7:tg [ndK 6 (acc++y.ns++z.ns)]=100+tg (acc++y.ns++z.ns):=by rw[fm];unfold ndK;rw[ny]
     show tg [ndK 6 (acc++y.ns++z.ns)]+27000*(ay rFi z.p).len≤_
     omega
  case loop d k p=>
   show tg x.ns+27000*x.p.len≤0+27000*p.len+700
   obtain⟨y,hy,h⟩:=Option.bind_eq_some_iff.1 h
   obtain⟨z,hz,rfl⟩:=Option.map_eq_some_iff.1 h
   have h1:tg y.ns+27000*y.p.len≤0+27000*p.len+300:=ih _ _ hy hp
   have h2:tg z.ns+27000*z.p.len≤0+27000*y.p.len+300:=ih _ _ hz (sm _ _ hy hp)
   have h7:tg [ndK k (y.ns++z.ns)]=100+(tg y.ns+tg z.ns):=by rw[fm];unfold ndK;rw[ny,kL]
   show tg [ndK k (y.ns++z.ns)]+27000*z.p.len≤_
   omega
  case body d p=>
   show tg x.ns+27000*x.p.len≤0+27000*p.len+300
   obtain⟨y,hy,rfl⟩:=Option.map_eq_some_iff.1 h
   have h1:tg y.ns+27000*y.p.len≤0+27000*(ay rDo p).len+300:=ih _ _ hy (SmP.fb hp _)
   have h2:(ay rDo p).len≤p.len:=bS _ _
   have h3:(ay ct y.p).len≤y.p.len:=bS _ _
   show tg y.ns+27000*(ay ct y.p).len≤_
   omega
  case each d p=>
   show tg x.ns+27000*x.p.len≤0+27000*p.len+700
   obtain⟨y,hy,rfl⟩:=Option.map_eq_some_iff.1 h
   have h1:tg y.ns+27000*y.p.len≤0+27000*(bR p).2.2.len+300:=ih _ _ hy (SmP.sub hp (sS p))
   have hq:(bp p).1.length+27000*(bp p).2.len≤27000*p.len:=by
    obtain⟨r,e⟩:=p
    unfold bp
    cases r with
    |nil=>exact Nat.zero_le _
    |cons t r=>
     simp only
     split
     ·have:=hp.2 t List.mem_cons_self
      show t.text.length+27000*r.length≤27000*(r.length+1)
      omega
     ·show 0+27000*0≤_;omega
   have hm:=(SmP.sub hp (qp p)).rest.fb rIn
   have hw:=qL ((ay rIn (az (bp p).2)).r.length+1) _ hm
   have hm1:(ay rIn (az (bp p).2)).len≤(bp p).2.len:=Nat.le_trans (bS _ _) (cd _)
   have hw':cw (bV (ay rIn (az (bp p).2))).1+27000*(bV (ay rIn (az (bp p).2))).2.len≤27000*(ay rIn (az (bp p).2)).len:=hw
   have h2:(bR p).2.2.len≤(bV (ay rIn (az (bp p).2))).2.len:=by
    rw[dV]
    exact Nat.le_trans (cd _) (qR _).length_le
   have h7:tg [Nd.mk 9 false (bR p).1 [] (bR p).2.1 [] y.ns]=100+(bp p).1.length+cw (bV (ay rIn (az (bp p).2))).1+tg y.ns:=by
    rw[fm,mJ,dV]
    show 100+(bp p).1.length+0+cw (bV (ay rIn (az (bp p).2))).1+0+tg y.ns=_
    omega
   show tg [Nd.mk 9 false (bR p).1 [] (bR p).2.1 [] y.ns]+27000*y.p.len≤_
   omega
  case group d p=>
   show tg x.ns+27000*x.p.len≤0+27000*p.len+700
   obtain⟨y,hy,rfl⟩:=Option.map_eq_some_iff.1 h
   have h1:tg y.ns+27000*y.p.len≤0+27000*p.len+300:=ih _ _ hy hp
   have h3:(ay gA y.p).len≤y.p.len:=bS _ _
   have h7:tg [ndK 10 y.ns]=100+tg y.ns:=by rw[fm];unfold ndK;rw[ny]
   show tg [ndK 10 y.ns]+27000*(ay gA y.p).len≤_
   omega
theorem iZ (sep:List UInt8):∀l:List (List UInt8),(di sep l).length≤(l.map fun x=>x.length+sep.length).sum
 |[]=>Nat.le_refl _
 |[x]=>by show x.length≤_;simp
 |x::y::l=>by
  have ih:=iZ sep (y::l)
  show(x++sep++di sep (y::l)).length≤_
  rw[List.length_append,List.length_append,List.map_cons,List.sum_cons]
  omega
theorem xQ (f:List UInt8→Nat) (a b:List (List UInt8)):((a++b).map f).sum=(a.map f).sum+(b.map f).sum:=by rw[List.map_append,List.sum_append]
theorem uO (a:List (List UInt8×List Prt)) (w:List (List Prt)):((cf a w).map fun x=>x.length+1).sum≤ca a+cw w:=by
 unfold cf
 rw[xQ]
 have h1:((a.map fun a=>a.1++[61]++aA a.2).map fun x=>x.length+1).sum=ca a:=by
  unfold ca
  rw[List.map_map]
  congr 1
  exact List.map_congr_left fun x _=>by show(x.1++[61]++aA x.2).length+1=_;rw[List.length_append,List.length_append];simp;omega
 have h2:((w.map aA).map fun x=>x.length+1).sum=cw w:=by
  unfold cw
  rw[List.map_map]
  rfl
 omega
theorem Ap (k:Int):(gu k).length≤3:=by
 unfold gu
 split
 ·decide
 ·split
  ·decide
  ·split
   ·decide
   ·split
    ·decide
    ·split<;>decide
theorem tY:∀(r:List (Int×List Prt)),((iU r).map fun x=>x.length+1).sum≤cr r
 |[]=>Nat.le_refl _
 |x::r=>by
  have ih:=tY r
  have h1:=Ap x.1
  have e:cr (x::r)=(aA x.2).length+4+cr r:=by rw[←List.singleton_append,sl,uN]
  show(((gu x.1++aA x.2)::iU r).map fun x=>x.length+1).sum≤_
  rw[List.map_cons,List.sum_cons,List.length_append,e]
  omega
theorem pU (s:List (List UInt8)) (r:List (Int×List Prt)):(a7 s r).length≤(s.map fun x=>x.length+1).sum+cr r:=by
 unfold a7
 have h1:=iZ [32] (s++iU r)
 have h2:=tY r
 rw[xQ] at h1
 have h3:((s.map fun x=>x.length+[32].length).sum)=(s.map fun x=>x.length+1).sum:=rfl
 have h4:(((iU r).map fun x=>x.length+[32].length).sum)=((iU r).map fun x=>x.length+1).sum:=rfl
 omega
theorem fK (x:List UInt8) (r:List (Int×List Prt)):(a7 [x] r).length≤x.length+1+cr r:=by
 have:=pU [x] r
 simp only[List.map_cons,List.map_nil,List.sum_cons,List.sum_nil] at this
 omega
theorem oV:∀(l:List (List UInt8)) (f:Bool),(cF f l).length≤(l.map fun x=>x.length+14).sum
 |[],f=>Nat.le_refl _
 |[x],f=>by
  show(eE++[32]++x++[59,32]).length≤_
  simp[eE]<;>omega
 |c::b::l,f=>by
  have ih:=oV l false
  show((if f then[] else eh++[32])++c++[59,32]++dy++[32]++b++[59,32]++cF false l).length≤_
  have h1:(if f=true then([]:List UInt8) else eh++[32]).length≤5:=by cases f<;>decide
  have h2:dy.length=4:=rfl
  simp only[List.length_append,List.length_cons,List.length_nil,List.map_cons,List.sum_cons,h2]
  omega
theorem DA (l:List (List UInt8)):(k0 l).length+(k1 l).length≤(l.map fun x=>x.length+14).sum:=by
 unfold k0 k1
 match l with
 |[]=>exact Nat.le_refl _
 |[x]=>simp<;>omega
 |x::y::l=>simp<;>omega
theorem jM {sep:List UInt8} (h:sep.length≤14) (l:List (List UInt8)):(di sep l).length≤(l.map fun x=>x.length+14).sum:=by
 refine Nat.le_trans (iZ sep l) ?_
 induction l with
 |nil=>exact Nat.le_refl _
 |cons x l ih=>rw[List.map_cons,List.map_cons,List.sum_cons,List.sum_cons];omega
theorem zl (k:Int) (b:Bool) (s:List UInt8) (a:List (List UInt8×List Prt)) (w:List (List Prt)) (r:List (Int×List Prt)) (l:List Nd) (ks:List (List UInt8)):(gg (.mk k b s a w r l) ks).length≤80+s.length+ca a+cw w+cr r+(ks.map fun x=>x.length+14).sum:=by
 have hk:=DA ks
 have hws:=uO a w
 show(if k=1 then a7 (cf a w) r else _:List UInt8).length≤_
 split
 ·have:=pU (cf a w) r;omega
 ·split
  ·have:=jM (sep:=[32,124,32]) (by decide) ks
   rw[List.length_append]
   have h2:(if b=true then([33,32]:List UInt8) else[]).length≤2:=by cases b<;>decide
   omega
  ·split
   ·have:=jM (sep:=[32,38,38,32]) (by decide) ks;omega
   ·split
    ·have:=jM (sep:=[32,124,124,32]) (by decide) ks;omega
    ·split
     ·have:=jM (sep:=[59,32]) (by decide) ks;omega
     ·split
      ·have h1:=fK (rIf++[32]++cF true ks++rFi) r
       have h2:=oV ks true
       simp only[List.length_append,List.length_cons,List.length_nil,show rIf.length=2 from rfl,show rFi.length=2 from rfl] at h1
       omega
      ·split
       ·have h1:=fK (ed++[32]++k0 ks++[59,32]++rDo++[32]++k1 ks++[59,32]++ct) r
        simp only[List.length_append,List.length_cons,List.length_nil,show ed.length=5 from rfl,show rDo.length=2 from rfl,show ct.length=4 from rfl] at h1
        omega
       ·split
        ·have h1:=fK (ej++[32]++k0 ks++[59,32]++rDo++[32]++k1 ks++[59,32]++ct) r
         simp only[List.length_append,List.length_cons,List.length_nil,show ej.length=5 from rfl,show rDo.length=2 from rfl,show ct.length=4 from rfl] at h1
         omega
        ·split
         ·have h1:=fK (di [32] ((ig++[32]++s++[32]++rIn)::cf a w)++[59,32]++rDo++[32]++k0 ks++[59,32]++ct) r
          have h2:(di [32] ((ig++[32]++s++[32]++rIn)::cf a w)).length≤(ig++[32]++s++[32]++rIn).length+1+((cf a w).map fun x=>x.length+1).sum:=by
           have h2:=iZ [32] ((ig++[32]++s++[32]++rIn)::cf a w)
           rw[List.map_cons,List.sum_cons] at h2
           exact h2
          simp only[List.length_append,List.length_cons,List.length_nil,show ig.length=3 from rfl,show rIn.length=2 from rfl,show rDo.length=2 from rfl,show ct.length=4 from rfl] at h1 h2
          omega
         ·have h1:=fK ([123,32]++k0 ks++[59,32,125]) r
          simp only[List.length_append,List.length_cons,List.length_nil] at h1
          omega
theorem wu:∀(N:Nat) (n:Nd),szN n≤N→(bc n).length+14≤tb n
 |0,n,h=>by obtain⟨k,b,s,a,w,r,l⟩:=n;rw[db] at h;omega
 |N+1,.mk k b s a w r l,h=>by
  rw[db] at h
  have e:bc (.mk k b s a w r l)=gg (.mk k b s a w r l) (l.map bc):=oC _
  have h1:=zl k b s a w r l (l.map bc)
  have key:∀l:List Nd,sg l≤N→((l.map bc).map fun x=>x.length+14).sum≤tg l:=by
   intro l
   induction l with
   |nil=>intro _;exact Nat.le_refl _
   |cons x l ih=>
    intro hl
    have e:sg (x::l)=szN x+sg l:=by unfold sg;simp
    have e2:tg (x::l)=tb x+tg l:=by unfold tg;simp
    have i1:=ih (by omega)
    have i2:=wu N x (by omega)
    rw[List.map_cons,List.map_cons,List.sum_cons,e2]
    omega
  have h2:=key l (by omega)
  rw[e,mJ]
  omega
theorem Ac {n:Nat} {j:Job} {x:Rd9} {nd:Nd} (h:run n j=some x) (hp:SmP j.p) (hj:j.has=[]) (hn:x.ns=[nd]):SmN nd:=by
 have h1:=(AP n j x h hp (fun nd hm=>by rw[hj] at hm;cases hm)).2 nd (by rw[hn];exact List.mem_cons_self)
 have h2:=Ak n j x h
 have h3:=AO n j x h hp
 have hx:j.extra≤14:=by cases j<;>simp[Job.extra]
 rw[hn,hj,gW] at h2
 rw[hn,hj,fm] at h3
 have h4:=hp.1
 have hpl:j.p.len≤2048:=h4
 have e0:sg []=0:=rfl
 have e1:tg []=0:=rfl
 have h5:=wu _ nd (Nat.le_refl _)
 have h6:=(sD _ nd (Nat.le_refl _)).1
 exact⟨by omega,by omega,AV h1 (by omega),fun _ _=>by omega⟩
end Go.Proofs.YtgigdlhcjahejaaGreatDoor
