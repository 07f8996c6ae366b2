/- Of the proof of ParseKnown: ParX. -/
import Derived.Test.YtgigdlhcjahejaaGreatDoorC45
namespace Go.Proofs.YtgigdlhcjahejaaGreatDoor
open Go Go.RowKit Go.Lw
set_option linter.unusedVariables false
set_option linter.unusedSimpArgs false
def ca (l:List (List UInt8×List Prt)):Nat:=(l.map fun a=>a.1.length+(av a.2).length+2).sum
def cw (l:List (List Prt)):Nat:=(l.map fun w=>(av w).length+1).sum
def cr (l:List (Int×List Prt)):Nat:=(l.map fun r=>(av r.2).length+4).sum
theorem AN (a b:List (List UInt8×List Prt)):ca (a++b)=ca a+ca b:=by unfold ca;rw[List.map_append,List.sum_append]
theorem yM (a b:List (List Prt)):cw (a++b)=cw a+cw b:=by unfold cw;rw[List.map_append,List.sum_append]
theorem qj (a b:List (Int×List Prt)):cr (a++b)=cr a+cr b:=by unfold cr;rw[List.map_append,List.sum_append]
theorem A4 (a:List UInt8×List Prt):ca [a]=a.1.length+(av a.2).length+2:=by unfold ca;simp
theorem xN (a:List Prt):cw [a]=(av a).length+1:=by unfold cw;simp
theorem sS (a:Int×List Prt):cr [a]=(av a.2).length+4:=by unfold cr;simp
def tb:Nd→Nat
 |.mk k b s a w r l=>100+s.length+ca a+cw w+cr r+tbs l
where tbs:List Nd→Nat
 |[]=>0
 |n::l=>tb n+tbs l
def tg (l:List Nd):Nat:=(l.map tb).sum
theorem xK:∀l:List Nd,tb.tbs l=tg l
 |[]=>by rw[tb.tbs];rfl
 |n::l=>by rw[tb.tbs,xK l];unfold tg;simp
theorem lp (k:Int) (b:Bool) (s:List UInt8) (a:List (List UInt8×List Prt)) (w:List (List Prt)) (r:List (Int×List Prt)) (l:List Nd):tb (.mk k b s a w r l)=100+s.length+ca a+cw w+cr r+tg l:=by rw[tb,xK]
theorem lR (k:Int) (b:Bool) (l:List Nd):tb (.mk k b [] [] [] [] l)=100+tg l:=by rw[lp];rfl
theorem jH (a b:List Nd):tg (a++b)=tg a+tg b:=by unfold tg;rw[List.map_append,List.sum_append]
theorem eR (n:Nd):tg [n]=tb n:=by unfold tg;simp
theorem tV (k:Int) (l:List Nd):tg (fN k l)≤tg l+100:=by
 unfold fN
 split
 ·omega
 ·rw[eR];unfold ndK;rw[lR];omega
theorem uu {p:Ps} (h:SmP p) (hk:aj p=1):(av (aQ p).1).length+27000*(aQ p).2.len+2424≤27000*p.len:=by
 have h1:=h.word.2
 have h2:=eD hk
 omega
theorem rS {p p':Ps} {x:Int×List Prt} (h:SmP p) (hr:bI p=some (x,p')):(av x.2).length+27000*p'.len+2424≤27000*p.len:=by
 have h1:=(h.uH hr).2
 have h2:p'.len<p.len:=dA hr
 omega
theorem mN:∀(n:Nat) (p:Ps),SmP p→cr (bp n p).1+27000*(bp n p).2.len≤27000*p.len
 |0,p,h=>by show 0+_≤_;rw[Nat.zero_add];exact Nat.le_refl _
 |n+1,p,h=>by
  unfold bp
  split
  ·show 0+_≤_;rw[Nat.zero_add];exact Nat.le_refl _
  ·rename_i x p' hr
   have h1:=rS h hr
   have h2:=mN n p' (h.uH hr).1
   have e:cr (x::(bp n p').1)=(av x.2).length+4+cr (bp n p').1:=by rw[←List.singleton_append,qj,sS]
   show cr (x::(bp n p').1)+27000*(bp n p').2.len≤_
   omega
theorem pB:∀(n:Nat) (p:Ps),SmP p→cw (bF n p).1+27000*(bF n p).2.len≤27000*p.len
 |0,p,h=>by show 0+_≤_;rw[Nat.zero_add];exact Nat.le_refl _
 |n+1,p,h=>by
  unfold bF
  split
  ·rename_i hk
   have h1:=uu h hk
   have h2:=pB n _ h.word.1
   have e:cw ((aQ p).1::(bF n (aQ p).2).1)=(av (aQ p).1).length+1+cw (bF n (aQ p).2).1:=by rw[←List.singleton_append,yM,xN]
   show cw ((aQ p).1::(bF n (aQ p).2).1)+27000*(bF n (aQ p).2).2.len≤_
   omega
  ·show 0+_≤_;rw[Nat.zero_add];exact Nat.le_refl _
def cm (m:Sm):Nat:=ca m.al+cw m.ws+cr m.rs
theorem sX {m:Sm} {p:Ps} {x:Sm×Ps} (h:cb m p=some x) (hp:SmP p):cm x.1+27000*x.2.len≤cm m+27000*p.len:=by
 have hl:=ew h
 unfold cb at h
 split at h
 ·rename_i y p' e
  cases h
  have h1:=rS hp e
  show ca m.al+cw m.ws+cr (m.rs++[y])+27000*p'.len≤ca m.al+cw m.ws+cr m.rs+_
  rw[qj,sS]
  omega
 ·split at h
  ·cases h
  ·rename_i t r e
   have htx:t.text.length≤2048:=hp.2 t (by rw[e];exact List.mem_cons_self)
   split at h
   ·rename_i hk
    split at h
    ·cases h
     have hl':r.length<p.len:=hl
     have ha:((bc t.text).getD ([],[])).1.length+(av ((bc t.text).getD ([],[])).2).length≤26624:=by
      cases ea:bc t.text with
      |none=>show 0+(av []).length≤_;rw[ek];decide
      |some a=>
       have:=lS ea
       show a.1.length+(av a.2).length≤_
       omega
     show ca (m.al++[(bc t.text).getD ([],[])])+cw m.ws+cr m.rs+27000*r.length≤ca m.al+cw m.ws+cr m.rs+_
     rw[AN,A4]
     omega
    ·split at h
     ·cases h
      show ca m.al+cw m.ws+cr m.rs+27000*0≤ca m.al+cw m.ws+cr m.rs+_
      omega
     ·cases h
      have h1:=uu hp (by unfold aj;rw[e];exact hk)
      show ca m.al+cw (m.ws++[(aQ p).1])+cr m.rs+27000*(aQ p).2.len≤ca m.al+cw m.ws+cr m.rs+_
      rw[yM,xN]
      omega
   ·cases h
theorem ox:∀(n:Nat) (m:Sm) (p:Ps),sx m→SmP p→cm (aM n m p).1+27000*(aM n m p).2.len≤cm m+27000*p.len
 |0,m,p,_,h=>Nat.le_refl _
 |n+1,m,p,hm,h=>by
  unfold aM
  split
  ·exact Nat.le_refl _
  ·rename_i x hx
   obtain⟨a1,a2,a3⟩:=nT hx hm h
   have h1:=sX hx h
   have h2:=ox n x.1 x.2 a1 a2
   omega
theorem yJ (rs:List (Int×List Prt)) (n:Nd):tb (gz rs n)=tb n+cr rs:=by
 obtain⟨k,b,s,a,w,r,l⟩:=n
 rw[nN,lp,lp,qj];omega
theorem ev (p:Ps):(az p).r.Sublist p.r:=List.tail_sublist _
theorem gx (p:Ps):(aB p).r.Sublist p.r:=List.dropWhile_sublist _
theorem rZ (p:Ps):(aW p).2.r.Sublist p.r:=by
 unfold aW
 split
 ·exact ev p
 ·exact List.Sublist.refl _
theorem fO (s:List UInt8) (p:Ps):(aH s p).r.Sublist p.r:=by
 unfold aH
 split
 ·exact ev p
 ·exact List.nil_sublist _
theorem o9 {p p':Ps} {x:Int×List Prt} (hr:bI p=some (x,p')):p'.r.Sublist p.r:=by
 unfold bI at hr
 split at hr
 ·cases hr
 ·cases hr
  exact(ig _).1.trans (ev p)
theorem lO:∀(n:Nat) (p:Ps),(bp n p).2.r.Sublist p.r
 |0,p=>List.Sublist.refl _
 |n+1,p=>by
  unfold bp
  split
  ·exact List.Sublist.refl _
  ·rename_i x p' hr
   exact(lO n p').trans (o9 hr)
theorem tm (p:Ps):(a6 p).2.r.Sublist p.r:=lO _ _
theorem rq {m:Sm} {p:Ps} {x:Sm×Ps} (h:cb m p=some x):x.2.r.Sublist p.r:=by
 unfold cb at h
 split at h
 ·rename_i y p' e
  cases h
  exact o9 e
 ·split at h
  ·cases h
  ·rename_i t r e
   split at h
   ·split at h
    ·cases h
     show r.Sublist p.r
     rw[e];exact List.sublist_cons_self t r
    ·split at h
     ·cases h;exact List.nil_sublist _
     ·cases h;exact(ig _).1
   ·cases h
theorem me:∀(n:Nat) (m:Sm) (p:Ps),(aM n m p).2.r.Sublist p.r
 |0,m,p=>List.Sublist.refl _
 |n+1,m,p=>by
  unfold aM
  split
  ·exact List.Sublist.refl _
  ·rename_i x hx
   exact(me n x.1 x.2).trans (rq hx)
theorem tJ (p:Ps):(bO p).2.r.Sublist p.r:=by
 unfold bO
 simp only
 split
 ·exact List.nil_sublist _
 ·exact me _ _ _
theorem nY:∀(n:Nat) (p:Ps),(bF n p).2.r.Sublist p.r
 |0,p=>List.Sublist.refl _
 |n+1,p=>by
  unfold bF
  split
  ·exact(nY n _).trans (ig p).1
  ·exact List.Sublist.refl _
theorem ph (p:Ps):(cA p).2.r.Sublist p.r:=by
 obtain⟨r,e⟩:=p
 unfold cA
 cases r with
 |nil=>exact List.nil_sublist _
 |cons t r=>
  simp only
  split
  ·exact List.sublist_cons_self t r
  ·exact List.nil_sublist _
theorem pC (p:Ps):(gp p).r.Sublist p.r:=by
 unfold gp
 split
 ·exact rZ p
 ·exact List.nil_sublist _
theorem ri (p:Ps):(dP p).2.2.r.Sublist p.r:=by
 rw[fM]
 exact(gx _).trans ((pC _).trans ((nY _ _).trans ((fO _ _).trans ((gx _).trans (ph p)))))
theorem ue:∀(n:Nat) (j:Job) (x:Rd9),run n j=some x→x.p.r.Sublist j.p.r
 |0,_,_,h=>by cases h
 |n+1,j,x,h=>by
  have ih:=ue n
  cases j<;>unfold run at h
  case block d p=>
   obtain⟨y,hy,rfl⟩:=Option.map_eq_some_iff.1 h
   have h1:=ih _ _ hy
   show(if _ then _ else _:Ps).r.Sublist p.r
   split
   ·exact List.Sublist.trans h1 (gx p)
   ·exact List.nil_sublist _
  case list d p=>
   obtain⟨y,hy,rfl⟩:=Option.map_eq_some_iff.1 h
   have h1:=ih _ _ hy
   exact h1
  case kids d acc p=>
   obtain⟨y,hy,hz⟩:=Option.bind_eq_some_iff.1 h
   have h1:(y.p).r.Sublist p.r:=ih _ _ hy
   have h2:((aB (aW y.p).2)).r.Sublist p.r:=List.Sublist.trans (gx _) (List.Sublist.trans (rZ _) h1)
   split at hz
   ·split at hz
    ·have h3:=ih _ _ hz
     exact List.Sublist.trans h3 h2
    ·cases hz;exact h2
   ·cases hz;exact h1
  case chain d p=>
   obtain⟨y,hy,hz⟩:=Option.bind_eq_some_iff.1 h
   have h1:=ih _ _ hy
   have h2:=ih _ _ hz
   exact List.Sublist.trans h2 h1
  case chainL d l p=>
   split at h
   ·obtain⟨y,hy,hz⟩:=Option.bind_eq_some_iff.1 h
    have h1:=ih _ _ hy
    have h2:=ih _ _ hz
    exact List.Sublist.trans h2 (List.Sublist.trans h1 (List.Sublist.trans (gx _) (ev p)))
   ·cases h;exact List.Sublist.refl _
  case pipe d p=>
   obtain⟨y,hy,rfl⟩:=Option.map_eq_some_iff.1 h
   have h1:=ih _ _ hy
   refine List.Sublist.trans h1 ?_
   show(if _ then _ else _:Ps).r.Sublist p.r
   split
   ·exact ev p
   ·exact List.Sublist.refl _
  case pipeL d acc p=>
   obtain⟨y,hy,hz⟩:=Option.bind_eq_some_iff.1 h
   have h1:(y.p).r.Sublist p.r:=ih _ _ hy
   split at hz
   ·have h3:=ih _ _ hz
    exact List.Sublist.trans h3 (List.Sublist.trans (gx _) (List.Sublist.trans (ev _) h1))
   ·cases hz;exact h1
  case command d p=>
   split at h
   ·cases h;exact tJ p
   ·split at h
    ·cases h;exact List.nil_sublist _
    ·split at h
     ·cases h;exact List.nil_sublist _
     ·obtain⟨y,hy,rfl⟩:=Option.map_eq_some_iff.1 h
      have h1:=ih _ _ hy
      exact List.Sublist.trans (tm _) (List.Sublist.trans h1 (ev p))
  case read d s p=>
   split at h
   ·have h1:=ih _ _ h
    exact h1
   ·split at h
    ·have h1:=ih _ _ h
     exact h1
    ·split at h
     ·have h1:=ih _ _ h
      exact h1
     ·split at h
      ·have h1:=ih _ _ h
       exact h1
      ·have h1:=ih _ _ h
       exact h1
  case branches d acc p=>
   obtain⟨y,hy,h⟩:=Option.bind_eq_some_iff.1 h
   obtain⟨z,hz,h⟩:=Option.bind_eq_some_iff.1 h
   have h7:=ih _ _ hy
   have h8:=ih _ _ hz
   have h1:(z.p).r.Sublist p.r:=List.Sublist.trans h8 (List.Sublist.trans (fO _ _) h7)
   split at h
   ·have h9:=ih _ _ h
    exact List.Sublist.trans h9 (List.Sublist.trans (ev _) h1)
   ·split at h
    ·obtain⟨u,hu,rfl⟩:=Option.map_eq_some_iff.1 h
     have h9:=ih _ _ hu
     exact List.Sublist.trans (fO _ _) (List.Sublist.trans h9 (List.Sublist.trans (ev _) h1))
    ·cases h;exact List.Sublist.trans (fO _ _) h1
  case loop d k p=>
   obtain⟨y,hy,h⟩:=Option.bind_eq_some_iff.1 h
   obtain⟨z,hz,rfl⟩:=Option.map_eq_some_iff.1 h
   have h1:=ih _ _ hy
   have h2:=ih _ _ hz
   exact List.Sublist.trans h2 h1
  case body d p=>
   obtain⟨y,hy,rfl⟩:=Option.map_eq_some_iff.1 h
   have h1:=ih _ _ hy
   exact List.Sublist.trans (fO _ _) (List.Sublist.trans h1 (fO _ _))
  case each d p=>
   obtain⟨y,hy,rfl⟩:=Option.map_eq_some_iff.1 h
   have h1:=ih _ _ hy
   exact List.Sublist.trans h1 (ri p)
  case group d p=>
   obtain⟨y,hy,rfl⟩:=Option.map_eq_some_iff.1 h
   have h1:=ih _ _ hy
   exact List.Sublist.trans (fO _ _) h1
theorem yR:∀(n:Nat) (j:Job) (x:Rd9),run n j=some x→SmP j.p→tg x.ns+27000*x.p.len≤tg j.has+27000*j.p.len+50*j.extra
 |0,_,_,h,_=>by cases h
 |n+1,j,x,h,hp=>by
  have ih:=yR n
  have sm:∀(j:Job) (y:Rd9),run n j=some y→SmP j.p→SmP y.p:=fun j y h1 h2=>h2.sub (ue n j y h1)
  cases j<;>unfold run at h
  case block d p=>
   obtain⟨y,hy,rfl⟩:=Option.map_eq_some_iff.1 h
   have h1:=ih _ _ hy (SmP.rest hp)
   have h2:(aB p).len≤p.len:=bL p
   have h3:(if y.st then y.p else bd y.p 5).len≤y.p.len:=by
    split
    ·exact Nat.le_refl _
    ·exact Nat.zero_le _
   have h1':tg y.ns+27000*y.p.len≤0+27000*(aB p).len+300:=h1
   show tg y.ns+27000*(if y.st then y.p else bd y.p 5).len≤0+27000*p.len+300
   omega
  case list d p=>
   obtain⟨y,hy,rfl⟩:=Option.map_eq_some_iff.1 h
   have h1:tg y.ns+27000*y.p.len≤0+27000*p.len+200:=ih _ _ hy hp
   have h2:=tV 5 y.ns
   show tg (fN 5 y.ns)+27000*y.p.len≤0+27000*p.len+300
   omega
  case kids d acc p=>
   obtain⟨y,hy,hz⟩:=Option.bind_eq_some_iff.1 h
   have h1:tg y.ns+27000*y.p.len≤0+27000*p.len+200:=ih _ _ hy hp
   have ha:=jH acc y.ns
   show tg x.ns+27000*x.p.len≤tg acc+27000*p.len+200
   split at hz
   ·rename_i hs
    have h2:(aW y.p).2.len<y.p.len:=i7 hs
    have h3:(aB (aW y.p).2).len≤(aW y.p).2.len:=bL _
    split at hz
    ·have h4:tg x.ns+27000*x.p.len≤tg (acc++y.ns)+27000*(aB (aW y.p).2).len+200:=ih _ _ hz (sm _ _ hy hp).stop.rest
     omega
    ·cases hz
     show tg (acc++y.ns)+27000*(aB (aW y.p).2).len≤_
     omega
   ·cases hz
    show tg (acc++y.ns)+27000*y.p.len≤_
    omega
  case chain d p=>
   obtain⟨y,hy,hz⟩:=Option.bind_eq_some_iff.1 h
   have h1:tg y.ns+27000*y.p.len≤0+27000*p.len+200:=ih _ _ hy hp
   have h2:tg x.ns+27000*x.p.len≤tg y.ns+27000*y.p.len+0:=ih _ _ hz (sm _ _ hy hp)
   show tg x.ns+27000*x.p.len≤0+27000*p.len+200
   omega
  case chainL d l p=>
   show tg x.ns+27000*x.p.len≤tg l+27000*p.len+0
   split at h
   ·rename_i hk
    obtain⟨y,hy,hz⟩:=Option.bind_eq_some_iff.1 h
    have h1:tg y.ns+27000*y.p.len≤0+27000*(aB (az p)).len+200:=ih _ _ hy (SmP.rest (SmP.tail hp))
    have h2:tg x.ns+27000*x.p.len≤tg [ndK (if aj p=4 then 3 else 4) (l++y.ns)]+27000*y.p.len+0:=ih _ _ hz (sm _ _ hy (SmP.rest (SmP.tail hp)))
    have h3:(az p).len<p.len:=dk (by rcases hk with hk|hk<;>rw[hk]<;>decide)
    have h4:(aB (az p)).len≤(az p).len:=bL _
    have h5:tg [ndK (if aj p=4 then 3 else 4) (l++y.ns)]=100+(tg l+tg y.ns):=by rw[eR];unfold ndK;rw[lR,jH]
    omega
   ·cases h;exact Nat.le_refl _
  case pipe d p=>
   obtain⟨y,hy,rfl⟩:=Option.map_eq_some_iff.1 h
   have hp2:(if aT p=fh then az p else p).len≤p.len:=by
    split
    ·exact dG p
    ·exact Nat.le_refl _
   have hps:SmP (if aT p=fh then az p else p):=by
    split
    ·exact SmP.tail hp
    ·exact hp
   have h1:tg y.ns+27000*y.p.len≤0+27000*(if aT p=fh then az p else p).len+100:=ih _ _ hy hps
   have h2:tg (if aT p=fh then[Nd.mk 2 true [] [] [] [] y.ns] else fN 2 y.ns)≤tg y.ns+100:=by
    split
    ·rw[eR,lR];omega
    ·exact tV 2 y.ns
   show tg (if aT p=fh then[Nd.mk 2 true [] [] [] [] y.ns] else fN 2 y.ns)+27000*y.p.len≤0+27000*p.len+200
   omega
  case pipeL d acc p=>
   obtain⟨y,hy,hz⟩:=Option.bind_eq_some_iff.1 h
   have h1:tg y.ns+27000*y.p.len≤0+27000*p.len+100:=ih _ _ hy hp
   have ha:=jH acc y.ns
   show tg x.ns+27000*x.p.len≤tg acc+27000*p.len+100
   split at hz
   ·rename_i hk
    have h2:tg x.ns+27000*x.p.len≤tg (acc++y.ns)+27000*(aB (az y.p)).len+100:=ih _ _ hz (sm _ _ hy hp).tail.rest
    have h3:(az y.p).len<y.p.len:=dk (by rw[hk];decide)
    have h4:(aB (az y.p)).len≤(az y.p).len:=bL _
    omega
   ·cases hz
    show tg (acc++y.ns)+27000*y.p.len≤_
    omega
  case command d p=>
   show tg x.ns+27000*x.p.len≤0+27000*p.len+100
   split at h
   ·cases h
    have h1:=ox (p.r.length+1) ⟨[],[],[]⟩ p ⟨fun x hx=>(by cases hx),fun x hx=>(by cases hx),fun x hx=>(by cases hx)⟩ hp
    have h0:cm ⟨[],[],[]⟩=0:=rfl
    have h2:tg [(bO p).1]=100+cm (aM (p.r.length+1) ⟨[],[],[]⟩ p).1:=by
     rw[eR]
     unfold bO
     simp only
     rw[lp]
     show 100+0+ca _+cw _+cr _+0=100+(ca _+cw _+cr _)
     omega
    have h3:(bO p).2.len≤(aM (p.r.length+1) ⟨[],[],[]⟩ p).2.len:=by
     unfold bO
     simp only
     split
     ·exact Nat.zero_le _
     ·exact Nat.le_refl _
    show tg [(bO p).1]+27000*(bO p).2.len≤_
    omega
   ·have leaf:tg [Nd0]=100:=by rw[eR];exact lR 0 false []
    split at h
    ·cases h
     show tg [Nd0]+27000*0≤_
     omega
    ·split at h
     ·cases h
      show tg [Nd0]+27000*0≤_
      omega
     ·rename_i hr _ _
      obtain⟨y,hy,rfl⟩:=Option.map_eq_some_iff.1 h
      have h1:tg y.ns+27000*y.p.len≤0+27000*(az p).len+700:=ih _ _ hy (SmP.tail hp)
      have h2:(az p).len<p.len:=dI hr
      have h3:=mN (y.p.r.length+1) y.p (sm _ _ hy (SmP.tail hp))
      obtain⟨nd,hn⟩:=(bX _ _ _ hy).1 trivial
      have h4:tg (y.ns.map (gz (a6 y.p).1))=tg y.ns+cr (a6 y.p).1:=by rw[hn];show tg [gz _ nd]=_;rw[eR,eR,yJ]
      show tg (y.ns.map (gz (a6 y.p).1))+27000*(a6 y.p).2.len≤_
      have h5:cr (a6 y.p).1+27000*(a6 y.p).2.len≤27000*y.p.len:=h3
      omega
  case read d s p=>
   show tg x.ns+27000*x.p.len≤0+27000*p.len+700
   split at h
   ·exact ih _ _ h hp
   ·split at h
    ·exact ih _ _ h hp
    ·split at h
     ·exact ih _ _ h hp
     ·split at h
      ·exact ih _ _ h hp
      ·exact ih _ _ h hp
  case branches d acc p=>
   show tg x.ns+27000*x.p.len≤tg acc+27000*p.len+700
   obtain⟨y,hy,h⟩:=Option.bind_eq_some_iff.1 h
   obtain⟨z,hz,h⟩:=Option.bind_eq_some_iff.1 h
   have h1:tg y.ns+27000*y.p.len≤0+27000*p.len+300:=ih _ _ hy hp
   have h2:tg z.ns+27000*z.p.len≤0+27000*(aH eB y.p).len+300:=ih _ _ hz ((sm _ _ hy hp).mA _)
   have h3:(aH eB y.p).len≤y.p.len:=bD _ _
   have ha:tg (acc++y.ns++z.ns)=tg acc+tg y.ns+tg z.ns:=by rw[jH,jH]
   split at h
   ·rename_i he
    have h4:tg x.ns+27000*x.p.len≤tg (acc++y.ns++z.ns)+27000*(az z.p).len+700:=ih _ _ h (sm _ _ hz ((sm _ _ hy hp).mA _)).tail
    have h5:(az z.p).len<z.p.len:=dI (by rw[he];decide)
    omega
   ·split at h
    ·rename_i he
     obtain⟨u,hu,rfl⟩:=Option.map_eq_some_iff.1 h
     have h4:tg u.ns+27000*u.p.len≤0+27000*(az z.p).len+300:=ih _ _ hu (sm _ _ hz ((sm _ _ hy hp).mA _)).tail
     have h5:(az z.p).len<z.p.len:=dI (by rw[he];decide)
     have h6:(aH rFi u.p).len≤u.p.len:=bD _ _
     have h7:tg [ndK 6 (acc++y.ns++z.ns++u.ns)]=100+(tg (acc++y.ns++z.ns)+tg u.ns):=by rw[eR];unfold ndK;rw[lR,jH]
     show tg [ndK 6 (acc++y.ns++z.ns++u.ns)]+27000*(aH rFi u.p).len≤_
     omega
    ·cases h
     have h6:(aH rFi z.p).len≤z.p.len:=bD _ _
     have h7:tg [ndK 6 (acc++y.ns++z.ns)]=100+tg (acc++y.ns++z.ns):=by rw[eR];unfold ndK;rw[lR]
     show tg [ndK 6 (acc++y.ns++z.ns)]+27000*(aH rFi z.p).len≤_
     omega
  case loop d k p=>
   show tg x.ns+27000*x.p.len≤0+27000*p.len+700
   obtain⟨y,hy,h⟩:=Option.bind_eq_some_iff.1 h
   obtain⟨z,hz,rfl⟩:=Option.map_eq_some_iff.1 h
   have h1:tg y.ns+27000*y.p.len≤0+27000*p.len+300:=ih _ _ hy hp
   have h2:tg z.ns+27000*z.p.len≤0+27000*y.p.len+300:=ih _ _ hz (sm _ _ hy hp)
   have h7:tg [ndK k (y.ns++z.ns)]=100+(tg y.ns+tg z.ns):=by rw[eR];unfold ndK;rw[lR,jH]
   show tg [ndK k (y.ns++z.ns)]+27000*z.p.len≤_
   omega
  case body d p=>
   show tg x.ns+27000*x.p.len≤0+27000*p.len+300
   obtain⟨y,hy,rfl⟩:=Option.map_eq_some_iff.1 h
   have h1:tg y.ns+27000*y.p.len≤0+27000*(aH rDo p).len+300:=ih _ _ hy (SmP.mA hp _)
   have h2:(aH rDo p).len≤p.len:=bD _ _
   have h3:(aH cy y.p).len≤y.p.len:=bD _ _
   show tg y.ns+27000*(aH cy y.p).len≤_
   omega
  case each d p=>
   show tg x.ns+27000*x.p.len≤0+27000*p.len+700
   obtain⟨y,hy,rfl⟩:=Option.map_eq_some_iff.1 h
   have h1:tg y.ns+27000*y.p.len≤0+27000*(dP p).2.2.len+300:=ih _ _ hy (SmP.sub hp (ri p))
   have hq:(cA p).1.length+27000*(cA p).2.len≤27000*p.len:=by
    obtain⟨r,e⟩:=p
    unfold cA
    cases r with
    |nil=>exact Nat.zero_le _
    |cons t r=>
     simp only
     split
     ·have:=hp.2 t List.mem_cons_self
      show t.text.length+27000*r.length≤27000*(r.length+1)
      omega
     ·show 0+27000*0≤_;omega
   have hm:=(SmP.sub hp (ph p)).rest.mA rIn
   have hw:=pB ((aH rIn (aB (cA p).2)).r.length+1) _ hm
   have hm1:(aH rIn (aB (cA p).2)).len≤(cA p).2.len:=Nat.le_trans (bD _ _) (bL _)
   have hw':cw (cL (aH rIn (aB (cA p).2))).1+27000*(cL (aH rIn (aB (cA p).2))).2.len≤27000*(aH rIn (aB (cA p).2)).len:=hw
   have h2:(dP p).2.2.len≤(cL (aH rIn (aB (cA p).2))).2.len:=by
    rw[fM]
    exact Nat.le_trans (bL _) (pC _).length_le
   have h7:tg [Nd.mk 9 false (dP p).1 [] (dP p).2.1 [] y.ns]=100+(cA p).1.length+cw (cL (aH rIn (aB (cA p).2))).1+tg y.ns:=by
    rw[eR,lp,fM]
    show 100+(cA p).1.length+0+cw (cL (aH rIn (aB (cA p).2))).1+0+tg y.ns=_
    omega
   show tg [Nd.mk 9 false (dP p).1 [] (dP p).2.1 [] y.ns]+27000*y.p.len≤_
   omega
  case group d p=>
   show tg x.ns+27000*x.p.len≤0+27000*p.len+700
   obtain⟨y,hy,rfl⟩:=Option.map_eq_some_iff.1 h
   have h1:tg y.ns+27000*y.p.len≤0+27000*p.len+300:=ih _ _ hy hp
   have h3:(aH jv y.p).len≤y.p.len:=bD _ _
   have h7:tg [ndK 10 y.ns]=100+tg y.ns:=by rw[eR];unfold ndK;rw[lR]
   show tg [ndK 10 y.ns]+27000*(aH jv y.p).len≤_
   omega
theorem gQ (sep:List UInt8):∀l:List (List UInt8),(cP sep l).length≤(l.map fun x=>x.length+sep.length).sum
 |[]=>Nat.le_refl _
 |[x]=>by show x.length≤_;simp
 |x::y::l=>by
  have ih:=gQ sep (y::l)
  show(x++sep++cP sep (y::l)).length≤_
  rw[List.length_append,List.length_append,List.map_cons,List.sum_cons]
  omega
theorem uw (f:List UInt8→Nat) (a b:List (List UInt8)):((a++b).map f).sum=(a.map f).sum+(b.map f).sum:=by rw[List.map_append,List.sum_append]
theorem tQ (a:List (List UInt8×List Prt)) (w:List (List Prt)):((bP a w).map fun x=>x.length+1).sum≤ca a+cw w:=by
 unfold bP
 rw[uw]
 have h1:((a.map fun a=>a.1++[61]++av a.2).map fun x=>x.length+1).sum=ca a:=by
  unfold ca
  rw[List.map_map]
  congr 1
  exact List.map_congr_left fun x _=>by show(x.1++[61]++av x.2).length+1=_;rw[List.length_append,List.length_append];simp;omega
 have h2:((w.map av).map fun x=>x.length+1).sum=cw w:=by
  unfold cw
  rw[List.map_map]
  rfl
 omega
theorem yL (k:Int):(fS k).length≤3:=by
 unfold fS
 split
 ·decide
 ·split
  ·decide
  ·split
   ·decide
   ·split
    ·decide
    ·split<;>decide
theorem rJ:∀(r:List (Int×List Prt)),((hH r).map fun x=>x.length+1).sum≤cr r
 |[]=>Nat.le_refl _
 |x::r=>by
  have ih:=rJ r
  have h1:=yL x.1
  have e:cr (x::r)=(av x.2).length+4+cr r:=by rw[←List.singleton_append,qj,sS]
  show(((fS x.1++av x.2)::hH r).map fun x=>x.length+1).sum≤_
  rw[List.map_cons,List.sum_cons,List.length_append,e]
  omega
theorem mM (s:List (List UInt8)) (r:List (Int×List Prt)):(aP s r).length≤(s.map fun x=>x.length+1).sum+cr r:=by
 unfold aP
 have h1:=gQ [32] (s++hH r)
 have h2:=rJ r
 rw[uw] at h1
 have h3:((s.map fun x=>x.length+[32].length).sum)=(s.map fun x=>x.length+1).sum:=rfl
 have h4:(((hH r).map fun x=>x.length+[32].length).sum)=((hH r).map fun x=>x.length+1).sum:=rfl
 omega
theorem fj (x:List UInt8) (r:List (Int×List Prt)):(aP [x] r).length≤x.length+1+cr r:=by
 have:=mM [x] r
 simp only[List.map_cons,List.map_nil,List.sum_cons,List.sum_nil] at this
 omega
theorem nK:∀(l:List (List UInt8)) (f:Bool),(cd f l).length≤(l.map fun x=>x.length+14).sum
 |[],f=>Nat.le_refl _
 |[x],f=>by
  show(et++[32]++x++[59,32]).length≤_
  simp[et]<;>omega
 |c::b::l,f=>by
  have ih:=nK l false
  show((if f then[] else dU++[32])++c++[59,32]++eB++[32]++b++[59,32]++cd false l).length≤_
  have h1:(if f=true then([]:List UInt8) else dU++[32]).length≤5:=by cases f<;>decide
  have h2:eB.length=4:=rfl
  simp only[List.length_append,List.length_cons,List.length_nil,List.map_cons,List.sum_cons,h2]
  omega
theorem AW (l:List (List UInt8)):(k0 l).length+(k1 l).length≤(l.map fun x=>x.length+14).sum:=by
 unfold k0 k1
 match l with
 |[]=>exact Nat.le_refl _
 |[x]=>simp<;>omega
 |x::y::l=>simp<;>omega
theorem i6 {sep:List UInt8} (h:sep.length≤14) (l:List (List UInt8)):(cP sep l).length≤(l.map fun x=>x.length+14).sum:=by
 refine Nat.le_trans (gQ sep l) ?_
 induction l with
 |nil=>exact Nat.le_refl _
 |cons x l ih=>rw[List.map_cons,List.map_cons,List.sum_cons,List.sum_cons];omega
theorem vZ (k:Int) (b:Bool) (s:List UInt8) (a:List (List UInt8×List Prt)) (w:List (List Prt)) (r:List (Int×List Prt)) (l:List Nd) (ks:List (List UInt8)):(fy (.mk k b s a w r l) ks).length≤80+s.length+ca a+cw w+cr r+(ks.map fun x=>x.length+14).sum:=by
 have hk:=AW ks
 have hws:=tQ a w
 show(if k=1 then aP (bP a w) r else _:List UInt8).length≤_
 split
 ·have:=mM (bP a w) r;omega
 ·split
  ·have:=i6 (sep:=[32,124,32]) (by decide) ks
   rw[List.length_append]
   have h2:(if b=true then([33,32]:List UInt8) else[]).length≤2:=by cases b<;>decide
   omega
  ·split
   ·have:=i6 (sep:=[32,38,38,32]) (by decide) ks;omega
   ·split
    ·have:=i6 (sep:=[32,124,124,32]) (by decide) ks;omega
    ·split
     ·have:=i6 (sep:=[59,32]) (by decide) ks;omega
     ·split
      ·have h1:=fj (rIf++[32]++cd true ks++rFi) r
       have h2:=nK ks true
       simp only[List.length_append,List.length_cons,List.length_nil,show rIf.length=2 from rfl,show rFi.length=2 from rfl] at h1
       omega
      ·split
       ·have h1:=fj (ee++[32]++k0 ks++[59,32]++rDo++[32]++k1 ks++[59,32]++cy) r
        simp only[List.length_append,List.length_cons,List.length_nil,show ee.length=5 from rfl,show rDo.length=2 from rfl,show cy.length=4 from rfl] at h1
        omega
       ·split
        ·have h1:=fj (dZ++[32]++k0 ks++[59,32]++rDo++[32]++k1 ks++[59,32]++cy) r
         simp only[List.length_append,List.length_cons,List.length_nil,show dZ.length=5 from rfl,show rDo.length=2 from rfl,show cy.length=4 from rfl] at h1
         omega
        ·split
         ·have h1:=fj (cP [32] ((iv++[32]++s++[32]++rIn)::bP a w)++[59,32]++rDo++[32]++k0 ks++[59,32]++cy) r
          have h2:(cP [32] ((iv++[32]++s++[32]++rIn)::bP a w)).length≤(iv++[32]++s++[32]++rIn).length+1+((bP a w).map fun x=>x.length+1).sum:=by
           have h2:=gQ [32] ((iv++[32]++s++[32]++rIn)::bP a w)
           rw[List.map_cons,List.sum_cons] at h2
           exact h2
          simp only[List.length_append,List.length_cons,List.length_nil,show iv.length=3 from rfl,show rIn.length=2 from rfl,show rDo.length=2 from rfl,show cy.length=4 from rfl] at h1 h2
          omega
         ·have h1:=fj ([123,32]++k0 ks++[59,32,125]) r
          simp only[List.length_append,List.length_cons,List.length_nil] at h1
          omega
theorem uh:∀(N:Nat) (n:Nd),szN n≤N→(aS n).length+14≤tb n
 |0,n,h=>by obtain⟨k,b,s,a,w,r,l⟩:=n;rw[cK] at h;omega
 |N+1,.mk k b s a w r l,h=>by
  rw[cK] at h
  have e:aS (.mk k b s a w r l)=fy (.mk k b s a w r l) (l.map aS):=oi _
  have h1:=vZ k b s a w r l (l.map aS)
  have key:∀l:List Nd,sg l≤N→((l.map aS).map fun x=>x.length+14).sum≤tg l:=by
   intro l
   induction l with
   |nil=>intro _;exact Nat.le_refl _
   |cons x l ih=>
    intro hl
    have e:sg (x::l)=szN x+sg l:=by unfold sg;simp
    have e2:tg (x::l)=tb x+tg l:=by unfold tg;simp
    have i1:=ih (by omega)
    have i2:=uh N x (by omega)
    rw[List.map_cons,List.map_cons,List.sum_cons,e2]
    omega
  have h2:=key l (by omega)
  rw[e,lp]
  omega
theorem xu {n:Nat} {j:Job} {x:Rd9} {nd:Nd} (h:run n j=some x) (hp:SmP j.p) (hj:j.has=[]) (hn:x.ns=[nd]):SmN nd:=by
 have h1:=(yT n j x h hp (fun nd hm=>by rw[hj] at hm;cases hm)).2 nd (by rw[hn];exact List.mem_cons_self)
 have h2:=xJ n j x h
 have h3:=yR n j x h hp
 have hx:j.extra≤14:=by cases j<;>simp[Job.extra]
 rw[hn,hj,gq] at h2
 rw[hn,hj,eR] at h3
 have h4:=hp.1
 have hpl:j.p.len≤2048:=h4
 have e0:sg []=0:=rfl
 have e1:tg []=0:=rfl
 have h5:=uh _ nd (Nat.le_refl _)
 have h6:=(qm _ nd (Nat.le_refl _)).1
 exact⟨by omega,by omega,yc h1 (by omega),fun _ _=>by omega⟩
end Go.Proofs.YtgigdlhcjahejaaGreatDoor
