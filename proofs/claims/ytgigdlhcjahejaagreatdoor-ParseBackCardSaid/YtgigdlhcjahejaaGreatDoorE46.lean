/- Of the proof of ParseBack: PbR. -/
import Derived.Test.YtgigdlhcjahejaaGreatDoorE45
namespace Go.Proofs.YtgigdlhcjahejaaGreatDoor
open Go Go.RowKit Go.Lw
set_option linter.unusedVariables false
set_option linter.unusedSimpArgs false
theorem qH:∀{l:List Nd} {x:Nd},x∈l→aV x≤bc l
 |y::l,x,h=>by
  have e:bc (y::l)=max (aV y) (bc l):=by show aV.bc _=_;rw[aV.bc]
  rw[e]
  rcases Jl.1 h with rfl|h
  ·exact Nat.le_max_left ..
  ·exact lt9 (qH h) (Nat.le_max_right ..)
theorem iY {k:Int} {b:Bool} {s:LB} {a:List (LB×LP)} {w:List LP} {r:List (Int×LP)} {l:List Nd} {x:Nd} (h:x∈l):aV x+(if fK k then 1 else 0)≤aV (.mk k b s a w r l):=by
 have:=qH h
 rw[aV]
 exact Nat.add_le_add_right this _
theorem rS {k:Int} {P:Prop} (h:cA k=false) (e:cA k=true):P:=by rw[h] at e;cases e
theorem sM {s:LB} (h:dD s=true):cX s=true:=by
 unfold dD at h
 have key:∀x∈[eO,bN,cK,df,rFi,rDo,bM],cX x=true:=by decide
 exact key s (List.contains_iff_mem.1 h)
theorem nf {n:Nd} (h:n.kind≠5):cf n=true:=by
 obtain⟨k',b',s',a',w',r',l'⟩:=n
 have h1':k'≠5:=h
 show(k' !=5||_)=true
 have:(k' !=5)=true:=by simpa using h1'
 rw[this];rfl
theorem AI:∀n:Nd,Shp n→cf n=true→∃k m,aI n=k::m∧(k.1=1∨7≤k.1)∧(k.1=1→dD k.2=false)∧(cA n.kind=true→k.1=1→k.2≠dU):=by
 refine n7 fun k b s a w r l ih hs hb=>?_
 obtain⟨h,hl⟩:=hs.open
 rw[il]
 cases fT h with
 |simple h0 h1 h2 h3 h4=>
  show∃k m,ky a w++cJ r=k::m∧_
  cases a with
  |cons x a=>
   have hr:cX (o0 x).2=false:=by
    show cX (x.1++[61]++af x.2)=false
    rw[Jj];exact zv
   refine⟨o0 x,_,rfl,.inl rfl,fun _=>?_,fun _ _ e=>?_⟩
   ·cases he:dD (o0 x).2 with
    |false=>rfl
    |true=>rw[sM he] at hr;cases hr
   ·rw[e] at hr;exact absurd hr (by decide)
  |nil=>
   cases w with
   |cons x w=>
    have hr:cX (jS x).2=false:=(vd h4 ((jQ h2).2 x List.mem_cons_self).2).2 rfl
    refine⟨jS x,_,rfl,.inl rfl,fun _=>?_,fun _ _ e=>?_⟩
    ·cases he:dD (jS x).2 with
     |false=>rfl
     |true=>rw[sM he] at hr;cases hr
    ·rw[e] at hr;exact absurd hr (by decide)
   |nil=>
    cases r with
    |nil=>exact absurd ⟨rfl,rfl,rfl⟩ h0
    |cons x r=>
     have hx:=nG h3 x List.mem_cons_self
     have e7:7≤x.1.toNat:=by omega
     exact⟨(x.1.toNat,dz x.1),_,rfl,.inr e7,fun e=>by have e':x.1.toNat=1:=e;omega,fun _ e=>by have e':x.1.toNat=1:=e;omega⟩
 |pipe h1 h2=>
  cases b with
  |true=>exact⟨kwK dU,_,rfl,.inl rfl,fun _=>by decide,rS (k:=2) (by decide)⟩
  |false=>
   match l,h1,h2,ih,hl with
   |x::y::l,_,h2,ih,hl=>
    obtain⟨k,m,e,e1,e2,e3⟩:=ih x (by simp) (hl x (by simp)) (by
     exact nf (fun e=>rS (k:=5) (by decide) (e▸h2 x (by simp))))
    refine⟨k,m++[ft]++jq [ft] ((y::l).map aI),?_,e1,e2,rS (k:=2) (by decide)⟩
    show aI x++[ft]++jq [ft] ((y::l).map aI)=_
    rw[e];rfl
   |[],h1,_,_,_=>rcases h1 with h1|h1<;>simp at h1
   |[x],h1,_,_,_=>rcases h1 with h1|h1<;>simp at h1
 |@joined k x y hk h1 h2=>
  obtain⟨k',m,e,e1,e2,e3⟩:=ih x (by simp) (hl x (by simp)) (by
   obtain⟨k',b',s',a',w',r',l'⟩:=x
   have h1':k'≠5:=h1
   show(k' !=5||_)=true
   have:(k' !=5)=true:=by simpa using h1'
   rw[this];rfl)
  rcases hk with rfl|rfl
  ·refine⟨k',m++[vP]++aI y,?_,e1,e2,rS (k:=3) (by decide)⟩
   show aI x++[vP]++aI y=_
   rw[e];rfl
  ·refine⟨k',m++[orK]++aI y,?_,e1,e2,rS (k:=4) (by decide)⟩
   show aI x++[orK]++aI y=_
   rw[e];rfl
 |list h1 h2=>
  match l,h1,h2,ih,hl,hb with
  |x::y::l,_,h2,ih,hl,hb=>
   obtain⟨k',m,e,e1,e2,e3⟩:=ih x (by simp) (hl x (by simp)) (by
    obtain⟨k',b',s',a',w',r',l'⟩:=x
    have h1':k'≠5:=h2 _ List.mem_cons_self
    show(k' !=5||_)=true
    have:(k' !=5)=true:=by simpa using h1'
    rw[this];rfl)
   refine⟨k',m++[aW]++jq [aW] ((y::l).map aI),?_,e1,e2,rS (k:=5) (by decide)⟩
   show aI x++[aW]++jq [aW] ((y::l).map aI)=_
   rw[e];rfl
  |[],_,_,_,_,hb=>exact absurd hb (by decide)
  |[x],h1,_,_,_,_=>exact absurd rfl h1
 |branches h1 h2 h3=>exact⟨kwK rIf,_,rfl,.inl rfl,fun _=>by decide,fun _ _=>by decide⟩
 |loop hk h1 h2 h3=>
  rcases hk with rfl|rfl
  ·exact⟨kwK dE,_,rfl,.inl rfl,fun _=>by decide,fun _ _=>by decide⟩
  ·exact⟨kwK dI,_,rfl,.inl rfl,fun _=>by decide,fun _ _=>by decide⟩
 |each h0 h1 h2 h3=>exact⟨kwK fh,_,rfl,.inl rfl,fun _=>by decide,fun _ _=>by decide⟩
 |group h1 h2=>exact⟨kwK im,_,rfl,.inl rfl,fun _=>by decide,fun _ _=>by decide⟩
theorem iz {n:Nd} (hs:Shp n) (hb:cf n=true) {l R:List Tk} (hl:l.map Tk.kt=aI n):l≠[]∧hdk (l++R)≠0∧hdk (l++R)≠2∧dD (aG ⟨l++R,0⟩)=false∧(cA n.kind=true→aG ⟨l++R,0⟩≠dU):=by
 obtain⟨k,m,e,e1,e2,e3⟩:=AI n hs hb
 rw[e] at hl
 obtain⟨t,l',rfl,k1,k2,-⟩:=bC hl
 rw[List.cons_append,du,kf,k1,k2]
 refine⟨by simp,by omega,by omega,?_,fun hp=>?_⟩
 ·split
  ·rename_i h;exact e2 h.1
  ·rfl
 ·split
  ·rename_i h;exact e3 hp h.1
  ·decide
theorem gX {R:List Tk} (h:hdk R≠2):aA ⟨R,0⟩=⟨R,0⟩:=by
 cases R with
 |nil=>rfl
 |cons t r=>
  unfold aA
  have:(t.kind==2)=false:=beq_eq_false_iff_ne.2 h
  show(⟨List.dropWhile _ (t::r),0⟩:Ps)=_
  rw[List.dropWhile_cons,this];rfl
theorem jN {t:Tk} {r:List Tk} {s:LB} {e:Nat} (h1:t.kind=1) (h2:t.text=s) (hs:s∈gE):aG ⟨t::r,e⟩=s:=by
 rw[kf,if_pos ⟨h1,by rw[h2];exact List.contains_iff_mem.2 hs⟩,h2]
theorem gU {t:Tk} {r:List Tk} {s:LB} (h1:t.kind=1) (h2:t.text=s) (hs:s∈gE):az s ⟨t::r,0⟩=⟨r,0⟩:=by
 unfold az
 rw[if_pos (jN h1 h2 hs)];rfl
theorem nQ {t:Tk} {r:List Tk} (h:t.kind=3):aM ⟨t::r,0⟩=(true,⟨r,0⟩):=by
 unfold aM
 rw[if_pos (.inl h)];rfl
def vV (n:Nd):Prop:=cA n.kind=true→∀(d:Nat) (l R:List Tk),d+aV n≤16→l.map Tk.kt=aI n→NW R→aD (.command d ⟨l++R,0⟩) ⟨[n],false,⟨R,0⟩⟩
def xX (n:Nd):Prop:=n.kind≠3→n.kind≠4→n.kind≠5→∀(d:Nat) (l R:List Tk),d+aV n≤16→l.map Tk.kt=aI n→NW R→hdk R≠6→aD (.pipe d ⟨l++R,0⟩) ⟨[n],false,⟨R,0⟩⟩
def ni (n:Nd):Prop:=n.kind≠5→∀(d:Nat) (l R:List Tk) (y:Rd9),d+aV n≤16→l.map Tk.kt=aI n→NW R→hdk R≠6→aD (.chainL d [n] ⟨R,0⟩) y→aD (.chain d ⟨l++R,0⟩) y
def Fin (R:List Tk) (st:Bool) (R':List Tk):Prop:=(∃c,R=c::R'∧c.kind=3∧(hdk R'=0∨dD (aG ⟨R',0⟩)=true)∧hdk R'≠2∧st=true)∨(R=[]∧R'=[]∧st=false)
def pO (n:Nd):Prop:=cf n=true→∀(d:Nat) (l R R':List Tk) (st:Bool),d+aV n≤16→l.map Tk.kt=aI n→Fin R st R'→aD (.list d ⟨l++R,0⟩) ⟨[n],st,⟨R',0⟩⟩
theorem Fin.nw {R R':List Tk} {st:Bool} (h:Fin R st R'):NW R∧hdk R≠6∧¬(ai ⟨R,0⟩=4∨ai ⟨R,0⟩=5):=by
 rcases h with⟨c,rfl,hc,-⟩|⟨rfl,-⟩
 ·unfold NW
  rw[DG,du,hc]
  decide
 ·exact⟨⟨by decide,by decide⟩,by decide,by decide⟩
theorem vJ {d:Nat} {acc:List Nd} {n:Nd} {l R R':List Tk} {st:Bool} (h:ni n) (hk:n.kind≠5) (hd:d+aV n≤16) (hl:l.map Tk.kt=aI n) (hf:Fin R st R'):aD (.kids d acc ⟨l++R,0⟩) ⟨acc++[n],st,⟨R',0⟩⟩:=by
 obtain⟨h1,h2,h3⟩:=hf.nw
 have hc:=h hk d l R _ hd hl h1 h2 (RJ.qO h3)
 rcases hf with⟨c,rfl,hc3,he,hn,rfl⟩|⟨rfl,rfl,rfl⟩
 ·have hst:aM ⟨c::R',0⟩=(true,⟨R',0⟩):=nQ hc3
  have hr:=gX hn
  have:=RJ.C7 (acc:=acc) hc (by rw[hst]) (by rw[hst];show ai (aA ⟨R',0⟩)=0∨dD (aG (aA ⟨R',0⟩))=true;rw[hr];exact he)
  rw[hst] at this
  simp only at this
  rw[hr] at this
  exact this
 ·exact RJ.Er hc rfl
theorem uU:∀(L:List Nd),L≠[]→(∀n∈L,Shp n∧n.kind≠5∧ni n)→∀(d:Nat) (acc:List Nd) (l R R':List Tk) (st:Bool),(∀n∈L,d+aV n≤16)→l.map Tk.kt=jq [aW] (L.map aI)→Fin R st R'→aD (.kids d acc ⟨l++R,0⟩) ⟨acc++L,st,⟨R',0⟩⟩
 |[],h,_=>absurd rfl h
 |[n],_,h=>fun d acc l R R' st hd hl hf=>by
  obtain⟨-,hk,hn⟩:=h n (by simp)
  exact vJ hn hk (hd n (by simp)) hl hf
 |n::m::L,_,h=>fun d acc l R R' st hd hl hf=>by
  obtain⟨hsn,hk,hn⟩:=h n (by simp)
  obtain⟨hsm,hkm,hm⟩:=h m (by simp)
  have hl':l.map Tk.kt=aI n++(aW::jq [aW] ((m::L).map aI)):=by
   rw[hl];show aI n++[aW]++_=_;rw[Jj];rfl
  obtain⟨x,y,rfl,hx,hy⟩:=fl hl'
  obtain⟨c,y,rfl,hc,-,hy⟩:=bC hy
  have hbm:cf m=true:=by
   obtain⟨k',b',s',a',w',r',l'⟩:=m
   have h1':k'≠5:=hkm
   show(k' !=5||_)=true
   have:(k' !=5)=true:=by simpa using h1'
   rw[this];rfl
  have hyne:∃u v,y=u++v∧u.map Tk.kt=aI m:=by
   cases L with
   |nil=>exact⟨y,[],by simp,hy⟩
   |cons o L=>
    have hy':y.map Tk.kt=aI m++([aW]++jq [aW] ((o::L).map aI)):=by
     rw[hy];show aI m++[aW]++_=_;rw[Jj];rfl
    obtain⟨u,v,rfl,hu,-⟩:=fl hy'
    exact⟨u,v,rfl,hu⟩
  obtain⟨u,v,rfl,hu⟩:=hyne
  obtain⟨-,f1,f2,f3,-⟩:=iz hsm hbm (R:=v++R) hu
  have hc3:c.kind=3:=hc
  have h1:NW (c::(u++v++R)):=by unfold NW;rw[du,hc3];decide
  have hch:=hn hk d x (c::(u++v++R)) _ (hd n (by simp)) hx h1 (by rw[du,hc3];decide) (RJ.qO (by rw[DG,du,hc3];decide))
  have hst:aM ⟨c::(u++v++R),0⟩=(true,⟨u++v++R,0⟩):=nQ hc3
  rw[←Jj] at f1 f2 f3
  have hr:=gX f2
  have ih:=uU (m::L) (by simp) (fun n hn=>h n (List.mem_cons_of_mem _ hn)) d (acc++[n]) (u++v) R R' st (fun n hn=>hd n (List.mem_cons_of_mem _ hn)) hy hf
  have hfin:=RJ.EA (acc:=acc) hch (by rw[hst]) (by rw[hst];show ai (aA ⟨u++v++R,0⟩)≠0∧dD (aG (aA ⟨u++v++R,0⟩))=false;rw[hr];exact⟨f1,f3⟩) (by rw[hst];show aD (.kids d (acc++[n]) (aA ⟨u++v++R,0⟩)) _;rw[hr];exact ih)
  have eT:(x++c::(u++v))++R=x++c::(u++v++R):=by simp
  have eA:acc++n::m::L=acc++[n]++(m::L):=by simp
  rw[eT,eA]
  exact hfin
theorem Au {n:Nd} (hs:Shp n) (hb:cf n=true) (h:pO n) {d:Nat} {l R:List Tk} {c:Tk} (hd:d+aV n≤16) (hl:l.map Tk.kt=aI n) (hc:c.kind=3) (he:hdk R=0∨dD (aG ⟨R,0⟩)=true) (hn:hdk R≠2):aD (.block d ⟨l++c::R,0⟩) ⟨[n],false,⟨R,0⟩⟩:=by
 have hr:=gX (iz hs hb (R:=c::R) hl).2.2.1
 have:=h hb d l (c::R) R true hd hl (.inl ⟨c,rfl,hc,he,hn,rfl⟩)
 rw[←hr] at this
 exact RJ.block this
theorem fC {n:Nd} (hs:Shp n) (hb:cf n=true) (h:pO n) {d:Nat} {l R:List Tk} {c t:Tk} {s:LB} (hd:d+aV n≤16) (hl:l.map Tk.kt=aI n) (hc:c.kind=3) (h1:t.kind=1) (h2:t.text=s) (hs1:s∈gE) (hs2:dD s=true):aD (.block d ⟨l++c::t::R,0⟩) ⟨[n],false,⟨t::R,0⟩⟩:=
 Au hs hb h hd hl hc (.inr (by rw[jN h1 h2 hs1];exact hs2)) (by rw[du,h1];decide)
theorem nH:∀(L:List Nd),2≤L.length→(∀n∈L,Shp n∧cf n=true∧pO n)→∀(d:Nat) (acc:List Nd) (l R:List Tk),(∀n∈L,d+aV n≤16)→l.map Tk.kt=dh true (L.map aI)++[kwK rFi]→aD (.branches d acc ⟨l++R,0⟩) ⟨[ndK 6 (acc++L)],false,⟨R,0⟩⟩
 |[],h,_=>by simp at h
 |[_],h,_=>by simp at h
 |c::b::L,_,h=>fun d acc l R hd hl=>by
  obtain⟨c1,c2,c3⟩:=h c (by simp)
  obtain⟨b1,b2,b3⟩:=h b (by simp)
  have hl':l.map Tk.kt=aI c++(aW::kwK bN::(aI b++(aW::(dh false (L.map aI)++[kwK rFi])))):=by
   rw[hl]
   show([]++aI c++[aW,kwK bN]++aI b++[aW]++dh false (L.map aI))++[kwK rFi]=_
   simp
  obtain⟨lc,l2,rfl,hlc,h2⟩:=fl hl'
  obtain⟨s1,l3,rfl,hs1,-,h3⟩:=bC h2
  obtain⟨tt,l4,rfl,ht1,ht2,h4⟩:=bC h3
  obtain⟨lb,l5,rfl,hlb,h5⟩:=fl h4
  obtain⟨s2,l6,rfl,hs2,-,h6⟩:=bC h5
  have r1:aD (.block d ⟨lc++s1::tt::(lb++s2::(l6++R)),0⟩) ⟨[c],false,⟨tt::(lb++s2::(l6++R)),0⟩⟩:=fC c1 c2 c3 (hd c (by simp)) hlc hs1 ht1 ht2 (by decide) (by decide)
  have hm:az bN ⟨tt::(lb++s2::(l6++R)),0⟩=⟨lb++s2::(l6++R),0⟩:=gU ht1 ht2 (by decide)
  have eL:(lc++s1::tt::(lb++s2::l6))++R=lc++s1::tt::(lb++s2::(l6++R)):=by simp
  rw[eL]
  match L,h,hd,h6 with
  |[],_,_,h6=>
   obtain⟨f,l7,rfl,hf1,hf2,h7⟩:=bC (show l6.map Tk.kt=kwK rFi::[] from h6)
   cases nT h7
   have r2:aD (.block d (az bN ⟨tt::(lb++s2::([f]++R)),0⟩)) ⟨[b],false,⟨f::R,0⟩⟩:=by
    rw[hm];exact fC b1 b2 b3 (hd b (by simp)) hlb hs2 hf1 hf2 (by decide) (by decide)
   have hrf:aG ⟨f::R,0⟩=rFi:=jN hf1 hf2 (by decide)
   have:=RJ.fi (acc:=acc) r1 r2 (by show aG ⟨f::R,0⟩≠_;rw[hrf];decide) (by show aG ⟨f::R,0⟩≠_;rw[hrf];decide)
   have hmf:az rFi ⟨f::R,0⟩=⟨R,0⟩:=gU hf1 hf2 (by decide)
   simp only[hmf] at this
   have e:acc++[c]++[b]=acc++[c,b]:=by simp
   rw[e] at this
   exact this
  |[x],h,hd,h6=>
   obtain⟨x1,x2,x3⟩:=h x (by simp)
   have h6':l6.map Tk.kt=kwK df::(aI x++(aW::kwK rFi::[])):=by
    rw[h6];show(kwK df::aI x++[aW])++[kwK rFi]=_;simp
   obtain⟨el,l7,rfl,he1,he2,h7⟩:=bC h6'
   obtain⟨lx,l8,rfl,hlx,h8⟩:=fl h7
   obtain⟨s3,l9,rfl,hs3,-,h9⟩:=bC h8
   obtain⟨f,l10,rfl,hf1,hf2,h10⟩:=bC h9
   cases nT h10
   have r2:aD (.block d (az bN ⟨tt::(lb++s2::(el::(lx++s3::[f])++R)),0⟩)) ⟨[b],false,⟨el::(lx++s3::[f]++R),0⟩⟩:=by
    rw[hm];exact fC b1 b2 b3 (hd b (by simp)) hlb hs2 he1 he2 (by decide) (by decide)
   have hre:aG ⟨el::(lx++s3::[f]++R),0⟩=df:=jN he1 he2 (by decide)
   have eX:lx++s3::[f]++R=lx++s3::f::R:=by simp
   have r3:aD (.block d (aC ⟨el::(lx++s3::[f]++R),0⟩)) ⟨[x],false,⟨f::R,0⟩⟩:=by
    show aD (.block d ⟨lx++s3::[f]++R,0⟩) _
    rw[eX]
    exact fC x1 x2 x3 (hd x (by simp)) hlx hs3 hf1 hf2 (by decide) (by decide)
   have:=RJ.else (acc:=acc) r1 r2 hre r3
   have hmf:az rFi ⟨f::R,0⟩=⟨R,0⟩:=gU hf1 hf2 (by decide)
   simp only[hmf] at this
   have e:acc++[c]++[b]++[x]=acc++[c,b,x]:=by simp
   rw[e] at this
   exact this
  |c'::b'::L,h,hd,h6=>
   have h6':l6.map Tk.kt=kwK cK::(dh true ((c'::b'::L).map aI)++[kwK rFi]):=by
    rw[h6];rfl
   obtain⟨el,l7,rfl,he1,he2,h7⟩:=bC h6'
   have r2:aD (.block d (az bN ⟨tt::(lb++s2::(el::l7++R)),0⟩)) ⟨[b],false,⟨el::(l7++R),0⟩⟩:=by
    rw[hm];exact fC b1 b2 b3 (hd b (by simp)) hlb hs2 he1 he2 (by decide) (by decide)
   have hre:aG ⟨el::(l7++R),0⟩=cK:=jN he1 he2 (by decide)
   have r3:=nH (c'::b'::L) (by simp) (fun n hn=>h n (List.mem_cons_of_mem _ (List.mem_cons_of_mem _ hn))) d (acc++[c]++[b]) l7 R (fun n hn=>hd n (List.mem_cons_of_mem _ (List.mem_cons_of_mem _ hn))) h7
   have:=RJ.Ge (acc:=acc) r1 r2 hre r3
   have e:acc++[c]++[b]++(c'::b'::L)=acc++(c::b::c'::b'::L):=by simp
   rw[e] at this
   exact this
theorem n6:∀(L:List Nd),L≠[]→(∀n∈L,Shp n∧cA n.kind=true∧vV n)→∀(d:Nat) (acc:List Nd) (l R:List Tk),(∀n∈L,d+aV n≤16)→l.map Tk.kt=jq [ft] (L.map aI)→NW R→hdk R≠6→aD (.pipeL d acc ⟨l++R,0⟩) ⟨acc++L,false,⟨R,0⟩⟩
 |[],h,_=>absurd rfl h
 |[n],_,h=>fun d acc l R hd hl hR h6=>RJ.sL ((h n (by simp)).2.2 (h n (by simp)).2.1 d l R (hd n (by simp)) hl hR) h6
 |n::m::L,_,h=>fun d acc l R hd hl hR h6=>by
  obtain⟨hsn,hk,hn⟩:=h n (by simp)
  obtain⟨hsm,hkm,hm⟩:=h m (by simp)
  have hl':l.map Tk.kt=aI n++(ft::jq [ft] ((m::L).map aI)):=by
   rw[hl];show aI n++[ft]++_=_;rw[Jj];rfl
  obtain⟨x,y,rfl,hx,hy⟩:=fl hl'
  obtain⟨c,y,rfl,hc,-,hy⟩:=bC hy
  have hbm:cf m=true:=nf (by
   intro e;rw[e] at hkm;exact absurd hkm (by decide))
  have hyne:∃u v,y=u++v∧u.map Tk.kt=aI m:=by
   cases L with
   |nil=>exact⟨y,[],by simp,hy⟩
   |cons o L=>
    have hy':y.map Tk.kt=aI m++([ft]++jq [ft] ((o::L).map aI)):=by
     rw[hy];show aI m++[ft]++_=_;rw[Jj];rfl
    obtain⟨u,v,rfl,hu,-⟩:=fl hy'
    exact⟨u,v,rfl,hu⟩
  obtain⟨u,v,rfl,hu⟩:=hyne
  obtain⟨-,f1,f2,f3,-⟩:=iz hsm hbm (R:=v++R) hu
  have hc6:c.kind=6:=hc
  have h1:NW (c::(u++v++R)):=by unfold NW;rw[du,hc6];decide
  have hcm:=hn hk d x (c::(u++v++R)) (hd n (by simp)) hx h1
  rw[←Jj] at f1 f2 f3
  have ih:=n6 (m::L) (by simp) (fun n hn=>h n (List.mem_cons_of_mem _ hn)) d (acc++[n]) (u++v) R (fun n hn=>hd n (List.mem_cons_of_mem _ hn)) hy hR h6
  have hfin:=RJ.CM (acc:=acc) hcm hc6 (by show aD (.pipeL d (acc++[n]) (aA ⟨u++v++R,0⟩)) _;rw[gX f2];exact ih)
  have eT:(x++c::(u++v))++R=x++c::(u++v++R):=by simp
  have eA:acc++n::m::L=acc++[n]++(m::L):=by simp
  rw[eT,eA]
  exact hfin
theorem mI:∀(ws:List LP) (l R:List Tk) (N:Nat),(∀w∈ws,eC w=true)→l.map Tk.kt=ws.map jS→hdk R≠1→ws.length<N→bG N ⟨l++R,0⟩=(ws,⟨R,0⟩)
 |ws,l,R,0,_,_,_,h=>by omega
 |[],l,R,N+1,_,h,hR,_=>by
  cases nT h
  unfold bG
  exact if_neg hR
 |w::ws,l,R,N+1,hw,h,hR,hN=>by
  obtain⟨t,r,rfl,e1,e2,h2⟩:=bC h
  have hp:=sY (r:=r++R) e1 e2 (hw w List.mem_cons_self)
  have ih:=mI ws r R N (fun x hx=>hw x (List.mem_cons_of_mem _ hx)) h2 hR (by simp at hN;omega)
  unfold bG
  rw[List.cons_append,if_pos (show ai ⟨t::(r++R),0⟩=1 from e1),hp]
  simp only
  rw[ih]
theorem BM {s:LB} {w:List LP} (h0:cQ s=true) (h1:iF w=true) {a b c:Tk} {l R:List Tk} (ha:a.kind=1∧a.text=s) (hb:b.kind=1∧b.text=rIn) (hl:l.map Tk.kt=w.map jS) (hc:c.kind=3) (hR:hdk R≠2):cV ⟨a::b::(l++c::R),0⟩=(s,w,⟨R,0⟩):=by
 have hq:(match(a::b::(l++c::R):List Tk) with
  |[]=>(([]:LB),bd ⟨a::b::(l++c::R),0⟩ 5)
  |t::r=>if t.kind=1∧cQ t.text=true then(t.text,⟨r,0⟩) else([],bd ⟨a::b::(l++c::R),0⟩ 5))=(s,⟨b::(l++c::R),0⟩):=by
  simp only
  rw[if_pos ⟨ha.1,by rw[ha.2];exact h0⟩,ha.2]
 have hr:aA ⟨b::(l++c::R),0⟩=⟨b::(l++c::R),0⟩:=gX (by rw[du,hb.1];decide)
 have hm:az rIn ⟨b::(l++c::R),0⟩=⟨l++c::R,0⟩:=gU hb.1 hb.2 (by decide)
 have hw:bG ((⟨l++c::R,0⟩:Ps).r.length+1) ⟨l++c::R,0⟩=(w,⟨c::R,0⟩):=mI w l (c::R) _ (fun x hx=>((jQ h1).2 x hx).2) hl (by rw[du,hc];decide) (by
  have:=congrArg List.length hl
  rw[List.length_map,List.length_map] at this
  show w.length<(l++c::R).length+1
  rw[Jf];omega)
 have hs:aM ⟨c::R,0⟩=(true,⟨R,0⟩):=nQ hc
 unfold cV
 simp only[hq,hr,hm,hw,hs,if_true]
 rw[gX hR]
theorem mF {d:Nat} {kw:LB} {t:Tk} {l q R:List Tk} {k:Int} {s:LB} {w:List LP} {r:List (Int×LP)} {L:List Nd} (hk:jW kw=true) (hkr:kw∈gE) (h1:t.kind=1) (h2:t.text=kw) (hd:d<16) (hr:eY r=true) (hq:q.map Tk.kt=cJ r) (hR:NW R) (h:aD (.read (d+1) kw ⟨l++(q++R),0⟩) ⟨[.mk k false s [] w [] L],false,⟨q++R,0⟩⟩):aD (.command d ⟨t::(l++(q++R)),0⟩) ⟨[.mk k false s [] w r L],false,⟨R,0⟩⟩:=by
 have hres:aG ⟨t::(l++(q++R)),0⟩=kw:=jN h1 h2 hkr
 have h':aD (.read (d+1) (aG ⟨t::(l++(q++R)),0⟩) (aC ⟨t::(l++(q++R)),0⟩)) ⟨[.mk k false s [] w [] L],false,⟨q++R,0⟩⟩:=by rw[hres];exact h
 have:=RJ.command (by rw[hres];exact hk) hd h'
 have hred:=vK hr hq hR.2
 simp only[hred] at this
 exact this
theorem DL : ∀ n : Nd, Shp n → vV n ∧ xX n ∧ ni n ∧ pO n := by
  refine n7 fun k b s a w r l ih hs => ?_
  obtain ⟨h, hl⟩ := hs.open
  have ih' : ∀ x ∈ l, vV x ∧ xX x ∧ ni x ∧ pO x := fun x hx => ih x hx (hl x hx)
  have hsh := fT h
  have hcmd : vV (.mk k b s a w r l) := by
    intro hpk d t R hd ht hR
    rw [il] at ht
    have hdk : ∀ x ∈ l, fK k = true → d < 16 ∧ (d + 1) + aV x ≤ 16 := fun x hx hk => by
      have := iY (k := k) (b := b) (s := s) (a := a) (w := w) (r := r) hx
      rw [if_pos hk] at this
      omega
    cases hsh with
    | simple h0 h1 h2 h3 h4 =>
      obtain ⟨e1, e2⟩ := yj h0 h1 h2 h3 h4 (show t.map Tk.kt = ky a w ++ cJ r from ht) hR
      have := RJ.simple (d := d) e1
      rw [e2] at this
      exact this
    | pipe _ _ => exact rS (k := 2) (by decide) hpk
    | joined hk _ _ => rcases hk with rfl | rfl
                       · exact rS (k := 3) (by decide) hpk
                       · exact rS (k := 4) (by decide) hpk
    | list _ _ => exact rS (k := 5) (by decide) hpk
    | branches h1 h2 h3 =>
      have ht' : t.map Tk.kt = kwK rIf :: ((dh true (l.map aI) ++ [kwK rFi]) ++ cJ r) := ht
      obtain ⟨c, t2, rfl, hc1, hc2, ht2⟩ := bC ht'
      obtain ⟨u, q, rfl, hu, hq⟩ := fl ht2
      have hlp : 0 < l.length := by omega
      obtain ⟨x, hx⟩ : ∃ x, x ∈ l := ⟨l[0], List.getElem_mem hlp⟩
      have hb := nH l h2 (fun n hn => ⟨hl n hn, h3 n hn, (ih' n hn).2.2.2⟩) (d + 1) [] u (q ++ R) (fun n hn => (hdk n hn (by decide)).2) hu
      have := mF (kw := rIf) (by decide) (by decide) hc1 hc2 (hdk x hx (by decide)).1 h1 hq hR (RJ.F9 hb)
      rw [List.cons_append, Jj]
      exact this
    | @loop k r x y hk h1 h2 h3 =>
      have go : ∀ (kw : LB) (k : Int), fK k = true → jW kw = true → kw ∈ gE → (∀ (d : Nat) (p : Ps) (z : Rd9), aD (.loop d k p) z → aD (.read d kw p) z) → (∀ x' ∈ [x, y], d < 16 ∧ (d + 1) + aV x' ≤ 16) → t.map Tk.kt = kwK kw :: (aI x ++ [aW, kwK rDo] ++ aI y ++ [aW, kwK bM] ++ cJ r) → aD (.command d ⟨t ++ R, 0⟩) ⟨[.mk k false [] [] [] r [x, y]], false, ⟨R, 0⟩⟩ := by
        intro kw k hkk hkw hkr hread hdk ht
        have ht' : t.map Tk.kt = kwK kw :: (aI x ++ (aW :: kwK rDo :: (aI y ++ (aW :: kwK bM :: cJ r)))) := by rw [ht]; simp
        obtain ⟨c, t2, rfl, hc1, hc2, ht2⟩ := bC ht'
        obtain ⟨u, t3, rfl, hu, ht3⟩ := fl ht2
        obtain ⟨s1, t4, rfl, hs1, -, ht4⟩ := bC ht3
        obtain ⟨dw, t5, rfl, hd1, hd2, ht5⟩ := bC ht4
        obtain ⟨v, t6, rfl, hv, ht6⟩ := fl ht5
        obtain ⟨s2, t7, rfl, hs2, -, ht7⟩ := bC ht6
        obtain ⟨dn, q, rfl, hn1, hn2, hq⟩ := bC ht7
        have r1 : aD (.block (d + 1) ⟨u ++ s1 :: dw :: (v ++ s2 :: dn :: (q ++ R)), 0⟩) ⟨[x], false, ⟨dw :: (v ++ s2 :: dn :: (q ++ R)), 0⟩⟩ := fC (hl x (by simp)) h2 (ih' x (by simp)).2.2.2 (hdk x (by simp)).2 hu hs1 hd1 hd2 (by decide) (by decide)
        have hm : az rDo ⟨dw :: (v ++ s2 :: dn :: (q ++ R)), 0⟩ = ⟨v ++ s2 :: dn :: (q ++ R), 0⟩ := gU hd1 hd2 (by decide)
        have r2 : aD (.block (d + 1) (az rDo ⟨dw :: (v ++ s2 :: dn :: (q ++ R)), 0⟩)) ⟨[y], false, ⟨dn :: (q ++ R), 0⟩⟩ := by
          rw [hm]; exact fC (hl y (by simp)) h3 (ih' y (by simp)).2.2.2 (hdk y (by simp)).2 hv hs2 hn1 hn2 (by decide) (by decide)
        have r3 := RJ.body r2
        have hm2 : az bM ⟨dn :: (q ++ R), 0⟩ = ⟨q ++ R, 0⟩ := gU hn1 hn2 (by decide)
        simp only [hm2] at r3
        have r4 := RJ.loop (k := k) r1 r3
        have eL : u ++ s1 :: dw :: (v ++ s2 :: dn :: (q ++ R)) = (u ++ s1 :: dw :: (v ++ [s2, dn])) ++ (q ++ R) := by simp
        rw [eL] at r4
        have := mF (kw := kw) hkw hkr hc1 hc2 (hdk x (by simp)).1 h1 hq hR (hread _ _ _ r4)
        have eT : (c :: (u ++ s1 :: dw :: (v ++ s2 :: dn :: q))) ++ R = c :: ((u ++ s1 :: dw :: (v ++ [s2, dn])) ++ (q ++ R)) := by simp
        rw [eT]
        exact this
      rcases hk with rfl | rfl
      · exact go dE 7 (by decide) (by decide) (by decide) (fun _ _ _ => RJ.FL) (fun x hx => hdk x hx (by decide)) (by rw [ht]; rfl)
      · exact go dI 8 (by decide) (by decide) (by decide) (fun _ _ _ => RJ.FY) (fun x hx => hdk x hx (by decide)) (by rw [ht]; rfl)
    | @each s w r x h0 h1 h2 h3 =>
      have ht' : t.map Tk.kt = kwK fh :: kwK s :: kwK rIn :: (w.map jS ++ (aW :: kwK rDo :: (aI x ++ (aW :: kwK bM :: cJ r)))) := by
        rw [ht]
        show [kwK fh, kwK s, kwK rIn] ++ ([] ++ w.map jS) ++ [aW, kwK rDo] ++ aI x ++ [aW, kwK bM] ++ cJ r = _
        simp
      obtain ⟨c, t2, rfl, hc1, hc2, ht2⟩ := bC ht'
      obtain ⟨nm, t3, rfl, hm1, hm2, ht3⟩ := bC ht2
      obtain ⟨iw, t4, rfl, hi1, hi2, ht4⟩ := bC ht3
      obtain ⟨u, t5, rfl, hu, ht5⟩ := fl ht4
      obtain ⟨s1, t6, rfl, hs1, -, ht6⟩ := bC ht5
      obtain ⟨dw, t7, rfl, hd1, hd2, ht7⟩ := bC ht6
      obtain ⟨v, t8, rfl, hv, ht8⟩ := fl ht7
      obtain ⟨s2, t9, rfl, hs2, -, ht9⟩ := bC ht8
      obtain ⟨dn, q, rfl, hn1, hn2, hq⟩ := bC ht9
      have hE : cV ⟨nm :: iw :: (u ++ s1 :: dw :: (v ++ s2 :: dn :: (q ++ R))), 0⟩ = (s, w, ⟨dw :: (v ++ s2 :: dn :: (q ++ R)), 0⟩) := BM h0 h1 ⟨hm1, hm2⟩ ⟨hi1, hi2⟩ hu hs1 (by rw [du, hd1]; decide)
      have hm : az rDo ⟨dw :: (v ++ s2 :: dn :: (q ++ R)), 0⟩ = ⟨v ++ s2 :: dn :: (q ++ R), 0⟩ := gU hd1 hd2 (by decide)
      have r2 : aD (.block (d + 1) (az rDo ⟨dw :: (v ++ s2 :: dn :: (q ++ R)), 0⟩)) ⟨[x], false, ⟨dn :: (q ++ R), 0⟩⟩ := by
        rw [hm]; exact fC (hl x (by simp)) h3 (ih' x (by simp)).2.2.2 (hdk x (by simp) (by decide)).2 hv hs2 hn1 hn2 (by decide) (by decide)
      have r3 := RJ.body r2
      have hm2' : az bM ⟨dn :: (q ++ R), 0⟩ = ⟨q ++ R, 0⟩ := gU hn1 hn2 (by decide)
      simp only [hm2'] at r3
      have r4 : aD (.each (d + 1) ⟨nm :: iw :: (u ++ s1 :: dw :: (v ++ s2 :: dn :: (q ++ R))), 0⟩) ⟨[.mk 9 false s [] w [] [x]], false, ⟨q ++ R, 0⟩⟩ := by
        have := RJ.each (d := d + 1) (p := ⟨nm :: iw :: (u ++ s1 :: dw :: (v ++ s2 :: dn :: (q ++ R))), 0⟩) (x := ⟨[x], false, ⟨q ++ R, 0⟩⟩) (by rw [hE]; exact r3)
        rw [hE] at this
        exact this
      have eL : nm :: iw :: (u ++ s1 :: dw :: (v ++ s2 :: dn :: (q ++ R))) = (nm :: iw :: (u ++ s1 :: dw :: (v ++ [s2, dn]))) ++ (q ++ R) := by simp
      rw [eL] at r4
      have := mF (kw := fh) (by decide) (by decide) hc1 hc2 (hdk x (by simp) (by decide)).1 h2 hq hR (RJ.FK r4)
      have eT : (c :: nm :: iw :: (u ++ s1 :: dw :: (v ++ s2 :: dn :: q))) ++ R = c :: ((nm :: iw :: (u ++ s1 :: dw :: (v ++ [s2, dn]))) ++ (q ++ R)) := by simp
      rw [eT]
      exact this
    | @group r x h1 h2 =>
      have ht' : t.map Tk.kt = kwK im :: (aI x ++ (aW :: kwK eO :: cJ r)) := by
        rw [ht]; show kwK im :: aI x ++ [aW, kwK eO] ++ cJ r = _; simp
      obtain ⟨c, t2, rfl, hc1, hc2, ht2⟩ := bC ht'
      obtain ⟨u, t3, rfl, hu, ht3⟩ := fl ht2
      obtain ⟨s1, t4, rfl, hs1, -, ht4⟩ := bC ht3
      obtain ⟨z, q, rfl, hz1, hz2, hq⟩ := bC ht4
      have r1 : aD (.block (d + 1) ⟨u ++ s1 :: z :: (q ++ R), 0⟩) ⟨[x], false, ⟨z :: (q ++ R), 0⟩⟩ := fC (hl x (by simp)) h2 (ih' x (by simp)).2.2.2 (hdk x (by simp) (by decide)).2 hu hs1 hz1 hz2 (by decide) (by decide)
      have r2 := RJ.group r1
      have hm : az eO ⟨z :: (q ++ R), 0⟩ = ⟨q ++ R, 0⟩ := gU hz1 hz2 (by decide)
      simp only [hm] at r2
      have eL : u ++ s1 :: z :: (q ++ R) = (u ++ [s1, z]) ++ (q ++ R) := by simp
      rw [eL] at r2
      have := mF (kw := im) (by decide) (by decide) hc1 hc2 (hdk x (by simp) (by decide)).1 h1 hq hR (RJ.F2 r2)
      have eT : (c :: (u ++ s1 :: z :: q)) ++ R = c :: ((u ++ [s1, z]) ++ (q ++ R)) := by simp
      rw [eT]
      exact this
  have hpipe : xX (.mk k b s a w r l) := by
    intro k3 k4 k5 d t R hd ht hR h6
    by_cases hpk : cA k = true
    · have hc := hcmd hpk d t R hd ht hR
      have hb := (iz (n := .mk k b s a w r l) hs (nf k5) (R := R) ht).2.2.2.2 hpk
      exact RJ.pipe hb (RJ.sL (acc := []) hc h6)
    · cases hsh with
      | simple _ _ _ _ _ => exact absurd rfl hpk
      | joined hk _ _ => rcases hk with rfl | rfl <;> simp [Nd.kind] at k3 k4
      | list _ _ => exact absurd rfl k5
      | branches _ _ _ => exact absurd rfl hpk
      | loop hk _ _ _ => rcases hk with rfl | rfl <;> exact absurd rfl hpk
      | each _ _ _ _ => exact absurd rfl hpk
      | group _ _ => exact absurd rfl hpk
      | pipe h1 h2 =>
        have hdl : ∀ x ∈ l, d + aV x ≤ 16 := fun x hx => by
          have := iY (k := 2) (b := b) (s := []) (a := []) (w := []) (r := []) hx
          omega
        have hkl : ∀ x ∈ l, Shp x ∧ cA x.kind = true ∧ vV x := fun x hx => ⟨hl x hx, h2 x hx, (ih' x hx).1⟩
        have hne : l ≠ [] := by rintro rfl; rcases h1 with h1 | h1 <;> simp at h1
        rw [il] at ht
        cases b with
        | true =>
          have ht' : t.map Tk.kt = kwK dU :: jq [ft] (l.map aI) := ht
          obtain ⟨c, t2, rfl, hc1, hc2, ht2⟩ := bC ht'
          have hres : aG ⟨c :: t2 ++ R, 0⟩ = dU := jN hc1 hc2 (by decide)
          exact RJ.CL hres (n6 l hne hkl d [] t2 R hdl ht2 hR h6)
        | false =>
          have ht' : t.map Tk.kt = jq [ft] (l.map aI) := ht
          have hl2 : 1 < l.length := by rcases h1 with h1 | h1
                                        · exact h1
                                        · exact absurd h1.1 (by decide)
          have hb : aG ⟨t ++ R, 0⟩ ≠ dU := by
            match l, hl2, hkl, ht' with
            | x :: y :: l, _, hkl, ht' =>
              have ht'' : t.map Tk.kt = aI x ++ ([ft] ++ jq [ft] ((y :: l).map aI)) := by
                rw [ht']; show aI x ++ [ft] ++ _ = _; rw [Jj]; rfl
              obtain ⟨u, v, rfl, hu, -⟩ := fl ht''
              obtain ⟨hsx, hpx, -⟩ := hkl x (by simp)
              have := (iz hsx (nf (by intro e; rw [e] at hpx; exact absurd hpx (by decide))) (R := v ++ R) hu).2.2.2.2 hpx
              rw [Jj]; exact this
          have hp := RJ.pipe hb (n6 l hne hkl d [] t R hdl ht' hR h6)
          have ho : fz 2 ([] ++ l) = [ndK 2 l] := by
            match l, hl2 with
            | x :: y :: l, _ => rfl
          simp only [ho] at hp
          exact hp
  have hchain : ni (.mk k b s a w r l) := by
    intro k5 d t R y hd ht hR h6 hy
    by_cases hk : k = 3 ∨ k = 4
    · cases hsh with
      | simple _ _ _ _ _ => rcases hk with hk | hk <;> simp at hk
      | pipe _ _ => rcases hk with hk | hk <;> simp at hk
      | list _ _ => rcases hk with hk | hk <;> simp at hk
      | branches _ _ _ => rcases hk with hk | hk <;> simp at hk
      | loop hk' _ _ _ => omega
      | each _ _ _ _ => rcases hk with hk | hk <;> simp at hk
      | group _ _ => rcases hk with hk | hk <;> simp at hk
      | @joined k x z _ h1 h2 =>
        have go : ∀ (op : Kt) (K : Int), (op.1 = 4 ∧ K = 3 ∨ op.1 = 5 ∧ K = 4) → k = K → t.map Tk.kt = aI x ++ (op :: aI z) → aD (.chain d ⟨t ++ R, 0⟩) y := by
          rintro op K ho rfl ht
          obtain ⟨u, v, rfl, hu, hv⟩ := fl ht
          obtain ⟨c, v, rfl, hc, -, hv⟩ := bC hv
          have hdx := iY (k := k) (b := false) (s := []) (a := []) (w := []) (r := []) (l := [x, z]) (x := x) (by simp)
          have hdz := iY (k := k) (b := false) (s := []) (a := []) (w := []) (r := []) (l := [x, z]) (x := z) (by simp)
          have hnw : NW (c :: (v ++ R)) := by unfold NW; rw [du, hc]; rcases ho with ⟨e, _⟩ | ⟨e, _⟩ <;> rw [e] <;> decide
          have hz2 := (iz (hl z (by simp)) (nf h2.1) (R := R) hv).2.2.1
          have hp := (ih' z (by simp)).2.1 h2.2.1 h2.2.2 h2.1 d v R (by omega) hv hR h6
          have hck : ai ⟨c :: (v ++ R), 0⟩ = op.1 := hc
          have hg : aD (.chainL d [x] ⟨c :: (v ++ R), 0⟩) y := by
            refine RJ.AH (x := ⟨[z], false, ⟨R, 0⟩⟩) (by rw [hck]; rcases ho with ⟨e, _⟩ | ⟨e, _⟩ <;> rw [e] <;> decide) (by show aD (.pipe d (aA ⟨v ++ R, 0⟩)) _; rw [gX hz2]; exact hp) ?_
            have eK : (if ai ⟨c :: (v ++ R), 0⟩ = 4 then (3 : Int) else 4) = k := by
              rw [hck]; rcases ho with ⟨e, e'⟩ | ⟨e, e'⟩ <;> rw [e, e'] <;> rfl
            rw [eK]
            exact hy
          have := (ih' x (by simp)).2.2.1 h1 d u (c :: (v ++ R)) y (by omega) hu hnw (by rw [du, hc]; rcases ho with ⟨e, _⟩ | ⟨e, _⟩ <;> rw [e] <;> decide) hg
          rw [Jj]
          exact this
        rw [il] at ht
        rcases hk with rfl | rfl
        · exact go vP 3 (.inl ⟨rfl, rfl⟩) rfl (by rw [ht]; show aI x ++ [vP] ++ aI z = _; simp)
        · exact go orK 4 (.inr ⟨rfl, rfl⟩) rfl (by rw [ht]; show aI x ++ [orK] ++ aI z = _; simp)
    · exact RJ.chain (hpipe (fun e => hk (.inl e)) (fun e => hk (.inr e)) k5 d t R hd ht hR h6) hy
  refine ⟨hcmd, hpipe, hchain, ?_⟩
  intro hb d t R R' st hd ht hf
  by_cases k5 : k = 5
  · cases hsh with
    | simple _ _ _ _ _ => simp at k5
    | pipe _ _ => simp at k5
    | joined hk' _ _ => omega
    | branches _ _ _ => simp at k5
    | loop hk' _ _ _ => omega
    | each _ _ _ _ => simp at k5
    | group _ _ => simp at k5
    | list h1 h2 =>
      have hne : l ≠ [] := by rintro rfl; exact absurd hb (by decide)
      rw [il] at ht
      have hr := uU l hne (fun n hn => ⟨hl n hn, h2 n hn, (ih' n hn).2.2.1⟩) d [] t R R' st (fun x hx => by
          have := iY (k := 5) (b := false) (s := []) (a := []) (w := []) (r := []) hx
          omega) ht hf
      have := RJ.list hr
      have ho : fz 5 ([] ++ l) = [ndK 5 l] := by
        match l, hne, h1 with
        | [x], _, h1 => exact absurd rfl h1
        | x :: y :: l, _, _ => rfl
      simp only [ho] at this
      exact this
  · exact RJ.list (vJ (acc := []) hchain k5 hd ht hf)
theorem qq {n:Nd} (h:eF n=true):Reads (aK n) (.ok n):=by
 obtain⟨l,hl,hk⟩:=zZ h
 have hm:=h
 unfold eF at h
 simp only[Bool.and_eq_true,List.all_eq_true,decide_eq_true_eq] at h
 obtain⟨⟨⟨hs,hc⟩,hd⟩,hx⟩:=h
 have hs:Shp n:=hs
 unfold Reads
 rw[hl]
 have hws:(aB n).any (fun m=>decide (256<m.ws.length))=false:=by
  rw[List.any_eq_false]
  intro m hm
  have h1:=hs m hm
  obtain⟨k,b,s,a,w,r,l⟩:=m
  simp only[decide_eq_true_eq,Nat.not_lt]
  show w.length≤256
  cases fT h1 with
  |simple _ _ h2 _ _=>exact(jQ h2).1
  |each _ h2 _ _=>exact(jQ h2).1
  |_=>exact Nat.zero_le _
 by_cases hb:cf n=true
 ·obtain⟨hne,f1,f2,-⟩:=iz hs hb (R:=[]) hk
  rw[List.append_nil] at f1 f2
  refine⟨n,⟨[],0⟩,?_,?_⟩
  ·rw[gX f2,if_neg (show¬ai ⟨l,0⟩=0 from f1)]
   have:=(DL n hs).2.2.2 hb 0 l [] [] false (by omega) hk (.inr ⟨rfl,rfl,rfl⟩)
   rw[List.append_nil] at this
   exact⟨false,this⟩
  ·rw[if_neg (by decide),if_neg (fun e=>e.elim (fun e=>by omega) (fun e=>by rw[hws] at e;cases e)),if_neg (by rw[hm];decide)]
 ·obtain⟨k,b,s,a,w,r,L⟩:=n
  have e:k=5∧L=[]:=by
   unfold cf at hb
   simp only[Bool.or_eq_true,bne_iff_ne,ne_eq,Bool.not_eq_true',List.isEmpty_eq_false_iff,not_or,Decidable.not_not] at hb
   exact hb
  obtain⟨rfl,rfl⟩:=e
  have h1:=hs.open.1
  cases fT h1 with
  |list _ _=>
   have hk':l.map Tk.kt=[]:=by rw[hk,il];rfl
   cases nT hk'
   refine⟨ndK 5 [],⟨[],0⟩,?_,?_⟩
   ·rw[if_pos (show ai (aA ⟨[],0⟩)=0 from rfl)];exact⟨rfl,rfl⟩
   ·have hm':eF (ndK 5 [])=true:=hm
    rw[if_neg (by decide),if_neg (by decide),if_neg (by rw[hm'];decide)];rfl
end Go.Proofs.YtgigdlhcjahejaaGreatDoor
