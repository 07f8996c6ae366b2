import Derived.Test.YtgigdlhcjahejaaGreatDoorF40
set_option linter.all false
namespace Go.Proofs.YtgigdlhcjahejaaGreatDoor
open Go Go.RowKit Go.Lw
theorem bX {p:Ps} {e:Nat} (h:p.e≠0∨e≠0):(bm p e).e≠0:=by
 show(if p.e=0 then e else p.e)≠0
 split
 ·rename_i h0;exact h.elim (fun h=>absurd h0 h) id
 ·assumption
theorem fV (p:Ps):(aL p).2.e=p.e:=by
 unfold aL;split<;>rfl
theorem mq {s:LB} {p:Ps} (h:p.e≠0):(ay s p).e≠0:=by
 unfold ay
 split
 ·exact h
 ·exact bX (.inl h)
theorem yM {p:Ps} (h:p.e≠0):(aP p).2.e≠0:=by
 unfold aP
 split
 ·exact bX (.inl h)
 ·split
  ·split
   ·exact h
   ·exact bX (.inl h)
  ·exact bX (.inl h)
theorem Al {p p':Ps} {x:Int×LP} (h:bf p=some (x,p')) (he:p.e≠0):p'.e≠0:=by
 unfold bf at h
 split at h
 ·cases h
 ·cases h;exact yM he
theorem js:∀(n:Nat) (p:Ps),p.e≠0→(a8 n p).2.e≠0
 |0,p,h=>h
 |n+1,p,h=>by
  unfold a8
  split
  ·exact h
  ·rename_i x p' hr
   exact js n p' (Al hr h)
theorem Bf {m m':Sm} {p p':Ps} (h:aR m p=some (m',p')) (he:p.e≠0):p'.e≠0:=by
 unfold aR at h
 split at h
 ·rename_i x q hr;cases h;exact Al hr he
 ·split at h
  ·cases h
  ·split at h
   ·split at h
    ·cases h;exact he
    ·split at h
     ·cases h;exact bX (.inl he)
     ·cases h;exact yM he
   ·cases h
theorem lD:∀(n:Nat) (m:Sm) (p:Ps),p.e≠0→(aG n m p).2.e≠0
 |0,m,p,h=>h
 |n+1,m,p,h=>by
  unfold aG
  split
  ·exact h
  ·rename_i x hx
   obtain⟨m',p'⟩:=x
   exact lD n m' p' (Bf hx h)
theorem vH {p:Ps} (h:p.e≠0):(aS p).2.e≠0:=by
 have h1:=lD (p.r.length+1) ⟨[],[],[]⟩ p h
 unfold aS
 simp only
 split
 ·exact bX (.inl h1)
 ·exact h1
theorem lK:∀(n:Nat) (p:Ps),p.e≠0→(bs n p).2.e≠0
 |0,p,h=>h
 |n+1,p,h=>by
  unfold bs
  split
  ·exact lK n _ (yM h)
  ·exact h
theorem EF {p:Ps} (h:p.e≠0):(bD p).2.e≠0:=by
 unfold bD
 split
 ·exact bX (.inl h)
 ·split
  ·exact h
  ·exact bX (.inl h)
theorem CN {p:Ps} (h:p.e≠0):(bL p).2.2.e≠0:=by
 rw[ev]
 have h2:=mq (s:=rIn) (p:=aD (bD p).2) (EF h)
 have h3:=lK ((ay rIn (aD (bD p).2)).r.length+1) _ h2
 show(dP (bN _).2).e≠0
 unfold dP
 split
 ·rw[fV];exact h3
 ·exact bX (.inl h3)
theorem iP:∀(n:Nat) (j:Job) (x:Rd9),run n j=some x→j.p.e≠0→x.p.e≠0
 |0,_,_,h,_=>by cases h
 |n+1,j,x,h,he=>by
  have ih:=iP n
  cases j<;>unfold run at h
  case block d p=>
   obtain⟨y,hy,rfl⟩:=Jh.1 h
   have h1:=ih _ _ hy he
   show(if y.st then y.p else bm y.p 5).e≠0
   split
   ·exact h1
   ·exact bX (.inl h1)
  case list d p=>
   obtain⟨y,hy,rfl⟩:=Jh.1 h
   show y.p.e≠0
   exact ih _ _ hy he
  case kids d acc p=>
   obtain⟨y,hy,hz⟩:=Ji.1 h
   have h1:=ih _ _ hy he
   split at hz
   ·split at hz
    ·exact ih _ _ hz (by show(aL y.p).2.e≠0;rw[fV];exact h1)
    ·cases hz;show(aL y.p).2.e≠0;rw[fV];exact h1
   ·cases hz;exact h1
  case chain d p=>
   obtain⟨y,hy,hz⟩:=Ji.1 h
   exact ih _ _ hz (ih _ _ hy he)
  case chainL d l p=>
   split at h
   ·obtain⟨y,hy,hz⟩:=Ji.1 h
    exact ih _ _ hz (ih _ _ hy he)
   ·cases h;exact he
  case pipe d p=>
   obtain⟨y,hy,rfl⟩:=Jh.1 h
   show y.p.e≠0
   exact ih _ _ hy (by show(if aI p=dx then aJ p else p).e≠0;split<;>exact he)
  case pipeL d acc p=>
   obtain⟨y,hy,hz⟩:=Ji.1 h
   have h1:=ih _ _ hy he
   split at hz
   ·exact ih _ _ hz h1
   ·cases hz;exact h1
  case command d p=>
   split at h
   ·cases h;exact vH he
   ·split at h
    ·cases h;exact bX (.inl he)
    ·split at h
     ·cases h;exact bX (.inl he)
     ·obtain⟨y,hy,rfl⟩:=Jh.1 h
      exact js _ _ (ih _ _ hy he)
  case read d s p=>
   split at h
   ·exact ih _ _ h he
   ·split at h
    ·exact ih _ _ h he
    ·split at h
     ·exact ih _ _ h he
     ·split at h
      ·exact ih _ _ h he
      ·exact ih _ _ h he
  case branches d acc p=>
   obtain⟨y,hy,h⟩:=Ji.1 h
   obtain⟨z,hz,h⟩:=Ji.1 h
   have h1:=ih _ _ hz (mq (ih _ _ hy he))
   split at h
   ·exact ih _ _ h h1
   ·split at h
    ·obtain⟨u,hu,rfl⟩:=Jh.1 h
     exact mq (ih _ _ hu h1)
    ·cases h;exact mq h1
  case loop d k p=>
   obtain⟨y,hy,h⟩:=Ji.1 h
   obtain⟨z,hz,rfl⟩:=Jh.1 h
   show z.p.e≠0
   exact ih _ _ hz (ih _ _ hy he)
  case body d p=>
   obtain⟨y,hy,rfl⟩:=Jh.1 h
   exact mq (ih _ _ hy (mq he))
  case each d p=>
   obtain⟨y,hy,rfl⟩:=Jh.1 h
   show y.p.e≠0
   exact ih _ _ hy (CN he)
  case group d p=>
   obtain⟨y,hy,rfl⟩:=Jh.1 h
   exact mq (ih _ _ hy he)
theorem cg {n:Nat} {j:Job} {x:Rd9} (h:run n j=some x) (he:x.p.e=0):j.p.e=0:=by
 rcases Nat.eq_zero_or_pos j.p.e with h0|h0
 ·exact h0
 ·exact absurd he (iP n j x h (by omega))
def Job.bad:Job→Prop
 |.block _ p=>ag (aD p)=0∨ag (aD p)=3
 |.list _ p=>ag p=0∨ag p=3
 |.kids _ _ p=>ag p=0∨ag p=3
 |.chain _ p=>ag p=0∨ag p=3
 |.pipe _ p=>ag p=0∨ag p=3
 |.pipeL _ _ p=>ag p=0∨ag p=3
 |.command _ p=>ag p=0∨ag p=3
 |_=>False
theorem rm {p:Ps} (h:ag p=0∨ag p=3):aI p=[]:=by
 obtain⟨r,e⟩:=p
 cases r with
 |nil=>rfl
 |cons t r=>
  have hk:t.kind=0∨t.kind=3:=h
  rw[fm,Js (fun e=>by omega)]
theorem yZ {p:Ps} (h:ag p=0∨ag p=3):(aS p).2.e≠0:=by
 have hn:aR ⟨[],[],[]⟩ p=none:=by
  unfold aR bf
  rw[Jt (by omega)]
  obtain⟨r,e⟩:=p
  cases r with
  |nil=>rfl
  |cons t r=>
   have hk:t.kind=0∨t.kind=3:=h
   exact Js (by omega)
 unfold aS
 rw[pP hn]
 simp only[if_true]
 exact bX (.inr (by decide))
theorem iD:∀(n:Nat) (j:Job) (x:Rd9),run n j=some x→j.bad→x.p.e≠0
 |0,_,_,h,_=>by cases h
 |n+1,j,x,h,hb=>by
  have ih:=iD n
  cases j<;>unfold run at h
  case block d p=>
   obtain⟨y,hy,rfl⟩:=Jh.1 h
   have h1:=ih _ _ hy hb
   show(if y.st then y.p else bm y.p 5).e≠0
   split
   ·exact h1
   ·exact bX (.inl h1)
  case list d p=>
   obtain⟨y,hy,rfl⟩:=Jh.1 h
   show y.p.e≠0
   exact ih _ _ hy hb
  case kids d acc p=>
   obtain⟨y,hy,hz⟩:=Ji.1 h
   have h1:=ih _ _ hy hb
   split at hz
   ·split at hz
    ·exact iP _ _ _ hz (by show(aL y.p).2.e≠0;rw[fV];exact h1)
    ·cases hz;show(aL y.p).2.e≠0;rw[fV];exact h1
   ·cases hz;exact h1
  case chain d p=>
   obtain⟨y,hy,hz⟩:=Ji.1 h
   exact iP _ _ _ hz (ih _ _ hy hb)
  case pipe d p=>
   obtain⟨y,hy,rfl⟩:=Jh.1 h
   rw[Js (by rw[rm hb];decide)] at hy
   show y.p.e≠0
   exact ih _ _ hy hb
  case pipeL d acc p=>
   obtain⟨y,hy,hz⟩:=Ji.1 h
   have h1:=ih _ _ hy hb
   split at hz
   ·exact iP _ _ _ hz h1
   ·cases hz;exact h1
  case command d p=>
   rw[Jt (rm hb)] at h
   cases h
   exact yZ hb
  all_goals exact hb.elim
def oS (k:Nat):Prop:=k=0∨k=1∨7≤k
def Gz (N:List Tk):Prop:=∀t∈N,t.kind=2
def Brk (E:List Tk):List Tk→List Tk→Prop
 |[],L=>L=E
 |t::l,L=>∃(t':Tk) (N l':List Tk),L=t'::(N++l')∧Gz N∧Brk E l l'∧(oS t.kind→t'.kind=t.kind∧t'.text=t.text∧N=[])∧(4≤t.kind→t.kind≤6→t'.kind=t.kind)∧(t.kind=2→t'.kind=2)∧(t.kind=3→t'.kind=2∨t'.kind=3)
def pO (E:List Tk):Prop:=E=[]∨hdk E=2
def aE (l:List Tk):List Tk:=l.dropWhile fun t=>t.kind==2
theorem lj (l:List Tk) (e:Nat):aD ⟨l,e⟩=⟨aE l,e⟩:=rfl
theorem eL {t:Tk} {l:List Tk} (h:t.kind=2):aE (t::l)=aE l:=by
 unfold aE;rw[List.dropWhile_cons,Jt (by rw[h];rfl)]
theorem ji {l:List Tk} (h:hdk l≠2):aE l=l:=by
 have:=Ed h
 rw[lj] at this
 exact congrArg Ps.r this
theorem nU:∀{N l:List Tk},Gz N→aE (N++l)=aE l
 |[],l,_=>rfl
 |t::N,l,h=>by rw[Jy,eL (h t Jz),nU (fun t ht=>h t (Qa _ ht))]
theorem nj:∀l:List Tk,hdk (aE l)≠2
 |[]=>by show(0:Nat)≠2;decide
 |t::l=>by
  by_cases h:t.kind=2
  ·rw[eL h];exact nj l
  ·rw[ji (show hdk (t::l)≠2 from h)];exact h
theorem Brk.rest {E:List Tk}:∀{l L:List Tk},Brk E l L→hdk (aE l)≠3→(aE l≠[]∧Brk E (aE l) (aE L))∨(aE l=[]∧aE L=aE E)
 |[],L,h,_=>.inr ⟨rfl,by rw[show L=E from h]⟩
 |t::l,L,h,h3=>by
  obtain⟨t',N,l',rfl,hN,hl,hh,ho,h2,h3'⟩:=h
  by_cases hk:t.kind=2
  ·rw[eL hk] at h3⊢
   rw[eL (h2 hk),nU hN]
   exact Brk.rest hl h3
  ·have e1:aE (t::l)=t::l:=ji hk
   rw[e1] at h3⊢
   have h3k:t.kind≠3:=h3
   have hk':t'.kind≠2:=by
    rcases(by unfold oS;omega:oS t.kind∨4≤t.kind∧t.kind≤6) with e|e
    ·rw[(hh e).1];exact hk
    ·rw[ho e.1 e.2];exact hk
   rw[ji (show hdk (t'::(N++l'))≠2 from hk')]
   exact .inl ⟨by simp,t',N,l',rfl,hN,hl,hh,ho,h2,h3'⟩
theorem Brk.tail {E:List Tk} {t:Tk} {l L:List Tk} (h:Brk E (t::l) L):∃l',Brk E l l'∧aE L.tail=aE l':=by
 obtain⟨t',N,l',rfl,hN,hl,-⟩:=h
 exact⟨l',hl,nU hN⟩
theorem Brk.qU {E:List Tk} {t:Tk} {l L:List Tk} (h:Brk E (t::l) L) (hk:oS t.kind):∃t' l',L=t'::l'∧t'.kind=t.kind∧t'.text=t.text∧Brk E l l':=by
 obtain⟨t',N,l',rfl,hN,hl,hh,-⟩:=h
 obtain⟨h1,h2,rfl⟩:=hh hk
 exact⟨t',l',rfl,h1,h2,hl⟩
theorem Brk.kind {E l L:List Tk} (h:Brk E l L) (hE:pO E) (k:Nat) (hk:k≠0) (h2:k≠2) (h3:k≠3):hdk l=k↔hdk L=k:=by
 cases l with
 |nil=>
  have e:L=E:=h
  rw[e]
  have h0:hdk ([]:List Tk)=0:=rfl
  rcases hE with rfl|hE
  ·exact Iff.rfl
  ·rw[h0,hE];omega
 |cons t l=>
  obtain⟨t',N,l',rfl,hN,hl,hh,ho,h2',h3'⟩:=h
  rw[wi,wi]
  rcases(by unfold oS;omega:oS t.kind∨4≤t.kind∧t.kind≤6∨t.kind=2∨t.kind=3) with e|e|e|e
  ·rw[(hh e).1]
  ·rw[ho e.1 e.2]
  ·have:=h2' e;omega
  ·have:=h3' e;omega
theorem Brk.lt7 {E l L:List Tk} (h:Brk E l L) (hE:pO E):hdk l<7↔hdk L<7:=by
 constructor
 ·intro h1
  rcases Nat.lt_or_ge (hdk L) 7 with h7|h7
  ·exact h7
  ·exact absurd ((h.kind hE (hdk L) (by omega) (by omega) (by omega)).2 rfl) (by omega)
 ·intro h1
  rcases Nat.lt_or_ge (hdk l) 7 with h7|h7
  ·exact h7
  ·exact absurd ((h.kind hE (hdk l) (by omega) (by omega) (by omega)).1 rfl) (by omega)
theorem Brk.uD {E l L:List Tk} (h:Brk E l L) (hE:pO E):aI ⟨L,0⟩=aI ⟨l,0⟩:=by
 by_cases h1:hdk l=1
 ·cases l with
  |nil=>cases h1
  |cons t l=>
   obtain⟨t',l',rfl,k1,k2,-⟩:=h.qU (.inr (.inl h1))
   rw[fm,fm,k1,k2]
 ·have h1':hdk L≠1:=fun e=>h1 ((h.kind hE 1 (by decide) (by decide) (by decide)).2 e)
  have key:∀R:List Tk,hdk R≠1→aI ⟨R,0⟩=[]:=fun R hR=>by
   cases R with
   |nil=>rfl
   |cons t r=>rw[fm,Js (fun e=>hR e.1)]
  rw[key _ h1,key _ h1']
theorem Brk.stop {E l L:List Tk} (h:Brk E l L) (hl:l≠[]):(aL ⟨L,0⟩).1=(aL ⟨l,0⟩).1:=by
 cases l with
 |nil=>exact absurd rfl hl
 |cons t l=>
  obtain⟨t',N,l',rfl,hN,hl,hh,ho,h2',h3'⟩:=h
  have key:∀(u:Tk) (r:List Tk),(aL ⟨u::r,0⟩).1=decide (u.kind=3∨u.kind=2):=fun u r=>by
   unfold aL
   show(if u.kind=3∨u.kind=2 then _ else _:Bool×Ps).1=_
   split
   ·rename_i e;exact(Jc e).symm
   ·rename_i e;exact(Jd e).symm
  rw[key,key]
  rcases(by unfold oS;omega:oS t.kind∨4≤t.kind∧t.kind≤6∨t.kind=2∨t.kind=3) with e|e|e|e
  ·rw[(hh e).1]
  ·rw[ho e.1 e.2]
  ·rw[h2' e,e]
  ·rw[e];exact(Jc (by have:=h3' e;omega)).trans (by decide)
theorem dW {p:Ps} (h:(aL p).1=true):(aL p).2=aJ p∧(ag p=3∨ag p=2):=by
 unfold aL at h⊢
 split
 ·rename_i e;exact⟨rfl,e⟩
 ·rename_i e;rw[Js e] at h;cases h
theorem cH {s:LB} {p:Ps} (h:(ay s p).e=0):p.e=0∧aI p=s:=by
 unfold ay at h
 split at h
 ·rename_i e;exact⟨h,e⟩
 ·exact absurd h (bX (.inr (by decide)))
theorem Brk.jq {E l L:List Tk} (h:Brk E l L) {s:LB} (hs:s≠[]) (he:(ay s ⟨l,0⟩).e=0):l≠[]∧hdk l=1∧∃L',ay s ⟨L,0⟩=⟨L',0⟩∧Brk E (ay s ⟨l,0⟩).r L':=by
 have h1:=(cH he).2
 have hk:hdk l=1:=cK (p:=⟨l,0⟩) (by rw[h1];exact hs)
 cases l with
 |nil=>cases hk
 |cons t l=>
  obtain⟨t',l',rfl,k1,k2,hl⟩:=h.qU (.inr (.inl hk))
  refine⟨by simp,hk,l',?_,?_⟩
  ·unfold ay
   rw[Jt (by rw[fm,k1,k2,←fm t l 0];exact h1)]
   rfl
  ·have:ay s ⟨t::l,0⟩=⟨l,0⟩:=by unfold ay;rw[Jt h1];rfl
   rw[this];exact hl
theorem Brk.word {E l L:List Tk} (h:Brk E l L) (he:(aP ⟨l,0⟩).2.e=0):∃L',aP ⟨L,0⟩=((aP ⟨l,0⟩).1,⟨L',0⟩)∧Brk E (aP ⟨l,0⟩).2.r L':=by
 cases l with
 |nil=>exact absurd he (bX (.inr (by decide)))
 |cons t l=>
  unfold aP at he⊢
  simp only at he⊢
  by_cases hk:t.kind=1
  ·obtain⟨t',l',rfl,k1,k2,hl⟩:=h.qU (.inr (.inl hk))
   simp only
   rw[Jt hk] at he⊢
   rw[Jt (k1.trans hk),k2]
   cases hp:bC t.text with
   |ok w=>exact⟨l',rfl,hl⟩
   |error e=>
    rw[hp] at he
    have h0:e=0:=he
    exact absurd h0 (fun h0=>by
     subst h0
     unfold bC at hp
     split at hp
     ·rename_i e' hx;cases hp;exact ig hx
     ·split at hp
      ·split at hp<;>cases hp
      ·cases hp)
  ·rw[Js hk] at he
   exact absurd he (bX (.inr (by decide)))
theorem Brk.mM {E l L:List Tk} (h:Brk E l L) (hE:pO E):(bf ⟨l,0⟩=none→bf ⟨L,0⟩=none)∧∀x p,bf ⟨l,0⟩=some (x,p)→p.e=0→∃L',bf ⟨L,0⟩=some (x,⟨L',0⟩)∧Brk E p.r L':=by
 refine⟨fun h0=>?_,fun x p h0 he=>?_⟩
 ·have h7:hdk l<7:=by
   rcases Nat.lt_or_ge (hdk l) 7 with h7|h7
   ·exact h7
   ·unfold bf at h0
    rw[Js (show¬ag ⟨l,0⟩<7 from Nat.not_lt.2 h7)] at h0;cases h0
  exact iF ((h.lt7 hE).1 h7)
 ·cases l with
  |nil=>cases h0
  |cons t l=>
   unfold bf at h0
   split at h0
   ·cases h0
   ·rename_i h7
    have h7':7≤t.kind:=Nat.not_lt.1 h7
    obtain⟨t',l',rfl,k1,k2,hl⟩:=h.qU (.inr (.inr h7'))
    cases h0
    obtain⟨L',e1,hb⟩:=hl.word he
    refine⟨L',?_,hb⟩
    unfold bf
    rw[Js (show¬ag ⟨t'::l',0⟩<7 from by show¬t'.kind<7;omega)]
    show some ((((t'.kind:Nat):Int),(aP ⟨l',0⟩).1),(aP ⟨l',0⟩).2)=some ((((t.kind:Nat):Int),(aP ⟨l,0⟩).1),⟨L',0⟩)
    rw[k1,e1]
theorem Brk.Cm {E:List Tk} (hE:pO E):∀(N N':Nat) (l L:List Tk),Brk E l L→l.length<N→L.length<N'→(a8 N ⟨l,0⟩).2.e=0→∃L',a8 N' ⟨L,0⟩=((a8 N ⟨l,0⟩).1,⟨L',0⟩)∧Brk E (a8 N ⟨l,0⟩).2.r L'
 |0,_,_,_,_,h,_,_=>by omega
 |_,0,_,_,_,_,h,_=>by omega
 |N+1,N'+1,l,L,h,hN,hN',he=>by
  unfold a8 at he⊢
  cases hr:bf ⟨l,0⟩ with
  |none=>
   rw[(h.mM hE).1 hr]
   exact⟨L,rfl,h⟩
  |some z=>
   obtain⟨x,p⟩:=z
   rw[hr] at he
   simp only at he⊢
   have hp0:p.e=0:=by
    rcases Nat.eq_zero_or_pos p.e with h0|h0
    ·exact h0
    ·exact absurd he (js N p (by omega))
   obtain⟨r,e⟩:=p
   obtain rfl:e=0:=hp0
   obtain⟨L1,e1,hb⟩:=(h.mM hE).2 x ⟨r,0⟩ hr rfl
   have l1:r.length<l.length:=dK hr
   have l2:L1.length<L.length:=dK e1
   rw[e1]
   simp only
   obtain⟨L',e2,hb'⟩:=Brk.Cm hE N N' r L1 hb (by omega) (by omega) he
   exact⟨L',by rw[e2],hb'⟩
theorem Brk.aR {E l L:List Tk} (h:Brk E l L) (hE:pO E) (m:Sm):(aR m ⟨l,0⟩=none→aR m ⟨L,0⟩=none)∧∀m' p,Go.Proofs.YtgigdlhcjahejaaGreatDoor.aR m ⟨l,0⟩=some (m',p)→p.e=0→∃L',Go.Proofs.YtgigdlhcjahejaaGreatDoor.aR m ⟨L,0⟩=some (m',⟨L',0⟩)∧Brk E p.r L':=by
 cases hr:bf ⟨l,0⟩ with
 |some z=>
  obtain⟨x,p⟩:=z
  have e:Go.Proofs.YtgigdlhcjahejaaGreatDoor.aR m ⟨l,0⟩=some (⟨m.al,m.ws,m.rs++[x]⟩,p):=C9 hr
  refine⟨fun h0=>(by rw[e] at h0;cases h0),fun m' p' h0 he=>?_⟩
  rw[e] at h0;cases h0
  obtain⟨L',e1,hb⟩:=(h.mM hE).2 x p hr he
  exact⟨L',C9 e1,hb⟩
 |none=>
  have hR:=(h.mM hE).1 hr
  by_cases hk:hdk l=1
  ·cases l with
   |nil=>cases hk
   |cons t l=>
    have hh:=h
    obtain⟨t',l',rfl,k1,k2,hl⟩:=h.qU (.inr (.inl hk))
    have hk1:t.kind=1:=hk
    unfold Go.Proofs.YtgigdlhcjahejaaGreatDoor.aR
    rw[hr,hR]
    simp only
    rw[Jt hk1,Jt (k1.trans hk1),k2]
    split
    ·refine⟨fun h0=>(by cases h0),fun m' p h0 he=>?_⟩
     cases h0
     exact⟨l',rfl,hl⟩
    ·split
     ·refine⟨fun h0=>(by cases h0),fun m' p h0 he=>?_⟩
      cases h0
      exact absurd he (bX (.inr (by decide)))
     ·refine⟨fun h0=>(by cases h0),fun m' p h0 he=>?_⟩
      cases h0
      obtain⟨L',e1,hb⟩:=hh.word he
      exact⟨L',by rw[e1],hb⟩
  ·have hk':hdk L≠1:=fun e=>hk ((h.kind hE 1 (by decide) (by decide) (by decide)).2 e)
   have key:∀R:List Tk,hdk R≠1→bf ⟨R,0⟩=none→Go.Proofs.YtgigdlhcjahejaaGreatDoor.aR m ⟨R,0⟩=none:=fun R h1 h2=>by
    unfold Go.Proofs.YtgigdlhcjahejaaGreatDoor.aR
    rw[h2]
    cases R with
    |nil=>rfl
    |cons t r=>exact Js h1
   refine⟨fun _=>key L hk' hR,fun m' p h0 _=>?_⟩
   rw[key l hk hr] at h0;cases h0
theorem Brk.aG {E:List Tk} (hE:pO E):∀(N N':Nat) (m:Sm) (l L:List Tk),Brk E l L→l.length<N→L.length<N'→(aG N m ⟨l,0⟩).2.e=0→∃L',Go.Proofs.YtgigdlhcjahejaaGreatDoor.aG N' m ⟨L,0⟩=((Go.Proofs.YtgigdlhcjahejaaGreatDoor.aG N m ⟨l,0⟩).1,⟨L',0⟩)∧Brk E (Go.Proofs.YtgigdlhcjahejaaGreatDoor.aG N m ⟨l,0⟩).2.r L'∧((Go.Proofs.YtgigdlhcjahejaaGreatDoor.aG N m ⟨l,0⟩).2.r.length<l.length→L'.length<L.length)
 |0,_,_,_,_,_,h,_,_=>by omega
 |_,0,_,_,_,_,_,h,_=>by omega
 |N+1,N'+1,m,l,L,h,hN,hN',he=>by
  cases hr:Go.Proofs.YtgigdlhcjahejaaGreatDoor.aR m ⟨l,0⟩ with
  |none=>
   rw[pP hr,pP ((h.aR hE m).1 hr)]
   exact⟨L,rfl,h,fun h=>by have h':l.length<l.length:=h;omega⟩
  |some z=>
   obtain⟨m',p⟩:=z
   rw[pF hr] at he⊢
   have hp0:p.e=0:=by
    rcases Nat.eq_zero_or_pos p.e with h0|h0
    ·exact h0
    ·exact absurd he (lD N m' p (by omega))
   obtain⟨r,e⟩:=p
   obtain rfl:e=0:=hp0
   obtain⟨L1,e1,hb⟩:=(h.aR hE m).2 m' ⟨r,0⟩ hr rfl
   have l1:r.length<l.length:=ej hr
   have l2:L1.length<L.length:=ej e1
   obtain⟨L',e2,hb',_⟩:=Brk.aG hE N N' m' r L1 hb (by omega) (by omega) he
   rw[pF e1]
   refine⟨L',e2,hb',fun _=>?_⟩
   have h3:(Go.Proofs.YtgigdlhcjahejaaGreatDoor.aG N' m' ⟨L1,0⟩).2.r.length≤L1.length:=gC _ _ _
   rw[e2] at h3
   have h3':L'.length≤L1.length:=h3
   omega
theorem Brk.simple {E l L:List Tk} (h:Brk E l L) (hE:pO E) (he:(aS ⟨l,0⟩).2.e=0):∃L',aS ⟨L,0⟩=((aS ⟨l,0⟩).1,⟨L',0⟩)∧Brk E (aS ⟨l,0⟩).2.r L':=by
 unfold aS at he⊢
 simp only at he⊢
 have hle:(Go.Proofs.YtgigdlhcjahejaaGreatDoor.aG (l.length+1) ⟨[],[],[]⟩ ⟨l,0⟩).2.r.length≤l.length:=gC _ _ _
 by_cases hq:(Go.Proofs.YtgigdlhcjahejaaGreatDoor.aG (l.length+1) ⟨[],[],[]⟩ ⟨l,0⟩).2.r.length=l.length
 ·rw[Jt hq] at he
  exact absurd he (bX (.inr (by decide)))
 ·rw[Js hq] at he⊢
  obtain⟨L',e1,hb,hl⟩:=Brk.aG hE (l.length+1) (L.length+1) ⟨[],[],[]⟩ l L h (Nat.lt_succ_self _) (Nat.lt_succ_self _) he
  have hl':=hl (by omega)
  rw[e1]
  simp only
  rw[Js (by omega)]
  exact⟨L',rfl,hb⟩
theorem Brk.words {E:List Tk} (hE:pO E):∀(N N':Nat) (l L:List Tk),Brk E l L→l.length<N→L.length<N'→(bs N ⟨l,0⟩).2.e=0→∃L',bs N' ⟨L,0⟩=((bs N ⟨l,0⟩).1,⟨L',0⟩)∧Brk E (bs N ⟨l,0⟩).2.r L'
 |0,_,_,_,_,h,_,_=>by omega
 |_,0,_,_,_,_,h,_=>by omega
 |N+1,N'+1,l,L,h,hN,hN',he=>by
  unfold bs at he⊢
  by_cases hk:hdk l=1
  ·have hk':hdk L=1:=(h.kind hE 1 (by decide) (by decide) (by decide)).1 hk
   have hkP:ag ⟨l,0⟩=1:=hk
   have hkP':ag ⟨L,0⟩=1:=hk'
   rw[Jt hkP] at he⊢
   rw[Jt hkP']
   simp only at he⊢
   have hp0:(aP ⟨l,0⟩).2.e=0:=by
    rcases Nat.eq_zero_or_pos (aP ⟨l,0⟩).2.e with h0|h0
    ·exact h0
    ·exact absurd he (lK N _ (by omega))
   obtain⟨L1,e1,hb⟩:=h.word hp0
   have l1:(aP ⟨l,0⟩).2.r.length<l.length:=fb hkP
   have l2:(aP ⟨L,0⟩).2.r.length<L.length:=fb hkP'
   have hps:(aP ⟨l,0⟩).2=⟨(aP ⟨l,0⟩).2.r,0⟩:=by
    cases hw:(aP ⟨l,0⟩).2 with
    |mk r e=>rw[hw] at hp0;exact congrArg (Ps.mk r) hp0
   rw[hps] at he⊢
   rw[e1] at l2⊢
   obtain⟨L',e2,hb'⟩:=Brk.words hE N N' _ L1 hb (by omega) (by show L1.length<N';have:L1.length<L.length:=l2;omega) he
   exact⟨L',by rw[e2],hb'⟩
  ·have hk':hdk L≠1:=fun e=>hk ((h.kind hE 1 (by decide) (by decide) (by decide)).2 e)
   rw[Js (show¬ag ⟨l,0⟩=1 from hk),Js (show¬ag ⟨L,0⟩=1 from hk')]
   exact⟨L,rfl,h⟩
