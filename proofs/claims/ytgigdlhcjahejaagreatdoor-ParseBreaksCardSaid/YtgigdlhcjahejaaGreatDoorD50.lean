/- Of the proof of ParseBreaks: BrkR, BrkS. -/
import Derived.Test.YtgigdlhcjahejaaGreatDoorD49
namespace Go.Proofs.YtgigdlhcjahejaaGreatDoor
open Go Go.RowKit Go.Lw
set_option linter.unusedVariables false
set_option linter.unusedSimpArgs false
def sw:Bool→List Tk→Prop
 |_,[]=>True
 |b,t::l=>(4≤t.kind→t.kind≤6→b=true)∧sw (t.kind==1) l
def qH:Bool→List Tk→Bool
 |b,[]=>b
 |_,t::l=>qH (t.kind==1) l
theorem sw.app:∀{b:Bool} {l m:List Tk},sw b l→sw (qH b l) m→sw b (l++m)
 |_,[],_,_,h=>h
 |_,t::l,m,h,k=>⟨h.1,sw.app h.2 k⟩
theorem qY:∀(b:Bool) (l m:List Tk),qH b (l++m)=qH (qH b l) m
 |_,[],_=>rfl
 |_,t::l,m=>qY (t.kind==1) l m
def Cons (b c:Bool) (l r:List Tk):Prop:=∃C,l=C++r∧sw b C∧qH b C=c
theorem Cons.refl (b:Bool) (l:List Tk):Cons b b l l:=⟨[],rfl,trivial,rfl⟩
theorem Cons.trans {a b c:Bool} {l m r:List Tk} (h:Cons a b l m) (k:Cons b c m r):Cons a c l r:=by
 obtain⟨C,rfl,h1,rfl⟩:=h
 obtain⟨D,rfl,k1,rfl⟩:=k
 exact⟨C++D,by rw[List.append_assoc],h1.app k1,qY _ _ _⟩
theorem Cons.one {b:Bool} {t:Tk} {l:List Tk} (h:4≤t.kind→t.kind≤6→b=true):Cons b (t.kind==1) (t::l) l:=⟨[t],rfl,⟨h,trivial⟩,rfl⟩
theorem Cons.rest (b:Bool):∀l:List Tk,∃c,Cons b c l (aI l)∧(hdk l≠2→c=b)∧(hdk l=2→c=false)
 |[]=>⟨b,.refl b _,fun _=>rfl,fun h=>by cases h⟩
 |t::l=>by
  by_cases h:t.kind=2
  ·obtain⟨c,h1,h2,h3⟩:=Cons.rest false l
   have h4:Cons b (t.kind==1) (t::l) l:= .one (fun e=>by omega)
   have e:(t.kind==1)=false:=by rw[h];rfl
   rw[e] at h4
   refine⟨c,by rw[gX h];exact h4.trans h1,fun e=>absurd h e,fun _=>?_⟩
   by_cases h5:hdk l=2
   ·exact h3 h5
   ·exact h2 h5
  ·exact⟨b,by rw[mi (show hdk (t::l)≠2 from h)];exact .refl b _,fun _=>rfl,fun e=>absurd e h⟩
theorem Cons.word {b:Bool} {l:List Tk} (he:(aL ⟨l,0⟩).2.e=0):Cons b true l (aL ⟨l,0⟩).2.r:=by
 cases l with
 |nil=>exact absurd he (bQ (.inr (by decide)))
 |cons t l=>
  unfold aL at he⊢
  simp only at he⊢
  by_cases hk:t.kind=1
  ·rw[if_pos hk] at he⊢
   have h1:Cons b (t.kind==1) (t::l) l:= .one (fun e=>by omega)
   rw[show(t.kind==1)=true by rw[hk];rfl] at h1
   cases hp:bF t.text with
   |ok w=>exact h1
   |error e=>
    rw[hp] at he
    have h0:e=0:=he
    exact absurd h0 (fun h0=>by
     subst h0
     unfold bF at hp
     split at hp
     ·rename_i e' hx;cases hp;exact gG hx
     ·split at hp
      ·split at hp<;>cases hp
      ·cases hp)
  ·rw[if_neg hk] at he
   exact absurd he (bQ (.inr (by decide)))
theorem Cons.i6 {b:Bool} {l:List Tk} {x:Int×List Prt} {p:Ps} (h:aT ⟨l,0⟩=some (x,p)) (he:p.e=0):Cons b true l p.r:=by
 cases l with
 |nil=>cases h
 |cons t l=>
  unfold aT at h
  split at h
  ·cases h
  ·rename_i h7
   have h7':7≤t.kind:=Nat.not_lt.1 h7
   cases h
   have h1:Cons b (t.kind==1) (t::l) l:= .one (fun _ e=>by omega)
   exact h1.trans (Cons.word he)
theorem Cons.oD:∀(N:Nat) (b:Bool) (l:List Tk),b=true→(aZ N ⟨l,0⟩).2.e=0→Cons b true l (aZ N ⟨l,0⟩).2.r
 |0,b,l,hb,_=>by subst hb;exact .refl _ _
 |N+1,b,l,hb,he=>by
  unfold aZ at he⊢
  cases hr:aT ⟨l,0⟩ with
  |none=>subst hb;exact .refl _ _
  |some z=>
   obtain⟨x,p⟩:=z
   rw[hr] at he
   simp only at he⊢
   have hp0:p.e=0:=by
    rcases Nat.eq_zero_or_pos p.e with h0|h0
    ·exact h0
    ·exact absurd he (ix N p (by omega))
   obtain⟨r,e⟩:=p
   obtain rfl:e=0:=hp0
   exact(Cons.i6 hr rfl).trans (Cons.oD N true r rfl he)
theorem Cons.aD:∀(N:Nat) (b:Bool) (m:Sm) (l:List Tk),(aD N m ⟨l,0⟩).2.e=0→∃c,Cons b c l (Go.Proofs.YtgigdlhcjahejaaGreatDoor.aD N m ⟨l,0⟩).2.r∧((Go.Proofs.YtgigdlhcjahejaaGreatDoor.aD N m ⟨l,0⟩).2.r.length<l.length→c=true)∧(b=true→c=true)
 |0,b,m,l,_=>⟨b,.refl _ _,fun h=>by have h':l.length<l.length:=h;omega,id⟩
 |N+1,b,m,l,he=>by
  cases hr:aQ m ⟨l,0⟩ with
  |none=>
   rw[sI hr]
   exact⟨b,.refl _ _,fun h=>by have h':l.length<l.length:=h;omega,id⟩
  |some z=>
   obtain⟨m',p⟩:=z
   rw[sx hr] at he⊢
   have hp0:p.e=0:=by
    rcases Nat.eq_zero_or_pos p.e with h0|h0
    ·exact h0
    ·exact absurd he (jG N m' p (by omega))
   obtain⟨r,e⟩:=p
   obtain rfl:e=0:=hp0
   have h1:Cons b true l r:=by
    unfold aQ at hr
    split at hr
    ·rename_i x q hx;cases hr;exact Cons.i6 hx rfl
    ·split at hr
     ·cases hr
     ·rename_i t r' ht
      have ht':l=t::r':=ht
      subst ht'
      split at hr
      ·rename_i hk
       have h1:Cons b (t.kind==1) (t::r') r':= .one (fun e=>by omega)
       rw[show(t.kind==1)=true by rw[hk];rfl] at h1
       split at hr
       ·cases hr;exact h1
       ·split at hr
        ·have:=congrArg (fun z=>z.map fun x=>x.2.e) hr
         simp only[Option.map_some,Option.some.injEq] at this
         exact absurd this (bQ (.inr (by decide)))
        ·have hw:=congrArg (fun z=>z.map fun x=>x.2) hr
         simp only[Option.map_some,Option.some.injEq] at hw
         have:=Cons.word (b:=b) (l:=t::r') (by rw[hw])
         rw[hw] at this
         exact this
      ·cases hr
   obtain⟨c,h2,h3,h4⟩:=Cons.aD N true m' r he
   exact⟨c,h1.trans h2,fun _=>h4 rfl,fun _=>h4 rfl⟩
theorem Cons.simple {b:Bool} {l:List Tk} (he:(aV ⟨l,0⟩).2.e=0):Cons b true l (aV ⟨l,0⟩).2.r:=by
 unfold aV at he⊢
 simp only at he⊢
 have hle:(Go.Proofs.YtgigdlhcjahejaaGreatDoor.aD (l.length+1) ⟨[],[],[]⟩ ⟨l,0⟩).2.r.length≤l.length:=fW _ _ _
 by_cases hq:(Go.Proofs.YtgigdlhcjahejaaGreatDoor.aD (l.length+1) ⟨[],[],[]⟩ ⟨l,0⟩).2.r.length=l.length
 ·rw[if_pos hq] at he
  exact absurd he (bQ (.inr (by decide)))
 ·rw[if_neg hq] at he⊢
  obtain⟨c,h1,h2,_⟩:=Cons.aD (l.length+1) b ⟨[],[],[]⟩ l he
  rw[h2 (by omega)] at h1
  exact h1
theorem Cons.words:∀(N:Nat) (b:Bool) (l:List Tk),b=true→(bm N ⟨l,0⟩).2.e=0→Cons b true l (bm N ⟨l,0⟩).2.r
 |0,b,l,hb,_=>by subst hb;exact .refl _ _
 |N+1,b,l,hb,he=>by
  unfold bm at he⊢
  split at he
  ·rename_i hk
   rw[if_pos hk]
   have hp0:(aL ⟨l,0⟩).2.e=0:=by
    rcases Nat.eq_zero_or_pos (aL ⟨l,0⟩).2.e with h0|h0
    ·exact h0
    ·exact absurd he (jU N _ (by omega))
   have h1:=Cons.word (b:=b) hp0
   have hps:=cA hp0
   simp only at he⊢
   rw[hps] at he⊢
   exact h1.trans (Cons.words N true _ rfl he)
  ·rename_i hk
   rw[if_neg hk]
   subst hb;exact .refl _ _
theorem Cons.fb {b:Bool} {s:List UInt8} {l:List Tk} (hs:s≠[]) (he:(ay s ⟨l,0⟩).e=0):Cons b true l (ay s ⟨l,0⟩).r:=by
 have h1:=(cv he).2
 have hk:hdk l=1:=bT (p:=⟨l,0⟩) (by rw[h1];exact hs)
 cases l with
 |nil=>cases hk
 |cons t l=>
  have:ay s ⟨t::l,0⟩=⟨l,0⟩:=by unfold ay;rw[if_pos h1];rfl
  rw[this]
  have h2:Cons b (t.kind==1) (t::l) l:= .one (fun e=>by have h':t.kind=1:=hk;omega)
  rw[show(t.kind==1)=true by have h':t.kind=1:=hk;rw[h'];rfl] at h2
  exact h2
theorem Cons.stop {b:Bool} {l:List Tk} (h:(aE ⟨l,0⟩).1=true):Cons b false l l.tail:=by
 obtain⟨-,hk⟩:=eO h
 cases l with
 |nil=>rcases hk with hk|hk<;>cases hk
 |cons t l=>
  have hk':t.kind=3∨t.kind=2:=hk
  have h2:Cons b (t.kind==1) (t::l) l:= .one (fun e=>by omega)
  rw[show(t.kind==1)=false by rcases hk' with e|e<;>rw[e]<;>rfl] at h2
  exact h2
theorem Cons.any {b c:Bool} {l m r:List Tk} (h:∃c,Cons b c l m) (k:∀b,Cons b c m r):Cons b c l r:=by
 obtain⟨d,h⟩:=h
 exact h.trans (k d)
theorem Cons.qU (b:Bool) (l:List Tk):∃c,Cons b c l (aI l):=by
 obtain⟨c,h,_⟩:=Cons.rest b l
 exact⟨c,h⟩
theorem Cons.hd {b:Bool} {l:List Tk} (h:hdk l=1):Cons b true l l.tail:=by
 cases l with
 |nil=>cases h
 |cons t l=>
  have h':t.kind=1:=h
  have h2:Cons b (t.kind==1) (t::l) l:= .one (fun e=>by omega)
  rw[show(t.kind==1)=true by rw[h'];rfl] at h2
  exact h2
theorem Cons.op {l:List Tk} (h:hdk l≠0):∃c,Cons true c l l.tail:=by
 cases l with
 |nil=>exact absurd rfl h
 |cons t l=>exact⟨_,.one (fun _ _=>rfl)⟩
theorem Cons.each {b:Bool} {l:List Tk} (he:(bR ⟨l,0⟩).2.2.e=0):∃c,Cons b c l (bR ⟨l,0⟩).2.2.r:=by
 rw[dV] at he⊢
 simp only at he⊢
 have hs:(dx (bV (ay rIn (az (bp ⟨l,0⟩).2))).2).e=0:=he
 unfold dx at hs
 split at hs
 ·rename_i hst
  rw[gC] at hs
  have hm:(ay rIn (az (bp ⟨l,0⟩).2)).e=0:=by
   rcases Nat.eq_zero_or_pos (ay rIn (az (bp ⟨l,0⟩).2)).e with h|h
   ·exact h
   ·exact absurd hs (jU _ _ (by omega))
  have hq1:(bp ⟨l,0⟩).2.e=0:=(cv hm).1
  have hn:∃r,(bp ⟨l,0⟩).2=⟨r,0⟩∧Cons b true l r:=by
   cases l with
   |nil=>exact absurd hq1 (bQ (.inr (by decide)))
   |cons t r=>
    by_cases hc:t.kind=1∧dH t.text=true
    ·refine⟨r,?_,Cons.hd (l:=t::r) hc.1⟩
     unfold bp;simp only;rw[if_pos hc]
    ·exfalso
     have:(bp ⟨t::r,0⟩).2=aX ⟨t::r,0⟩ 5:=by
      unfold bp
      simp only
      rw[if_neg hc]
     rw[this] at hq1
     exact bQ (.inr (by decide)) hq1
  obtain⟨r,hr,hc⟩:=hn
  rw[hr] at hm hs hst⊢
  have h1:Cons b true l (ay rIn (az ⟨r,0⟩)).r:=hc.trans (Cons.any (Cons.qU true r) (fun b=>Cons.fb (by decide) hm))
  have hmp:=cA hm
  obtain⟨m,hme⟩:∃m,(ay rIn (az ⟨r,0⟩)).r=m:=⟨_,rfl⟩
  rw[hme] at h1 hmp
  rw[hmp] at hs hst⊢
  have h2:Cons b true l (bV ⟨m,0⟩).2.r:=h1.trans (Cons.words _ true m rfl hs)
  have hwp:=cA hs
  obtain⟨v,hve⟩:∃v,(bV ⟨m,0⟩).2.r=v:=⟨_,rfl⟩
  rw[hve] at h2 hwp
  rw[hwp] at hst⊢
  have h3:=h2.trans (Cons.stop (b:=true) hst)
  have hes:dx ⟨v,0⟩=⟨v.tail,0⟩:=by
   unfold dx
   rw[if_pos hst,(eO hst).1];rfl
  rw[hes]
  obtain⟨c,h4⟩:=Cons.qU false v.tail
  exact⟨c,h3.trans h4⟩
 ·exact absurd hs (bQ (.inr (by decide)))
def Job.wd:Job→Bool
 |.kids _ _ _=>false
 |.list _ _=>false
 |.block _ _=>false
 |_=>true
def Job.bh:Job→Bool
 |.chainL _ _ _=>true
 |_=>false
theorem pF:∀(n:Nat) (j:Job) (x:Rd9),run n j=some x→x.p.e=0→∀b,(j.bh=true→b=true)→∃c,Cons b c j.p.r x.p.r∧(j.wd=true→c=true)
 |0,_,_,h=>by cases h
 |n+1,j,x,h=>by
  have ih:=pF n
  intro he b hbh
  have hpe:=bX h he
  cases j<;>unfold run at h
  case block d0 p=>
   obtain⟨y,hy,rfl⟩:=Option.map_eq_some_iff.1 h
   have hst:y.st=true:=by
    cases hs:y.st with
    |true=>rfl
    |false=>
     have he':(if y.st then y.p else aX y.p 5).e=0:=he
     rw[hs] at he'
     exact absurd he' (bQ (.inr (by decide)))
   have hx:(if y.st then y.p else aX y.p 5)=y.p:=by rw[hst];rfl
   have hye:y.p.e=0:=by
    have he':(if y.st then y.p else aX y.p 5).e=0:=he
    rw[hx] at he';exact he'
   obtain⟨c,h1⟩:=Cons.qU b p.r
   obtain⟨c2,h2,_⟩:=ih _ _ hy hye c (fun e=>by cases e)
   refine⟨c2,?_,fun e=>by cases e⟩
   show Cons b c2 p.r (if y.st then y.p else aX y.p 5).r
   rw[hx]
   exact h1.trans h2
  case list d0 p=>
   obtain⟨y,hy,rfl⟩:=Option.map_eq_some_iff.1 h
   obtain⟨c2,h2,_⟩:=ih _ _ hy he b (fun e=>by cases e)
   exact⟨c2,h2,fun e=>by cases e⟩
  case kids d0 acc p=>
   obtain⟨y,hy,hz⟩:=Option.bind_eq_some_iff.1 h
   have hye:y.p.e=0:=by
    split at hz
    ·split at hz
     ·have h2:(aE y.p).2.e=0:=bX hz he
      rw[gC] at h2;exact h2
     ·cases hz
      have h2:(aE y.p).2.e=0:=he
      rw[gC] at h2;exact h2
    ·cases hz;exact he
   obtain⟨c1,h1,_⟩:=ih _ _ hy hye b (fun e=>by cases e)
   have hyp:=cA hye
   obtain⟨ly,hly⟩:∃ly,y.p.r=ly:=⟨_,rfl⟩
   rw[hly] at hyp h1
   rw[hyp] at hz
   split at hz
   ·rename_i hst
    have hs2:(aE ⟨ly,0⟩).2=⟨ly.tail,0⟩:=(eO hst).1
    rw[hs2] at hz
    obtain⟨c2,h2⟩:=Cons.qU false ly.tail
    have h3:=(h1.trans (Cons.stop hst)).trans h2
    split at hz
    ·obtain⟨c4,h4,_⟩:=ih _ _ hz he c2 (fun e=>by cases e)
     exact⟨c4,h3.trans h4,fun e=>by cases e⟩
    ·cases hz
     exact⟨c2,h3,fun e=>by cases e⟩
   ·cases hz
    exact⟨c1,h1,fun e=>by cases e⟩
  case chain d0 p=>
   obtain⟨y,hy,hz⟩:=Option.bind_eq_some_iff.1 h
   have hye:=bX hz he
   obtain⟨c1,h1,e1⟩:=ih _ _ hy hye b (fun e=>by cases e)
   rw[e1 rfl] at h1
   obtain⟨c2,h2,e2⟩:=ih _ _ hz he true (fun _=>rfl)
   exact⟨c2,h1.trans h2,fun _=>e2 rfl⟩
  case chainL d0 l p=>
   obtain rfl:b=true:=hbh rfl
   split at h
   ·rename_i hk
    obtain⟨y,hy,hz⟩:=Option.bind_eq_some_iff.1 h
    have hye:=bX hz he
    have hk0:hdk p.r≠0:=by
     have:af p=hdk p.r:=by obtain⟨r,e⟩:=p;rfl
     omega
    obtain⟨c1,h1⟩:=Cons.op hk0
    obtain⟨c2,h2⟩:=Cons.qU c1 p.r.tail
    obtain⟨c3,h3,e3⟩:=ih _ _ hy hye c2 (fun e=>by cases e)
    rw[e3 rfl] at h3
    obtain⟨c4,h4,e4⟩:=ih _ _ hz he true (fun _=>rfl)
    exact⟨c4,((h1.trans h2).trans h3).trans h4,fun _=>e4 rfl⟩
   ·cases h
    exact⟨true,.refl _ _,fun _=>rfl⟩
  case pipe d0 p=>
   obtain⟨y,hy,rfl⟩:=Option.map_eq_some_iff.1 h
   by_cases hbang:aG p=eD
   ·rw[if_pos hbang] at hy
    have hk:hdk p.r=1:=by
     have h1:=bT (p:=p) (by rw[hbang];decide)
     have:af p=hdk p.r:=by obtain⟨r,e⟩:=p;rfl
     omega
    obtain⟨c1,h1,e1⟩:=ih _ _ hy he true (fun _=>rfl)
    exact⟨c1,(Cons.hd hk).trans h1,e1⟩
   ·rw[if_neg hbang] at hy
    obtain⟨c1,h1,e1⟩:=ih _ _ hy he b (fun e=>by cases e)
    exact⟨c1,h1,e1⟩
  case pipeL d0 acc p=>
   obtain⟨y,hy,hz⟩:=Option.bind_eq_some_iff.1 h
   split at hz
   ·rename_i hk
    have hye:y.p.e=0:=bX hz he
    obtain⟨c1,h1,e1⟩:=ih _ _ hy hye b (fun e=>by cases e)
    rw[e1 rfl] at h1
    have hk0:hdk y.p.r≠0:=by
     have:af y.p=hdk y.p.r:=rfl
     omega
    obtain⟨c2,h2⟩:=Cons.op hk0
    obtain⟨c3,h3⟩:=Cons.qU c2 y.p.r.tail
    obtain⟨c4,h4,e4⟩:=ih _ _ hz he c3 (fun e=>by cases e)
    exact⟨c4,((h1.trans h2).trans h3).trans h4,e4⟩
   ·cases hz
    obtain⟨c1,h1,e1⟩:=ih _ _ hy he b (fun e=>by cases e)
    exact⟨c1,h1,e1⟩
  case command d0 p=>
   have hpp:=cA hpe
   split at h
   ·cases h
    have hpp':p=⟨p.r,0⟩:=hpp
    have he':(aV p).2.e=0:=he
    rw[hpp'] at he'
    refine⟨true,?_,fun _=>rfl⟩
    show Cons b true p.r (aV p).2.r
    rw[hpp']
    exact Cons.simple he'
   ·split at h
    ·cases h
     exact absurd he (bQ (.inr (by decide)))
    ·split at h
     ·cases h
      exact absurd he (bQ (.inr (by decide)))
     ·rename_i hr hcm hd9
      obtain⟨y,hy,rfl⟩:=Option.map_eq_some_iff.1 h
      have hye:y.p.e=0:=by
       rcases Nat.eq_zero_or_pos y.p.e with h0|h0
       ·exact h0
       ·exact absurd he (ix _ _ (by omega))
      have hk:hdk p.r=1:=by
       have h1:=bT hr
       have:af p=hdk p.r:=by obtain⟨r,e⟩:=p;rfl
       omega
      obtain⟨c1,h1,e1⟩:=ih _ _ hy hye true (fun _=>rfl)
      rw[e1 rfl] at h1
      have hyp:=cA hye
      obtain⟨ly,hly⟩:∃ly,y.p.r=ly:=⟨_,rfl⟩
      rw[hly] at hyp h1
      rw[hyp] at he⊢
      exact⟨true,((Cons.hd hk).trans h1).trans (Cons.oD (ly.length+1) true ly rfl he),fun _=>rfl⟩
  case read d0 s p=>
   split at h
   ·exact ih _ _ h he b (fun e=>by cases e)
   ·split at h
    ·exact ih _ _ h he b (fun e=>by cases e)
    ·split at h
     ·exact ih _ _ h he b (fun e=>by cases e)
     ·split at h
      ·exact ih _ _ h he b (fun e=>by cases e)
      ·exact ih _ _ h he b (fun e=>by cases e)
  case branches d0 acc p=>
   obtain⟨y,hy,h⟩:=Option.bind_eq_some_iff.1 h
   obtain⟨z,hz,h⟩:=Option.bind_eq_some_iff.1 h
   have hze:z.p.e=0:=by
    split at h
    ·exact bX h he
    ·split at h
     ·obtain⟨u,hu,rfl⟩:=Option.map_eq_some_iff.1 h
      exact bX hu (cv he).1
     ·cases h;exact(cv he).1
   have hme:(ay dy y.p).e=0:=bX hz hze
   have hye:=(cv hme).1
   obtain⟨c1,h1,_⟩:=ih _ _ hy hye b (fun e=>by cases e)
   have hyp:=cA hye
   rw[hyp] at hme
   have h2:=Cons.fb (b:=c1) (by decide) hme
   rw[←hyp] at h2
   obtain⟨c3,h3,_⟩:=ih _ _ hz hze true (fun e=>by cases e)
   have h4:=(h1.trans h2).trans h3
   have hzp:=cA hze
   have hkz:af z.p=hdk z.p.r:=rfl
   split at h
   ·rename_i hv
    have hk:=bT (p:=z.p) (by rw[hv];decide)
    obtain⟨c5,h5,e5⟩:=ih _ _ h he true (fun e=>by cases e)
    exact⟨c5,(h4.trans (Cons.hd (by omega))).trans h5,e5⟩
   ·split at h
    ·rename_i hv
     have hk:=bT (p:=z.p) (by rw[hv];decide)
     obtain⟨u,hu,rfl⟩:=Option.map_eq_some_iff.1 h
     have hue:=(cv he).1
     obtain⟨c5,h5,_⟩:=ih _ _ hu hue true (fun e=>by cases e)
     have hup:=cA hue
     have he':(ay rFi u.p).e=0:=he
     rw[hup] at he'
     have h6:=Cons.fb (b:=c5) (by decide) he'
     rw[←hup] at h6
     exact⟨true,((h4.trans (Cons.hd (by omega))).trans h5).trans h6,fun _=>rfl⟩
    ·cases h
     have he':(ay rFi z.p).e=0:=he
     rw[hzp] at he'
     have h6:=Cons.fb (b:=c3) (by decide) he'
     rw[←hzp] at h6
     exact⟨true,h4.trans h6,fun _=>rfl⟩
  case loop d0 k p=>
   obtain⟨y,hy,h⟩:=Option.bind_eq_some_iff.1 h
   obtain⟨z,hz,rfl⟩:=Option.map_eq_some_iff.1 h
   have hze:z.p.e=0:=he
   have hye:=bX hz hze
   obtain⟨c1,h1,_⟩:=ih _ _ hy hye b (fun e=>by cases e)
   obtain⟨c2,h2,e2⟩:=ih _ _ hz hze c1 (fun e=>by cases e)
   exact⟨c2,h1.trans h2,e2⟩
  case body d0 p=>
   obtain⟨y,hy,rfl⟩:=Option.map_eq_some_iff.1 h
   have hye:=(cv he).1
   have hme:(ay rDo p).e=0:=bX hy hye
   have hpp:=cA (cv hme).1
   rw[hpp] at hme
   have h1:=Cons.fb (b:=b) (by decide) hme
   rw[←hpp] at h1
   obtain⟨c2,h2,_⟩:=ih _ _ hy hye true (fun e=>by cases e)
   have hyp:=cA hye
   have he':(ay ct y.p).e=0:=he
   rw[hyp] at he'
   have h3:=Cons.fb (b:=c2) (by decide) he'
   rw[←hyp] at h3
   exact⟨true,(h1.trans h2).trans h3,fun _=>rfl⟩
  case each d0 p=>
   obtain⟨y,hy,rfl⟩:=Option.map_eq_some_iff.1 h
   have hye:y.p.e=0:=he
   have hee:(bR p).2.2.e=0:=bX hy hye
   have hpp:p=⟨p.r,0⟩:=cA hpe
   rw[hpp] at hee
   obtain⟨c1,h1⟩:=Cons.each (b:=b) hee
   rw[←hpp] at h1
   obtain⟨c2,h2,e2⟩:=ih _ _ hy hye c1 (fun e=>by cases e)
   exact⟨c2,h1.trans h2,e2⟩
  case group d0 p=>
   obtain⟨y,hy,rfl⟩:=Option.map_eq_some_iff.1 h
   have hye:=(cv he).1
   obtain⟨c1,h1,_⟩:=ih _ _ hy hye b (fun e=>by cases e)
   have hyp:=cA hye
   have he':(ay gA y.p).e=0:=he
   rw[hyp] at he'
   have h3:=Cons.fb (b:=c1) (by decide) he'
   rw[←hyp] at h3
   exact⟨true,h1.trans h3,fun _=>rfl⟩
theorem uJ {s:List UInt8} {l:List Tk} (h:cI s= .ok l):∀t∈l,t.kind≠0∧j7 t.kt:=fun t ht=>by
 have h1:=qt (xF h) t.kt (List.mem_map.2 ⟨t,ht,rfl⟩)
 refine⟨?_,h1⟩
 rcases h1 with⟨h1,_⟩|⟨_,h1⟩
 ·have h1':t.kind=1:=h1
  omega
 ·exact h1
theorem wM {l:List Tk} (h:∀t∈l,t.kind≠0) (h0:hdk l=0):l=[]:=by
 cases l with
 |nil=>rfl
 |cons t l=>exact absurd h0 (h t List.mem_cons_self)
theorem oP {s:List UInt8} {n:Nd} {l:List Tk} (h:Reads s (.ok n)) (hl:cI s= .ok l):fk n=true∧¬(512<(aJ n).length∨(aJ n).any (fun m=>decide (256<m.ws.length))=true)∧((aI l=[]∧n=ndK 5 [])∨(hdk (aI l)≠0∧∃st N,run N (.list 0 ⟨aI l,0⟩)=some ⟨[n],st,⟨[],0⟩⟩)):=by
 have hlk:=uJ hl
 unfold Reads at h
 rw[hl] at h
 obtain⟨m,p,h1,h2⟩:=h
 by_cases h0:(if af p=0 then p.e else if p.e=0 then 5 else p.e)≠0
 ·rw[if_pos h0] at h2;cases h2
 ·rw[if_neg h0] at h2
  split at h2
  ·cases h2
  ·rename_i hf
   split at h2
   ·cases h2
   ·rename_i hm
    obtain rfl:n=m:=Except.ok.inj h2
    have hk0:af p=0∧p.e=0:=by
     by_cases hk:af p=0
     ·rw[if_pos hk] at h0
      exact⟨hk,Decidable.not_not.1 h0⟩
     ·rw[if_neg hk] at h0
      exact absurd (by split<;>omega) h0
    refine⟨by cases hx:fk n with|true=>rfl|false=>exact absurd hx hm,hf,?_⟩
    have hsub:∀t∈aI l,t.kind≠0:=fun t ht=>(hlk t ((List.dropWhile_sublist _).subset ht)).1
    by_cases hr:af (az ⟨l,0⟩)=0
    ·rw[if_pos hr] at h1
     exact .inl ⟨wM hsub hr,h1.1⟩
    ·rw[if_neg hr] at h1
     obtain⟨st,N,h1⟩:=h1
     refine .inr ⟨hr,st,N,?_⟩
     obtain⟨c,⟨C,hC,-⟩,-⟩:=pF N _ _ h1 hk0.2 false (fun e=>by cases e)
     have hC':aI l=C++p.r:=hC
     have hpr:p.r=[]:=wM (fun t ht=>hsub t (by rw[hC'];exact List.mem_append_right _ ht)) hk0.1
     have hp:p=⟨[],0⟩:=by rw[cA hk0.2,hpr]
     rw[hp] at h1
     exact h1
theorem xW {s:List UInt8} {n:Nd} {l:List Tk} (h:Reads s (.ok n)) (hl:cI s= .ok l):sw false l:=by
 obtain⟨-,-,h⟩:=oP h hl
 obtain⟨c,h1,-⟩:=Cons.rest false l
 rcases h with⟨h,-⟩|⟨-,st,N,h⟩
 ·rw[h] at h1
  obtain⟨C,hC,ha,-⟩:=h1
  rw[hC,List.append_nil];exact ha
 ·obtain⟨c2,h2,-⟩:=pF N _ _ h rfl c (fun e=>by cases e)
  obtain⟨C,hC,ha,-⟩:=h1.trans h2
  have hC':l=C++[]:=hC
  rw[hC',List.append_nil];exact ha
theorem zZ {t:List UInt8} {n:Nd} {L:List Tk} (hl:cI t= .ok L) (hm:fk n=true) (hf:¬(512<(aJ n).length∨(aJ n).any (fun m=>decide (256<m.ws.length))=true)) (h:(aI L=[]∧n=ndK 5 [])∨(hdk (aI L)≠0∧∃st,aK (.list 0 ⟨aI L,0⟩) ⟨[n],st,⟨[],0⟩⟩)):Reads t (.ok n):=by
 unfold Reads
 rw[hl]
 refine⟨n,⟨[],0⟩,?_,?_⟩
 ·rcases h with⟨h,rfl⟩|⟨h,st,hr⟩
  ·rw[xd,h,if_pos (show af ⟨[],0⟩=0 from rfl)];exact⟨rfl,rfl⟩
  ·rw[if_neg (show¬af (az ⟨L,0⟩)=0 from h)];exact⟨st,hr⟩
 ·rw[if_neg (by decide),if_neg hf,if_neg (by rw[hm];decide)]
theorem yh {n:Nd} (h:fk n=true):bj n≤16:=by
 unfold fk at h
 simp only[Bool.and_eq_true,decide_eq_true_eq] at h
 exact h.1.2
theorem zQ {s t:List UInt8} {n:Nd} {l L:List Tk} (h:Reads s (.ok n)) (hl:cI s= .ok l) (hL:cI t= .ok L) (hb:Brk [] l L):Reads t (.ok n):=by
 obtain⟨hm,hf,ho⟩:=oP h hl
 clear h
 refine zZ hL hm hf ?_
 rcases ho with⟨h,rfl⟩|⟨h0,st,N,h⟩
 ·refine .inl ⟨?_,rfl⟩
  rcases hb.rest (by rw[h];decide) with⟨hne,_⟩|⟨_,h2⟩
  ·exact absurd h hne
  ·rw[h2];rfl
 ·have h3:hdk (aI l)≠3:=fun e=>jJ _ _ _ h (.inr e) rfl
  rcases hb.rest h3 with⟨_,hb2⟩|⟨h2,_⟩
  ·refine .inr ⟨?_,?_⟩
   ·have:=(hb2.kind (.inl rfl) (hdk (aI l)) h0 (ph l) h3).1 rfl
    rw[this];exact h0
   ·have hs:=sim (E:=[]) (.inl rfl) N _ _ h rfl 0 (aI L) hb2 (by
     show 0+ae [n]≤16
     rw[dj]
     have:=yh hm
     omega)
    rcases hs with⟨-,q,hr,hq⟩|⟨-,hE,-⟩
    ·obtain rfl:q=[]:=hq
     exact⟨st,hr⟩
    ·exact absurd rfl hE
  ·rw[h2] at h0;exact absurd rfl h0
theorem kv (T:List UInt8):cP (10::T)=(cP T).map (nlK::·):=by
 have ho:bM (10::T)=some nlK:=by simp[bM,opsL]
 unfold cP
 rw[List.length_cons,rS (by decide) (by decide) ho (by decide)]
 show Except.map _ (dO _ ((10::T).drop 1))=_
 rw[List.drop_succ_cons,List.drop_zero,jF (Nat.lt_succ_self _)]
theorem Ay (T:List UInt8):cP (59::T)=(cP T).map (Dl::·):=by
 have ho:bM (59::T)=some Dl:=by simp[bM,opsL]
 unfold cP
 rw[List.length_cons,rS (by decide) (by decide) ho (by decide)]
 show Except.map _ (dO _ ((59::T).drop 1))=_
 rw[List.drop_succ_cons,List.drop_zero,jF (Nat.lt_succ_self _)]
theorem lh {u:List UInt8} (hu:∀c∈u,c≠10) (T:List UInt8):cP (35::(u++10::T))=cP (10::T):=by
 have hd:((35:UInt8)::(u++10::T)).dropWhile (· !=10)=10::T:=by
  rw[List.dropWhile_cons,if_pos (by decide),List.dropWhile_append_of_pos (fun x hx=>by simpa using hu x hx)]
  simp
 conv=>lhs;unfold cP
 rw[Bq (by decide) rfl,hd]
 exact jF (by simp;omega)
theorem gZ {c:UInt8} (h:c=32∨c=9) (T:List UInt8):cP (c::T)=cP T:=vd h
theorem mL {k:Kt} {m:List Kt} {x:Except Nat (List Kt)}:(x.map (m++·)).map (k::·)=x.map ((k::m)++·):=by
 cases x<;>rfl
def brA:List UInt8:=[32,35,32,97,59,32,98,32,39,99,10]
def brB:List UInt8:=[10,32,9,35,32,105,102,10,10]
def brC:List UInt8:=[32,35,10,10]
def gM (t:Tk) (b:Nat):List UInt8:=
 if t.kind=3∧b % 3=1 then brA
 else if(t.kind=3∨t.kind=2)∧b % 3=2 then t.text++brB
 else if(t.kind=4∨t.kind=5∨t.kind=6)∧0<b % 3 then t.text++brC
 else 32::t.text
def AD (t:Tk) (b:Nat):List Kt:=
 if t.kind=3∧b % 3=1 then[nlK]
 else if(t.kind=3∨t.kind=2)∧b % 3=2 then[t.kt,nlK,nlK,nlK]
 else if(t.kind=4∨t.kind=5∨t.kind=6)∧0<b % 3 then[t.kt,nlK,nlK]
 else[t.kt]
theorem Cy (T:List UInt8):cP (brA++T)=(cP T).map ([nlK]++·):=by
 show cP (32::35::([32,97,59,32,98,32,39,99]++10::T))=_
 rw[gZ (.inl rfl),lh (by decide),kv];rfl
theorem xg (T:List UInt8):cP (brB++T)=(cP T).map ([nlK,nlK,nlK]++·):=by
 show cP (10::32::9::35::([32,105,102]++10::10::T))=_
 rw[kv,gZ (.inl rfl),gZ (.inr rfl),lh (by decide),kv,kv]
 cases cP T<;>rfl
theorem C4 (T:List UInt8):cP (brC++T)=(cP T).map ([nlK,nlK]++·):=by
 show cP (32::35::([]++10::10::T))=_
 rw[gZ (.inl rfl),lh (by decide),kv,kv]
 cases cP T<;>rfl
theorem xA {t:Tk} (h:j7 t.kt):(t.kind=2→t.text=[10])∧(t.kind=3→t.text=[59])∧(t.kind=4→t.text=[38,38])∧(t.kind=5→t.text=[124,124])∧(t.kind=6→t.text=[124]):=by
 rcases h with⟨h1,_⟩|⟨h1,h2⟩
 ·have h1':t.kind=1:=h1
  omega
 ·have key:∀k∈opsL,(k.1=2→k.2=[10])∧(k.1=3→k.2=[59])∧(k.1=4→k.2=[38,38])∧(k.1=5→k.2=[124,124])∧(k.1=6→k.2=[124]):=by decide
  exact key _ h1
theorem CX {c:UInt8} {x T:List UInt8} {e:UInt8} (h1:fh c=false) (h:bM (c::x)=none) (he:e≠62):bM (c::(x++e::T))=none:=by
 cases x with
 |nil=>exact uD h1 (fun y hy=>he (List.cons.inj hy).1)
 |cons d x=>
  by_cases hd:d=62
  ·subst hd
   by_cases hc:c=50
   ·subst hc
    exfalso
    unfold bM at h
    rw[List.find?_eq_none] at h
    exact absurd (h (10,[50,62]) (by decide)) (by simp)
   ·unfold bM
    rw[List.find?_eq_none]
    intro o ho hx
    obtain⟨c',y2,e2,hcc⟩:=qm o ho
    rw[e2] at hx
    have hx':(c::(62::x++e::T)).take (y2.length+1)=c'::y2:=by simpa using hx
    rw[List.take_succ_cons] at hx'
    have e1:=(List.cons.inj hx').1
    rcases hcc with hcc|⟨hcc,_⟩
    ·rw[←e1,h1] at hcc;cases hcc
    ·exact hc (e1.trans hcc)
  ·exact uD h1 (fun y hy=>hd (List.cons.inj hy).1)
theorem Ar {k:Kt} {T:List UInt8} {e:UInt8} (h:j7 k) (hk:k.1=1) (he:e=38∨e=124):cP (k.2++e::T)=(cP (e::T)).map (k::·):=by
 obtain⟨kd,tx⟩:=k
 rcases h with⟨h1,⟨c,x,h2,h3⟩,h4,h5⟩|⟨h1,h2⟩
 ·simp only at h1 h2 h4 h5
  subst h1;subst h2
  have hce:=pq h4
  have hS:ql (e::T):= .inr ⟨e,T,rfl,by rcases he with rfl|rfl<;>rfl,fun b=>by rcases he with rfl|rfl<;>cases b<;>rfl⟩
  have hb:¬(c=32∨c=9):=fun h=>by rcases h with rfl|rfl<;>cases hce
  have ho:bM (c::(x++e::T))=none:=CX hce h5 (by rcases he with rfl|rfl<;>decide)
  have hw:bD ((x++e::T).length+2) (c::(x++e::T))= .ok (e::T):=by
   have h6:bD ((x.length+2)+(e::T).length) (c::x)= .ok []:=by
    rw[iV _ _ _ (by simp)]
    exact h4
   have:=mG _ hS h6
   rw[List.length_append,show x.length+(e::T).length+2=x.length+2+(e::T).length by omega]
   exact this
  conv=>lhs;unfold cP
  rw[List.cons_append,List.length_cons,vx hb h3 ho hw]
  rw[show(c::(x++e::T)).take ((x++e::T).length+1 -(e::T).length)=c::x by
   rw[List.length_append,show x.length+(e::T).length+1 -(e::T).length=x.length+1 by omega,List.take_succ_cons,List.take_left]]
  rw[jF (by rw[List.length_append];omega)]
 ·simp only at hk h1
  exact absurd hk (Co _ h1)
theorem BH {t:Tk} {b:Nat} (h:j7 t.kt):∃e T,gM t b=e::T∧(e=32∨e=10∨e=59∨((e=38∨e=124)∧4≤t.kind∧t.kind≤6)):=by
 obtain⟨h2,h3,h4,h5,h6⟩:=xA h
 unfold gM
 split
 ·exact⟨_,_,rfl,.inl rfl⟩
 ·split
  ·rename_i hk
   rcases hk.1 with hk|hk
   ·rw[h3 hk];exact⟨_,_,rfl,.inr (.inr (.inl rfl))⟩
   ·rw[h2 hk];exact⟨_,_,rfl,.inr (.inl rfl)⟩
  ·split
   ·rename_i hk
    rcases hk.1 with hk|hk|hk
    ·rw[h4 hk];exact⟨_,_,rfl,.inr (.inr (.inr ⟨.inl rfl,by omega,by omega⟩))⟩
    ·rw[h5 hk];exact⟨_,_,rfl,.inr (.inr (.inr ⟨.inr rfl,by omega,by omega⟩))⟩
    ·rw[h6 hk];exact⟨_,_,rfl,.inr (.inr (.inr ⟨.inr rfl,by omega,by omega⟩))⟩
   ·exact⟨_,_,rfl,.inl rfl⟩
def fU (l:List (Tk×Nat)):List UInt8:=l.flatMap fun x=>gM x.1 x.2
theorem wK:∀(l:List (Tk×Nat)),(∀x∈l,j7 x.1.kt)→∀b,sw b (l.map (·.1))→cP (fU l)= .ok (l.flatMap fun x=>AD x.1 x.2)
 |[],_,_,_=>rfl
 |(t,b)::l,hk,b0,ha=>by
  have ht:=hk (t,b) List.mem_cons_self
  have hl:=wK l (fun x hx=>hk x (List.mem_cons_of_mem _ hx)) (t.kind==1) ha.2
  have ht':j7 t.kt:=ht
  obtain⟨h2,h3,h4,h5,h6⟩:=xA ht'
  obtain⟨T,hT⟩:∃T,fU l=T:=⟨_,rfl⟩
  have e1:fU ((t,b)::l)=gM t b++T:=by rw[←hT];rfl
  rw[e1,List.flatMap_cons]
  rw[hT] at hl
  have hT2:Sep T∨(t.kind=1∧∃e T',T=e::T'∧(e=38∨e=124)):=by
   cases l with
   |nil=>rw[←hT];exact .inl (.inl rfl)
   |cons y l=>
    obtain⟨u,c⟩:=y
    have hu:=hk (u,c) (by simp)
    obtain⟨e,T',he,hh⟩:=BH (b:=c) (show j7 u.kt from hu)
    have e2:T=e::(T'++fU l):=by
     rw[←hT]
     show gM u c++fU l=_
     rw[he];rfl
    rcases hh with hh|hh|hh|⟨hh,h46,h64⟩
    ·exact .inl (.inr ⟨e,_,e2,.inl hh⟩)
    ·exact .inl (.inr ⟨e,_,e2,.inr (.inr (.inl hh))⟩)
    ·exact .inl (.inr ⟨e,_,e2,.inr (.inr (.inr hh))⟩)
    ·refine .inr ⟨?_,e,_,e2,hh⟩
     have:=ha.2.1 h46 h64
     simpa using this
  have plain:cP (t.text++T)=(cP T).map (t.kt::·):=by
   rcases hT2 with h|⟨h,e,T',rfl,he⟩
   ·exact wR ht' h
   ·exact Ar ht' h he
  have fin:∀m:List Kt,cP (gM t b++T)=(cP T).map (m++·)→cP (gM t b++T)= .ok (m++l.flatMap fun x=>AD x.1 x.2):=fun m h=>by rw[h,hl];rfl
  apply fin
  unfold gM AD
  simp only
  split
  ·exact Cy T
  ·split
   ·rename_i hk2
    rw[List.append_assoc]
    have hkt:t.kt=(t.kind,t.text):=rfl
    rcases hk2.1 with hk3|hk3
    ·rw[hkt,h3 hk3,hk3]
     show cP (59::(brB++T))=_
     rw[Ay,xg,mL]
    ·rw[hkt,h2 hk3,hk3]
     show cP (10::(brB++T))=_
     rw[kv,xg,mL]
   ·split
    ·rename_i hk2
     rw[List.append_assoc]
     have hs:Sep (brC++T):= .inr ⟨32,_,rfl,.inl rfl⟩
     have:=wR ht' hs
     rw[show t.kt.2=t.text from rfl] at this
     rw[this,C4,mL]
    ·show cP (32::(t.text++T))=_
     rw[gZ (.inl rfl),plain];rfl
theorem Ds {t:Tk} {b:Nat} (h:t.text.all okB=true):(gM t b).all okB=true:=by
 unfold gM
 split
 ·decide
 ·split
  ·rw[List.all_append,h];decide
  ·split
   ·rw[List.all_append,h];decide
   ·rw[List.all_cons,h];decide
theorem uj:∀(l:List (Tk×Nat)) (L:List Tk),(∀x∈l,x.1.kind≠0)→L.map Tk.kt=l.flatMap (fun x=>AD x.1 x.2)→Brk [] (l.map (·.1)) L
 |[],L,_,h=>by
  have:L=[]:=List.map_eq_nil_iff.1 h
  exact this
 |(t,b)::l,L,hk,h=>by
  rw[List.flatMap_cons] at h
  obtain⟨x,y,rfl,hx,hy⟩:=DH h
  have ih:=uj l y (fun x hx=>hk x (List.mem_cons_of_mem _ hx)) hy
  have hnl:∀N:List Tk,(∃m:List Kt,(∀k∈m,k.1=2)∧N.map Tk.kt=m)→DN N:=fun N hN u hu=>by
   obtain⟨m,h1,h2⟩:=hN
   have:=h1 u.kt (by rw[←h2];exact List.mem_map.2 ⟨u,hu,rfl⟩)
   exact this
  have gen:∀(k:Kt) (m:List Kt),x.map Tk.kt=k::m→(∀k∈m,k.1=2)→(je t.kind→k=t.kt∧m=[])→(4≤t.kind→t.kind≤6→k.1=t.kind)→(t.kind=2→k.1=2)→(t.kind=3→k.1=2∨k.1=3)→Brk [] (((t,b)::l).map (·.1)) (x++y):=fun k m e1 e2 e3 e4 e5 e6=>by
   obtain⟨t',N,rfl,k1,k2,hN⟩:=CK e1
   refine⟨t',N,y,rfl,hnl N ⟨m,e2,hN⟩,ih,fun hh=>?_,fun h1 h2=>k1.trans (e4 h1 h2),fun h1=>k1.trans (e5 h1),fun h1=>by rw[k1];exact e6 h1⟩
   obtain⟨hk,hm⟩:=e3 hh
   subst hm
   refine⟨by rw[k1,hk];rfl,by rw[k2,hk];rfl,List.map_eq_nil_iff.1 hN⟩
  have hk0:=hk (t,b) List.mem_cons_self
  unfold AD at hx
  split at hx
  ·rename_i h1
   have h1':t.kind=3∧b % 3=1:=h1
   exact gen _ _ hx (fun _ h=>by cases h) (fun hh=>by unfold je at hh;omega) (fun _ _=>by omega) (fun _=>rfl) (fun _=>.inl rfl)
  ·split at hx
   ·rename_i h1
    have h1':(t.kind=3∨t.kind=2)∧b % 3=2:=h1
    have e2:∀k∈([nlK,nlK,nlK]:List Kt),k.1=2:=by decide
    exact gen _ _ hx e2 (fun hh=>by unfold je at hh;omega) (fun _ _=>rfl) id (fun h=>.inr h)
   ·split at hx
    ·rename_i h1
     have h1':(t.kind=4∨t.kind=5∨t.kind=6)∧0<b % 3:=h1
     have e2:∀k∈([nlK,nlK]:List Kt),k.1=2:=by decide
     exact gen _ _ hx e2 (fun hh=>by unfold je at hh;omega) (fun _ _=>rfl) id (fun h=>.inr h)
    ·exact gen _ _ hx (fun _ h=>by cases h) (fun _=>⟨rfl,rfl⟩) (fun _ _=>rfl) id (fun h=>.inr h)
theorem uY {s:List UInt8} {n:Nd} {l:List Tk} {bs:List (Tk×Nat)} (h:Reads s (.ok n)) (hl:cI s= .ok l) (hb:bs.map (·.1)=l):Reads (fU bs) (if 2048<(fU bs).length then .error 3 else .ok n):=by
 split
 ·rename_i hlen
  unfold Reads
  have:cI (fU bs)= .error 3:=by unfold cI;rw[if_pos hlen]
  rw[this]
 ·rename_i hlen
  have hlk:=uJ hl
  have hmem:∀x∈bs,x.1∈l:=fun x hx=>by rw[←hb];exact List.mem_map.2 ⟨x,hx,rfl⟩
  have hadj:=xW h hl
  rw[←hb] at hadj
  have h1:=wK bs (fun x hx=>(hlk x.1 (hmem x hx)).2) false hadj
  have htx:=pT hl
  have hok:(fU bs).all okB=true:=by
   rw[List.all_eq_true]
   intro c hc
   obtain⟨x,hx,hcx⟩:=List.mem_flatMap.1 hc
   have htok:x.1.text.all okB=true:=by
    have hk:=hlk x.1 (hmem x hx)
    have hall:=(xO hl).2
    have hj:=sR hall l 0 htx
    rw[List.all_eq_true] at hj⊢
    intro c hc
    refine hj c ?_
    have key:∀(l:List Tk) (t:Tk),t∈l→∀c∈t.text,c∈jy (l.map Tk.kt):=by
     intro l
     induction l with
     |nil=>intro t ht;cases ht
     |cons u l ih=>
      intro t ht c hc
      have hj2:∀(k:Kt) (m:List Kt),(∀c∈k.2,c∈jy (k::m))∧(∀c∈jy m,c∈jy (k::m)):=by
       intro k m
       cases m with
       |nil=>exact⟨fun c hc=>by simpa[jy] using hc,fun c hc=>by simp[jy] at hc⟩
       |cons k2 m=>exact⟨fun c hc=>by simp[jy];exact .inl hc,fun c hc=>by simp[jy] at hc⊢;right;right;exact hc⟩
      rcases List.mem_cons.1 ht with rfl|ht
      ·exact(hj2 t.kt (l.map Tk.kt)).1 c hc
      ·exact(hj2 u.kt (l.map Tk.kt)).2 c (ih t ht c hc)
    exact key l x.1 (hmem x hx) c hc
   exact List.all_eq_true.1 (Ds (b:=x.2) htok) c hcx
  obtain⟨L,hL,hLk⟩:=Cv h1 (by omega) hok
  refine zQ h hl hL ?_
  have:=uj bs L (fun x hx=>(hlk x.1 (hmem x hx)).1) hLk
  rw[hb] at this
  exact this
end Go.Proofs.YtgigdlhcjahejaaGreatDoor
