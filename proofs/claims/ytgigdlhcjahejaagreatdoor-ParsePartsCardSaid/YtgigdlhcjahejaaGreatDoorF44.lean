import Derived.Test.YtgigdlhcjahejaaGreatDoorF43
set_option linter.all false
namespace Go.Proofs.YtgigdlhcjahejaaGreatDoor
open Go Go.RowKit Go.Lw
theorem vt (k:Int) (l:List Nd):∃n,cR k l=[n]:=by
 unfold cR
 split
 ·exact⟨_,rfl⟩
 ·exact⟨_,rfl⟩
def Job.sgl:Job→List Nd→Prop
 |.kids _ acc _,ns=>acc.length+1≤ns.length
 |.pipeL _ acc _,ns=>acc.length+1≤ns.length
 |.chainL _ x _,ns=>x.length=1→ns.length=1
 |_,ns=>ns.length=1
theorem qN:∀(n:Nat) (j:Job) (x:Rd9),run n j=some x→j.sgl x.ns
 |0,_,_,h=>by cases h
 |n+1,j,x,h=>by
  have ih:=qN n
  cases j<;>unfold run at h
  case block d p=>
   obtain⟨y,hy,rfl⟩:=Jh.1 h
   (have r:=ih _ _ hy;exact r)
  case list d p=>
   obtain⟨y,hy,rfl⟩:=Jh.1 h
   obtain⟨m,hm⟩:=vt 5 y.ns
   show(cR 5 y.ns).length=1
   rw[hm];rfl
  case kids d acc p=>
   obtain⟨y,hy,hz⟩:=Ji.1 h
   have h1:y.ns.length=1:=ih _ _ hy
   have h2:acc.length+1=(acc++y.ns).length:=by rw[Jf,h1]
   split at hz
   ·split at hz
    ·have h3:(acc++y.ns).length+1≤x.ns.length:=ih _ _ hz
     show acc.length+1≤x.ns.length
     omega
    ·cases hz
     show acc.length+1≤(acc++y.ns).length
     omega
   ·cases hz
    show acc.length+1≤(acc++y.ns).length
    omega
  case chain d p=>
   obtain⟨y,hy,hz⟩:=Ji.1 h
   have h1:y.ns.length=1:=ih _ _ hy
   have h2:y.ns.length=1→x.ns.length=1:=ih _ _ hz
   exact h2 h1
  case chainL d l p=>
   intro hl
   split at h
   ·obtain⟨y,hy,hz⟩:=Ji.1 h
    have h2:[ndK (if ag p=4 then 3 else 4) (l++y.ns)].length=1→x.ns.length=1:=ih _ _ hz
    exact h2 rfl
   ·cases h;exact hl
  case pipe d p=>
   obtain⟨y,hy,rfl⟩:=Jh.1 h
   show(if aI p=dx then[Nd.mk 2 true [] [] [] [] y.ns] else cR 2 y.ns).length=1
   obtain⟨m,hm⟩:=vt 2 y.ns
   rw[hm]
   split<;>rfl
  case pipeL d acc p=>
   obtain⟨y,hy,hz⟩:=Ji.1 h
   have h1:y.ns.length=1:=ih _ _ hy
   have h2:acc.length+1=(acc++y.ns).length:=by rw[Jf,h1]
   split at hz
   ·have h3:(acc++y.ns).length+1≤x.ns.length:=ih _ _ hz
    show acc.length+1≤x.ns.length
    omega
   ·cases hz
    show acc.length+1≤(acc++y.ns).length
    omega
  case command d p=>
   split at h
   ·cases h;rfl
   ·split at h
    ·cases h;rfl
    ·split at h
     ·cases h;rfl
     ·obtain⟨y,hy,rfl⟩:=Jh.1 h
      have h1:y.ns.length=1:=ih _ _ hy
      show(y.ns.map _).length=1
      rw[List.length_map];exact h1
  case read d s p=>
   split at h
   ·(have r:=ih _ _ h;exact r)
   ·split at h
    ·(have r:=ih _ _ h;exact r)
    ·split at h
     ·(have r:=ih _ _ h;exact r)
     ·split at h
      ·(have r:=ih _ _ h;exact r)
      ·(have r:=ih _ _ h;exact r)
  case branches d acc p=>
   obtain⟨y,hy,h⟩:=Ji.1 h
   obtain⟨z,hz,h⟩:=Ji.1 h
   split at h
   ·(have r:=ih _ _ h;exact r)
   ·split at h
    ·obtain⟨u,hu,rfl⟩:=Jh.1 h
     rfl
    ·cases h;rfl
  case loop d k p=>
   obtain⟨y,hy,h⟩:=Ji.1 h
   obtain⟨z,hz,rfl⟩:=Jh.1 h
   rfl
  case body d p=>
   obtain⟨y,hy,rfl⟩:=Jh.1 h
   (have r:=ih _ _ hy;exact r)
  case each d p=>
   obtain⟨y,hy,rfl⟩:=Jh.1 h
   rfl
  case group d p=>
   obtain⟨y,hy,rfl⟩:=Jh.1 h
   rfl
theorem jL {l:List Nd} (h:l.length=1):∃n,l=[n]:=by
 match l,h with
 |[n],_=>exact⟨n,rfl⟩
def Job.tin:Job→Nat
 |.kids _ acc _=>su 2 acc+1
 |.pipeL _ acc _=>su 3 acc+2
 |.chainL _ x _=>su 1 x
 |.branches _ acc _=>su 8 acc
 |_=>0
def Job.GP:Job→List Nd→Nat
 |.kids _ _ _,ns=>su 2 ns
 |.pipeL _ _ _,ns=>su 3 ns
 |.body _ _,ns=>su 1 ns+30
 |_,ns=>su 1 ns
def Job.gd:Job→Prop
 |.loop _ k _=>k=7∨k=8
 |.chainL _ x _=>x.length=1
 |_=>True
theorem En {l:List Nd} (h:l≠[]):su 1 (cR 5 l)+1=su 2 l:=by
 unfold cR
 split
 ·show(aj _).length+1+0+1=(aj _).length+2+0
  omega
 ·show(aj (ndK 5 l)).length+1+0+1=su 2 l
  rw[Av]
  have h1:(bP [59,32] (l.map aj)).length+2=su 2 l:=jA [59,32] l h
  omega
theorem E0 {l:List Nd} (h:l≠[]):su 1 (cR 2 l)+2=su 3 l:=by
 unfold cR
 split
 ·show(aj _).length+1+0+2=(aj _).length+3+0
  omega
 ·show(aj (.mk 2 false [] [] [] [] l)).length+1+0+2=su 3 l
  rw[zJ]
  have h1:(bP [32,124,32] (l.map aj)).length+3=su 3 l:=jA [32,124,32] l h
  show(bP [32,124,32] (l.map aj)).length+1+0+2=su 3 l
  omega
theorem CK {l:List Nd} (h:l≠[]):su 1 [Nd.mk 2 true [] [] [] [] l]=su 3 l:=by
 show(aj (.mk 2 true [] [] [] [] l)).length+1+0=su 3 l
 rw[zJ]
 have h1:(bP [32,124,32] (l.map aj)).length+3=su 3 l:=jA [32,124,32] l h
 show([33,32]++bP [32,124,32] (l.map aj)).length+1+0=su 3 l
 rw[Jf]
 show 2+_+1+0=_
 omega
theorem EW {c:Prop} [Decidable c] {x y:Nd}:su 1 [ndK (if c then 3 else 4) [x,y]]=su 1 [x]+su 1 [y]+3:=by
 split
 ·show(aj (ndK 3 [x,y])).length+1+0=(aj x).length+1+0+((aj y).length+1+0)+3
  rw[C0]
  have h1:(bP [32,38,38,32] ([x,y].map aj)).length+4=(aj x).length+4+((aj y).length+4+0):=jA [32,38,38,32] [x,y] (by simp)
  omega
 ·show(aj (ndK 4 [x,y])).length+1+0=(aj x).length+1+0+((aj y).length+1+0)+3
  rw[GC]
  have h1:(bP [32,124,124,32] ([x,y].map aj)).length+4=(aj x).length+4+((aj y).length+4+0):=jA [32,124,124,32] [x,y] (by simp)
  omega
theorem zX (l:List Nd):su 1 [ndK 6 l]≤su 8 l+6:=by
 show(aj (.mk 6 false [] [] [] [] l)).length+1+0≤_
 rw[F9]
 have h:=sU l true
 show(rIf++[32]++cv true (l.map aj)++rFi).length+1+0≤_
 simp only[Jf,Jg,Jn,rIf,rFi]
 omega
theorem zG {k:Int} (hk:k=7∨k=8) (x y:Nd):su 1 [ndK k [x,y]]=su 1 [x]+su 1 [y]+16:=by
 show(aj (ndK k [x,y])).length+1+0=(aj x).length+1+0+((aj y).length+1+0)+16
 rcases hk with rfl|rfl
 ·rw[Dy]
  show(dX++[32]++aj x++[59,32]++rDo++[32]++aj y++[59,32]++bp).length+1+0=_
  simp only[Jf,Jg,Jn,dX,rDo,bp]
  omega
 ·rw[Dz]
  show(cZ++[32]++aj x++[59,32]++rDo++[32]++aj y++[59,32]++bp).length+1+0=_
  simp only[Jf,Jg,Jn,cZ,rDo,bp]
  omega
theorem DI (s:LB) (w:List LP) (x:Nd):su 1 [Nd.mk 9 false s [] w [] [x]]=s.length+sw (w.map aC)+18+su 1 [x]:=by
 show(aj (.mk 9 false s [] w [] [x])).length+1+0=s.length+sw (w.map aC)+18+((aj x).length+1+0)
 rw[FO]
 have h1:=iL ((fw++[32]++s++[32]++rIn)::bI [] w) (by simp)
 have h2:bI [] w=w.map aC:=by unfold bI;simp
 rw[h2] at h1⊢
 have h3:sw ((fw++[32]++s++[32]++rIn)::w.map aC)=(fw++[32]++s++[32]++rIn).length+1+sw (w.map aC):=rfl
 rw[h3] at h1
 obtain⟨J,hJ⟩:∃J,bP [32] ((fw++[32]++s++[32]++rIn)::w.map aC)=J:=⟨_,rfl⟩
 rw[hJ] at h1⊢
 show(J++[59,32]++rDo++[32]++aj x++[59,32]++bp).length+1+0=_
 simp only[Jf,Jg,Jn,fw,rIn,rDo,bp] at h1⊢
 omega
theorem xp (x:Nd):su 1 [ndK 10 [x]]=su 1 [x]+5:=by
 show(aj (ndK 10 [x])).length+1+0=(aj x).length+1+0+5
 rw[CG]
 show([123,32]++aj x++[59,32,125]).length+1+0=_
 simp only[Jf,Jg,Jn]
 omega
theorem Cr (p:Ps):ag p=hdk p.r:=by obtain⟨r,e⟩:=p;rfl
theorem yJ:∀(n:Nat) (j:Job) (x:Rd9),run n j=some x→x.p.e=0→dw j.p.r→j.gd→j.GP x.ns+bt x.p.r≤j.tin+bt j.p.r∧dw x.p.r
 |0,_,_,h=>by cases h
 |n+1,j,x,h=>by
  have ih:=yJ n
  have sg:=qN n
  intro he hp hg
  have hpe:=cg h he
  cases j<;>unfold run at h
  case block d0 p=>
   obtain⟨y,hy,rfl⟩:=Jh.1 h
   have hst:y.st=true:=by
    cases hs:y.st with
    |true=>rfl
    |false=>
     have he':(if y.st then y.p else bm y.p 5).e=0:=he
     rw[hs] at he'
     exact absurd he' (bX (.inr (by decide)))
   have hx:(if y.st then y.p else bm y.p 5)=y.p:=by rw[hst];rfl
   have hye:y.p.e=0:=by
    have he':(if y.st then y.p else bm y.p 5).e=0:=he
    rw[hx] at he';exact he'
   have hp':dw p.r:=hp
   obtain⟨a1,a2⟩:=gT hp'
   obtain⟨h1,h2⟩:=ih _ _ hy hye a2 trivial
   have h1':su 1 y.ns+bt y.p.r≤0+bt (aE p.r):=h1
   show su 1 y.ns+bt (if y.st then y.p else bm y.p 5).r≤0+bt p.r∧dw (if y.st then y.p else bm y.p 5).r
   rw[hx]
   exact⟨by omega,h2⟩
  case list d0 p=>
   obtain⟨y,hy,rfl⟩:=Jh.1 h
   obtain⟨h1,h2⟩:=ih _ _ hy he hp trivial
   have h1':su 2 y.ns+bt y.p.r≤0+1+bt p.r:=h1
   have hs:([]:List Nd).length+1≤y.ns.length:=sg _ _ hy
   have hn:y.ns≠[]:=fun e=>by rw[e] at hs;simp at hs
   have:=En hn
   refine⟨?_,h2⟩
   show su 1 (cR 5 y.ns)+bt y.p.r≤0+bt p.r
   omega
  case kids d0 acc p=>
   obtain⟨y,hy,hz⟩:=Ji.1 h
   have hye:y.p.e=0:=by
    split at hz
    ·split at hz
     ·have h2:(aL y.p).2.e=0:=cg hz he
      rw[fV] at h2;exact h2
     ·cases hz
      have h2:(aL y.p).2.e=0:=he
      rw[fV] at h2;exact h2
    ·cases hz;exact he
   obtain⟨h1,h2⟩:=ih _ _ hy hye hp trivial
   have h1':su 1 y.ns+bt y.p.r≤0+bt p.r:=h1
   have hs:y.ns.length=1:=sg _ _ hy
   have hsu:su 2 y.ns=su 1 y.ns+1*y.ns.length:=oo 1 1 y.ns
   have happ:=mE 2 acc y.ns
   have hyp:=cG hye
   obtain⟨ly,hly⟩:∃ly,y.p.r=ly:=⟨_,rfl⟩
   rw[hly] at hyp h1' h2
   rw[hyp] at hz
   split at hz
   ·rename_i hst
    have hs2:(aL ⟨ly,0⟩).2=⟨ly.tail,0⟩:=(dW hst).1
    rw[hs2] at hz
    obtain⟨b1,b2⟩:=Ap hst h2
    obtain⟨c1,c2⟩:=gT b2
    split at hz
    ·obtain⟨g1,g2⟩:=ih _ _ hz he c2 trivial
     have g1':su 2 x.ns+bt x.p.r≤su 2 (acc++y.ns)+1+bt (aE ly.tail):=g1
     refine⟨?_,g2⟩
     show su 2 x.ns+bt x.p.r≤su 2 acc+1+bt p.r
     omega
    ·cases hz
     refine⟨?_,c2⟩
     show su 2 (acc++y.ns)+bt (aE ly.tail)≤su 2 acc+1+bt p.r
     omega
   ·cases hz
    refine⟨?_,h2⟩
    show su 2 (acc++y.ns)+bt ly≤su 2 acc+1+bt p.r
    omega
  case chain d0 p=>
   obtain⟨y,hy,hz⟩:=Ji.1 h
   have hye:=cg hz he
   obtain⟨h1,h2⟩:=ih _ _ hy hye hp trivial
   have h1':su 1 y.ns+bt y.p.r≤0+bt p.r:=h1
   have hs:y.ns.length=1:=sg _ _ hy
   obtain⟨g1,g2⟩:=ih _ _ hz he h2 hs
   have g1':su 1 x.ns+bt x.p.r≤su 1 y.ns+bt y.p.r:=g1
   refine⟨?_,g2⟩
   show su 1 x.ns+bt x.p.r≤0+bt p.r
   omega
  case chainL d0 l p=>
   have hg':l.length=1:=hg
   split at h
   ·rename_i hk
    obtain⟨y,hy,hz⟩:=Ji.1 h
    have hye:=cg hz he
    have hp':dw p.r:=hp
    obtain⟨b1,b2⟩:=uH (l:=p.r) (fun e=>by rw[Cr] at hk;omega) hp'
    obtain⟨c1,c2⟩:=gT b2
    obtain⟨h1,h2⟩:=ih _ _ hy hye c2 trivial
    have h1':su 1 y.ns+bt y.p.r≤0+bt (aE p.r.tail):=h1
    have hs:y.ns.length=1:=sg _ _ hy
    obtain⟨u,rfl⟩:=jL hg'
    obtain⟨v,hv⟩:=jL hs
    obtain⟨g1,g2⟩:=ih _ _ hz he h2 rfl
    rw[hv] at h1' g1
    have g1':su 1 x.ns+bt x.p.r≤su 1 [ndK (if ag p=4 then 3 else 4) [u,v]]+bt y.p.r:=g1
    rw[EW] at g1'
    refine⟨?_,g2⟩
    show su 1 x.ns+bt x.p.r≤su 1 [u]+bt p.r
    omega
   ·cases h
    exact⟨Jb _,hp⟩
  case pipe d0 p=>
   obtain⟨y,hy,rfl⟩:=Jh.1 h
   by_cases hbang:aI p=dx
   ·rw[Jt hbang] at hy
    have hpp:p=⟨p.r,0⟩:=cG hpe
    have hp':dw p.r:=hp
    have hb':=hbang
    rw[hpp] at hb'
    obtain⟨a1,a2⟩:=pD (by decide) hb' hp'
    have a1':5*1+bt p.r.tail=bt p.r:=a1
    obtain⟨h1,h2⟩:=ih _ _ hy he a2 trivial
    have h1':su 3 y.ns+bt y.p.r≤0+2+bt p.r.tail:=h1
    have hs:([]:List Nd).length+1≤y.ns.length:=sg _ _ hy
    have hn:y.ns≠[]:=fun e=>by rw[e] at hs;simp at hs
    have:=CK hn
    refine⟨?_,h2⟩
    show su 1 (if aI p=dx then[Nd.mk 2 true [] [] [] [] y.ns] else cR 2 y.ns)+bt y.p.r≤0+bt p.r
    rw[Jt hbang]
    omega
   ·rw[Js hbang] at hy
    obtain⟨h1,h2⟩:=ih _ _ hy he hp trivial
    have h1':su 3 y.ns+bt y.p.r≤0+2+bt p.r:=h1
    have hs:([]:List Nd).length+1≤y.ns.length:=sg _ _ hy
    have hn:y.ns≠[]:=fun e=>by rw[e] at hs;simp at hs
    have:=E0 hn
    refine⟨?_,h2⟩
    show su 1 (if aI p=dx then[Nd.mk 2 true [] [] [] [] y.ns] else cR 2 y.ns)+bt y.p.r≤0+bt p.r
    rw[Js hbang]
    omega
  case pipeL d0 acc p=>
   obtain⟨y,hy,hz⟩:=Ji.1 h
   have happ:=mE 3 acc y.ns
   have hs:y.ns.length=1:=sg _ _ hy
   have hsu:su 3 y.ns=su 1 y.ns+2*y.ns.length:=oo 1 2 y.ns
   split at hz
   ·rename_i hk
    have hye:y.p.e=0:=cg hz he
    obtain⟨h1,h2⟩:=ih _ _ hy hye hp trivial
    have h1':su 1 y.ns+bt y.p.r≤0+bt p.r:=h1
    obtain⟨b1,b2⟩:=uH (l:=y.p.r) (fun e=>by rw[Cr] at hk;omega) h2
    obtain⟨c1,c2⟩:=gT b2
    obtain⟨g1,g2⟩:=ih _ _ hz he c2 trivial
    have g1':su 3 x.ns+bt x.p.r≤su 3 (acc++y.ns)+2+bt (aE y.p.r.tail):=g1
    refine⟨?_,g2⟩
    show su 3 x.ns+bt x.p.r≤su 3 acc+2+bt p.r
    omega
   ·cases hz
    obtain⟨h1,h2⟩:=ih _ _ hy he hp trivial
    have h1':su 1 y.ns+bt y.p.r≤0+bt p.r:=h1
    refine⟨?_,h2⟩
    show su 3 (acc++y.ns)+bt y.p.r≤su 3 acc+2+bt p.r
    omega
  case command d0 p=>
   have hpp:p=⟨p.r,0⟩:=cG hpe
   have hp':dw p.r:=hp
   split at h
   ·cases h
    have he':(aS p).2.e=0:=he
    rw[hpp] at he'
    obtain⟨h1,h2⟩:=Br he' hp'
    show su 1 [(aS p).1]+bt (aS p).2.r≤0+bt p.r∧dw (aS p).2.r
    rw[←hpp] at h1 h2
    refine⟨?_,h2⟩
    show(aj (aS p).1).length+1+0+_≤_
    omega
   ·split at h
    ·cases h
     exact absurd he (bX (.inr (by decide)))
    ·split at h
     ·cases h
      exact absurd he (bX (.inr (by decide)))
     ·rename_i hr hcm hd9
      obtain⟨y,hy,rfl⟩:=Jh.1 h
      have hye:y.p.e=0:=by
       rcases Nat.eq_zero_or_pos y.p.e with h0|h0
       ·exact h0
       ·exact absurd he (js _ _ (by omega))
      have hrr:=hr
      rw[hpp] at hrr
      obtain⟨a1,a2⟩:=pD hrr rfl hp'
      obtain⟨h1,h2⟩:=ih _ _ hy hye a2 trivial
      have h1':su 1 y.ns+bt y.p.r≤0+bt p.r.tail:=h1
      have hs:y.ns.length=1:=sg _ _ hy
      have hcp:=ry n _ _ hy trivial
      obtain⟨v,hv⟩:=jL hs
      have hyp:=cG hye
      obtain⟨ly,hly⟩:∃ly,y.p.r=ly:=⟨_,rfl⟩
      rw[hly] at hyp h1' h2
      rw[hyp] at he⊢
      obtain⟨b1,b2⟩:=sK (ly.length+1) ly he h2
      have b1':sw (dQ (aY ⟨ly,0⟩).1)+bt (aY ⟨ly,0⟩).2.r≤bt ly:=b1
      have hv2:=DE (aY ⟨ly,0⟩).1 v (hcp v (by rw[hv];exact Jk.2 rfl))
      refine⟨?_,b2⟩
      show su 1 (y.ns.map (fh (aY ⟨ly,0⟩).1))+bt (aY ⟨ly,0⟩).2.r≤0+bt p.r
      rw[hv] at h1'⊢
      show(aj (fh (aY ⟨ly,0⟩).1 v)).length+1+0+_≤_
      have h1'':(aj v).length+1+0+bt ly≤0+bt p.r.tail:=h1'
      omega
  case read d0 s p=>
   split at h
   ·have r:=ih _ _ h he hp trivial
    exact r
   ·split at h
    ·have r:=ih _ _ h he hp (.inl rfl)
     exact r
    ·split at h
     ·have r:=ih _ _ h he hp (.inr rfl)
      exact r
     ·split at h
      ·have r:=ih _ _ h he hp trivial
       exact r
      ·have r:=ih _ _ h he hp trivial
       exact r
  case branches d0 acc p=>
   obtain⟨y,hy,h⟩:=Ji.1 h
   obtain⟨z,hz,h⟩:=Ji.1 h
   have hze:z.p.e=0:=by
    split at h
    ·exact cg h he
    ·split at h
     ·obtain⟨u,hu,rfl⟩:=Jh.1 h
      exact cg hu (cH he).1
     ·cases h;exact(cH he).1
   have hme:(ay cu y.p).e=0:=cg hz hze
   have hye:=(cH hme).1
   obtain⟨h1,h2⟩:=ih _ _ hy hye hp trivial
   have h1':su 1 y.ns+bt y.p.r≤0+bt p.r:=h1
   have hsy:y.ns.length=1:=sg _ _ hy
   have hsz:z.ns.length=1:=sg _ _ hz
   have hyp:=cG hye
   rw[hyp] at hme
   obtain⟨b1,b2⟩:=jE (by decide) hme h2
   rw[←hyp] at b1 b2
   have b1':5*4+bt (ay cu y.p).r≤bt y.p.r:=b1
   obtain⟨g1,g2⟩:=ih _ _ hz hze b2 trivial
   have g1':su 1 z.ns+bt z.p.r≤0+bt (ay cu y.p).r:=g1
   have hzp:=cG hze
   have e1:su 8 y.ns=su 1 y.ns+7*y.ns.length:=oo 1 7 y.ns
   have e2:su 8 z.ns=su 1 z.ns+7*z.ns.length:=oo 1 7 z.ns
   have e3:=mE 8 (acc++y.ns) z.ns
   have e4:=mE 8 acc y.ns
   split at h
   ·rename_i hv
    rw[hzp] at hv
    obtain⟨c1,c2⟩:=pD (by decide) hv g2
    have c1':5*4+bt z.p.r.tail=bt z.p.r:=c1
    obtain⟨k1,k2⟩:=ih _ _ h he c2 trivial
    have k1':su 1 x.ns+bt x.p.r≤su 8 (acc++y.ns++z.ns)+bt z.p.r.tail:=k1
    refine⟨?_,k2⟩
    show su 1 x.ns+bt x.p.r≤su 8 acc+bt p.r
    omega
   ·split at h
    ·rename_i hv
     rw[hzp] at hv
     obtain⟨c1,c2⟩:=pD (by decide) hv g2
     have c1':5*4+bt z.p.r.tail=bt z.p.r:=c1
     obtain⟨u,hu,rfl⟩:=Jh.1 h
     have hue:=(cH he).1
     obtain⟨k1,k2⟩:=ih _ _ hu hue c2 trivial
     have k1':su 1 u.ns+bt u.p.r≤0+bt z.p.r.tail:=k1
     have hsu:u.ns.length=1:=sg _ _ hu
     have hup:=cG hue
     have he':(ay rFi u.p).e=0:=he
     rw[hup] at he'
     obtain⟨m1,m2⟩:=jE (by decide) he' k2
     rw[←hup] at m1 m2
     have m1':5*2+bt (ay rFi u.p).r≤bt u.p.r:=m1
     have e5:su 8 u.ns=su 1 u.ns+7*u.ns.length:=oo 1 7 u.ns
     have e6:=mE 8 (acc++y.ns++z.ns) u.ns
     have e7:=zX (acc++y.ns++z.ns++u.ns)
     refine⟨?_,m2⟩
     show su 1 [ndK 6 (acc++y.ns++z.ns++u.ns)]+bt (ay rFi u.p).r≤su 8 acc+bt p.r
     omega
    ·cases h
     have he':(ay rFi z.p).e=0:=he
     rw[hzp] at he'
     obtain⟨m1,m2⟩:=jE (by decide) he' g2
     rw[←hzp] at m1 m2
     have m1':5*2+bt (ay rFi z.p).r≤bt z.p.r:=m1
     have e7:=zX (acc++y.ns++z.ns)
     refine⟨?_,m2⟩
     show su 1 [ndK 6 (acc++y.ns++z.ns)]+bt (ay rFi z.p).r≤su 8 acc+bt p.r
     omega
  case loop d0 k p=>
   have hk:k=7∨k=8:=hg
   obtain⟨y,hy,h⟩:=Ji.1 h
   obtain⟨z,hz,rfl⟩:=Jh.1 h
   have hze:z.p.e=0:=he
   have hye:=cg hz hze
   obtain⟨h1,h2⟩:=ih _ _ hy hye hp trivial
   have h1':su 1 y.ns+bt y.p.r≤0+bt p.r:=h1
   obtain⟨g1,g2⟩:=ih _ _ hz hze h2 trivial
   have g1':su 1 z.ns+30+bt z.p.r≤0+bt y.p.r:=g1
   obtain⟨u,hu⟩:=jL (show y.ns.length=1 from sg _ _ hy)
   obtain⟨v,hv⟩:=jL (show z.ns.length=1 from sg _ _ hz)
   refine⟨?_,g2⟩
   show su 1 [ndK k (y.ns++z.ns)]+bt z.p.r≤0+bt p.r
   rw[hu] at h1'⊢
   rw[hv] at g1'⊢
   show su 1 [ndK k [u,v]]+bt z.p.r≤0+bt p.r
   rw[zG hk]
   omega
  case body d0 p=>
   obtain⟨y,hy,rfl⟩:=Jh.1 h
   have hye:=(cH he).1
   have hme:(ay rDo p).e=0:=cg hy hye
   have hpp:=cG (cH hme).1
   have hp':dw p.r:=hp
   rw[hpp] at hme
   obtain⟨b1,b2⟩:=jE (by decide) hme hp'
   rw[←hpp] at b1 b2
   have b1':5*2+bt (ay rDo p).r≤bt p.r:=b1
   obtain⟨g1,g2⟩:=ih _ _ hy hye b2 trivial
   have g1':su 1 y.ns+bt y.p.r≤0+bt (ay rDo p).r:=g1
   have hyp:=cG hye
   have he':(ay bp y.p).e=0:=he
   rw[hyp] at he'
   obtain⟨m1,m2⟩:=jE (by decide) he' g2
   rw[←hyp] at m1 m2
   have m1':5*4+bt (ay bp y.p).r≤bt y.p.r:=m1
   refine⟨?_,m2⟩
   show su 1 y.ns+30+bt (ay bp y.p).r≤0+bt p.r
   omega
  case each d0 p=>
   obtain⟨y,hy,rfl⟩:=Jh.1 h
   have hye:y.p.e=0:=he
   have hee:(bL p).2.2.e=0:=cg hy hye
   have hpp:p=⟨p.r,0⟩:=cG hpe
   have hp':dw p.r:=hp
   rw[hpp] at hee
   obtain⟨b1,b2⟩:=ER hee hp'
   rw[←hpp] at b1 b2
   obtain⟨g1,g2⟩:=ih _ _ hy hye b2 trivial
   have g1':su 1 y.ns+30+bt y.p.r≤0+bt (bL p).2.2.r:=g1
   obtain⟨v,hv⟩:=jL (show y.ns.length=1 from sg _ _ hy)
   refine⟨?_,g2⟩
   show su 1 [Nd.mk 9 false (bL p).1 [] (bL p).2.1 [] y.ns]+bt y.p.r≤0+bt p.r
   rw[hv] at g1'⊢
   rw[DI]
   omega
  case group d0 p=>
   obtain⟨y,hy,rfl⟩:=Jh.1 h
   have hye:=(cH he).1
   obtain⟨g1,g2⟩:=ih _ _ hy hye hp trivial
   have g1':su 1 y.ns+bt y.p.r≤0+bt p.r:=g1
   have hyp:=cG hye
   have he':(ay cx y.p).e=0:=he
   rw[hyp] at he'
   obtain⟨m1,m2⟩:=jE (by decide) he' g2
   rw[←hyp] at m1 m2
   have m1':5*1+bt (ay cx y.p).r≤bt y.p.r:=m1
   obtain⟨v,hv⟩:=jL (show y.ns.length=1 from sg _ _ hy)
   refine⟨?_,m2⟩
   show su 1 [ndK 10 y.ns]+bt (ay cx y.p).r≤0+bt p.r
   rw[hv] at g1'⊢
   rw[xp]
   omega
def ktS:List Kt→Nat
 |[]=>0
 |k::l=>5*k.2.length+ktS l
theorem Ft:∀l:List Tk,bt l=ktS (l.map Tk.kt)
 |[]=>rfl
 |t::l=>congrArg (5*t.text.length+·) (Ft l)
theorem uV:∀(n:Nat) (r:LB) (l:List Kt),ed n r= .ok l→ktS l≤5*r.length
 |0,_,_,h=>by cases h
 |n+1,[],l,h=>by cases h;exact Ju _
 |n+1,c::r,l,h=>by
  have ih:=uV n
  rw[Jg]
  by_cases h1:c=32∨c=9
  ·rw[pA h1] at h
   have:=ih _ _ h
   omega
  ·by_cases h2:c=35
   ·rw[ud h1 h2] at h
    have:=ih _ _ h
    have h3:=dj (· !=10) (c::r)
    rw[Jg] at h3
    omega
   ·cases hop:cb (c::r) with
    |some o=>
     by_cases h3:o.1=0
     ·rw[yH h1 h2 hop h3] at h;cases h
     ·rw[nV h1 h2 hop h3] at h
      have hol:=jt hop
      cases hx:ed n ((c::r).drop o.2.length) with
      |error e=>rw[hx] at h;cases h
      |ok y=>
       rw[hx] at h
       cases h
       have:=ih _ _ hx
       rw[Jo,Jg] at this
       have h4:=hol.2.1
       rw[Jg] at h4
       show 5*o.2.length+ktS y≤_
       omega
    |none=>
     cases hw:bF (r.length+2) (c::r) with
     |error e=>rw[Ck h1 h2 hop hw] at h;cases h
     |ok r'=>
      rw[qF h1 h2 hop hw] at h
      obtain⟨j,hj,hd,ht,-⟩:=qa h1 hop hw
      rw[ht] at h
      cases hx:ed n r' with
      |error e=>rw[hx] at h;cases h
      |ok y=>
       rw[hx] at h
       cases h
       have:=ih _ _ hx
       rw[←hd,Jo] at this
       show 5*(c::r.take j).length+ktS y≤_
       rw[Jg,Jp]
       omega
theorem Ac {s:LB} {l:List Tk} (hl:dB s= .ok l):dw l:=fun t ht=>by
 have h1:=sQ (pH hl) t.kt (List.mem_map.2 ⟨t,ht,rfl⟩)
 rcases h1 with⟨h0,⟨c,x,h2,_⟩,_⟩|⟨h1,h0⟩
 ·have h2':t.text=c::x:=h2
  have h0':t.kind=1:=h0
  rw[h2']
  exact⟨by simp,by omega⟩
 ·have key:∀k∈opsL,1≤k.2.length:=by decide
  exact⟨key _ h1,h0⟩
theorem An {l:List Tk} (h:dw l) (h0:hdk l=0):l=[]:=by
 cases l with
 |nil=>rfl
 |cons t l=>exact absurd h0 (h t Jz).2
theorem Ds {s:LB} {n:Nd} {l:List Tk} {N:Nat} {st:Bool} (hl:dB s= .ok l) (h:run N (.list 0 ⟨aE l,0⟩)=some ⟨[n],st,⟨[],0⟩⟩):(aj n).length+1≤5*s.length:=by
 obtain⟨a1,a2⟩:=gT (Ac hl)
 obtain⟨h1,-⟩:=yJ N _ _ h rfl a2 trivial
 have h1':(aj n).length+1+0+0≤0+bt (aE l):=h1
 have h2:=uV _ _ _ (pH hl)
 rw[←Ft] at h2
 omega
theorem AR {s:LB} {n:Nd} {l:List Tk} (h:Reads s (.ok n)) (hl:dB s= .ok l):fE n=true∧¬(512<(aK n).length∨(aK n).any (fun m=>decide (256<m.ws.length))=true)∧((aE l=[]∧n=ndK 5 [])∨(hdk (aE l)≠0∧∃st N,run N (.list 0 ⟨aE l,0⟩)=some ⟨[n],st,⟨[],0⟩⟩)):=by
 have hsub:=(gT (Ac hl)).2
 unfold Reads at h
 rw[hl] at h
 obtain⟨m,p,h1,h2⟩:=h
 by_cases h0:(if ag p=0 then p.e else if p.e=0 then 5 else p.e)≠0
 ·rw[Jt h0] at h2;cases h2
 ·rw[Js h0] at h2
  split at h2
  ·cases h2
  ·rename_i hf
   split at h2
   ·cases h2
   ·rename_i hm
    obtain rfl:n=m:=Except.ok.inj h2
    have hk0:ag p=0∧p.e=0:=by
     by_cases hk:ag p=0
     ·rw[Jt hk] at h0
      exact⟨hk,Decidable.not_not.1 h0⟩
     ·rw[Js hk] at h0
      exact absurd (by split<;>omega) h0
    refine⟨by cases hx:fE n with|true=>rfl|false=>exact absurd hx hm,hf,?_⟩
    by_cases hr:ag (aD ⟨l,0⟩)=0
    ·rw[Jt hr] at h1
     exact .inl ⟨An hsub hr,h1.1⟩
    ·rw[Js hr] at h1
     obtain⟨st,N,h1⟩:=h1
     refine .inr ⟨hr,st,N,?_⟩
     have hpr:p.r=[]:=An (yJ N _ _ h1 hk0.2 hsub trivial).2 hk0.1
     have hp:p=⟨[],0⟩:=by rw[cG hk0.2,hpr]
     rw[hp] at h1
     exact h1
