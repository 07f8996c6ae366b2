/- Of the proof of ParseBack: BrkS, Build, WrS, PbreakW, PbackW. -/
import Derived.Test.YtgigdlhcjahejaaGreatDoorE49
import Derived.Shelf.Strings.BuilderX
import Derived.Shelf.RegionOpenPlain
import Derived.Lib.Strings
import Derived.Lib.Slices
import Derived.Lib.Walk
import Derived.Lib.Builder
import Derived.Lib.AppendStr
import Derived.Lib.UnsafeStr
import Derived.WalkKit
import Derived.Laws.Externs
import Derived.Test.YtgigdlhcjahejaaGreatDoorChecked
import Derived.Test.YtgigdlhcjahejaaGreatDoorE00
import Derived.Test.YtgigdlhcjahejaaGreatDoorE44
import Derived.WalkLawsBesides
import Derived.Deep.DeepCutAuto
import Derived.Deep.CutBlock
import Derived.Test.YtgigdlhcjahejaaGreatDoorE46
import Derived.Test.YtgigdlhcjahejaaGreatDoorE47
import Derived.BigQuiet
namespace Go.Proofs.YtgigdlhcjahejaaGreatDoor
open Go Go.RowKit Go.Lw
set_option linter.unusedVariables false
set_option linter.unusedSimpArgs false
theorem Cons.stop {b:Bool} {l:List Tk} (h:(aM ⟨l,0⟩).1=true):Cons b false l l.tail:=by
 obtain⟨-,hk⟩:=nP h
 cases l with
 |nil=>rcases hk with hk|hk<;>cases hk
 |cons t l=>
  have hk':t.kind=3∨t.kind=2:=hk
  have h2:Cons b (t.kind==1) (t::l) l:= .one (fun e=>by omega)
  rw[show(t.kind==1)=false by rcases hk' with e|e<;>rw[e]<;>rfl] at h2
  exact h2
theorem Cons.any {b c:Bool} {l m r:List Tk} (h:∃c,Cons b c l m) (k:∀b,Cons b c m r):Cons b c l r:=by
 obtain⟨d,h⟩:=h
 exact h.trans (k d)
theorem Cons.sN (b:Bool) (l:List Tk):∃c,Cons b c l (jV l):=by
 obtain⟨c,h,_⟩:=Cons.rest b l
 exact⟨c,h⟩
theorem Cons.hd {b:Bool} {l:List Tk} (h:hdk l=1):Cons b true l l.tail:=by
 cases l with
 |nil=>cases h
 |cons t l=>
  have h':t.kind=1:=h
  have h2:Cons b (t.kind==1) (t::l) l:= .one (fun e=>by omega)
  rw[show(t.kind==1)=true by rw[h'];rfl] at h2
  exact h2
theorem Cons.op {l:List Tk} (h:hdk l≠0):∃c,Cons true c l l.tail:=by
 cases l with
 |nil=>exact absurd rfl h
 |cons t l=>exact⟨_,.one (fun _ _=>rfl)⟩
theorem Cons.each {b:Bool} {l:List Tk} (he:(cV ⟨l,0⟩).2.2.e=0):∃c,Cons b c l (cV ⟨l,0⟩).2.2.r:=by
 rw[fA] at he⊢
 simp only at he⊢
 have hs:(fx (cR (az rIn (aA (cg ⟨l,0⟩).2))).2).e=0:=he
 unfold fx at hs
 split at hs
 ·rename_i hst
  rw[nS] at hs
  have hm:(az rIn (aA (cg ⟨l,0⟩).2)).e=0:=by
   rcases Nat.eq_zero_or_pos (az rIn (aA (cg ⟨l,0⟩).2)).e with h|h
   ·exact h
   ·exact absurd hs (pq _ _ (by omega))
  have hq1:(cg ⟨l,0⟩).2.e=0:=(gW hm).1
  have hn:∃r,(cg ⟨l,0⟩).2=⟨r,0⟩∧Cons b true l r:=by
   cases l with
   |nil=>exact absurd hq1 (dd (.inr (by decide)))
   |cons t r=>
    by_cases hc:t.kind=1∧cQ t.text=true
    ·refine⟨r,?_,Cons.hd (l:=t::r) hc.1⟩
     unfold cg;simp only;rw[if_pos hc]
    ·exfalso
     have:(cg ⟨t::r,0⟩).2=bd ⟨t::r,0⟩ 5:=by
      unfold cg
      simp only
      rw[if_neg hc]
     rw[this] at hq1
     exact dd (.inr (by decide)) hq1
  obtain⟨r,hr,hc⟩:=hn
  rw[hr] at hm hs hst⊢
  have h1:Cons b true l (az rIn (aA ⟨r,0⟩)).r:=hc.trans (Cons.any (Cons.sN true r) (fun b=>Cons.iS (by decide) hm))
  have hmp:=fG hm
  obtain⟨m,hme⟩:∃m,(az rIn (aA ⟨r,0⟩)).r=m:=⟨_,rfl⟩
  rw[hme] at h1 hmp
  rw[hmp] at hs hst⊢
  have h2:Cons b true l (cR ⟨m,0⟩).2.r:=h1.trans (Cons.words _ true m rfl hs)
  have hwp:=fG hs
  obtain⟨v,hve⟩:∃v,(cR ⟨m,0⟩).2.r=v:=⟨_,rfl⟩
  rw[hve] at h2 hwp
  rw[hwp] at hst⊢
  have h3:=h2.trans (Cons.stop (b:=true) hst)
  have hes:fx ⟨v,0⟩=⟨v.tail,0⟩:=by
   unfold fx
   rw[if_pos hst,(nP hst).1];rfl
  rw[hes]
  obtain⟨c,h4⟩:=Cons.sN false v.tail
  exact⟨c,h3.trans h4⟩
 ·exact absurd hs (dd (.inr (by decide)))
def Job.wd:Job→Bool
 |.kids _ _ _=>false
 |.list _ _=>false
 |.block _ _=>false
 |_=>true
def Job.bh:Job→Bool
 |.chainL _ _ _=>true
 |_=>false
theorem vC:∀(n:Nat) (j:Job) (x:Rd9),run n j=some x→x.p.e=0→∀b,(j.bh=true→b=true)→∃c,Cons b c j.p.r x.p.r∧(j.wd=true→c=true)
 |0,_,_,h=>by cases h
 |n+1,j,x,h=>by
  have ih:=vC n
  intro he b hbh
  have hpe:=fJ h he
  cases j<;>unfold run at h
  case block d0 p=>
   obtain⟨y,hy,rfl⟩:=Jh.1 h
   have hst:y.st=true:=by
    cases hs:y.st with
    |true=>rfl
    |false=>
     have he':(if y.st then y.p else bd y.p 5).e=0:=he
     rw[hs] at he'
     exact absurd he' (dd (.inr (by decide)))
   have hx:(if y.st then y.p else bd y.p 5)=y.p:=by rw[hst];rfl
   have hye:y.p.e=0:=by
    have he':(if y.st then y.p else bd y.p 5).e=0:=he
    rw[hx] at he';exact he'
   obtain⟨c,h1⟩:=Cons.sN b p.r
   obtain⟨c2,h2,_⟩:=ih _ _ hy hye c (fun e=>by cases e)
   refine⟨c2,?_,fun e=>by cases e⟩
   show Cons b c2 p.r (if y.st then y.p else bd y.p 5).r
   rw[hx]
   exact h1.trans h2
  case list d0 p=>
   obtain⟨y,hy,rfl⟩:=Jh.1 h
   obtain⟨c2,h2,_⟩:=ih _ _ hy he b (fun e=>by cases e)
   exact⟨c2,h2,fun e=>by cases e⟩
  case kids d0 acc p=>
   obtain⟨y,hy,hz⟩:=Ji.1 h
   have hye:y.p.e=0:=by
    split at hz
    ·split at hz
     ·have h2:(aM y.p).2.e=0:=fJ hz he
      rw[nS] at h2;exact h2
     ·cases hz
      have h2:(aM y.p).2.e=0:=he
      rw[nS] at h2;exact h2
    ·cases hz;exact he
   obtain⟨c1,h1,_⟩:=ih _ _ hy hye b (fun e=>by cases e)
   have hyp:=fG hye
   obtain⟨ly,hly⟩:∃ly,y.p.r=ly:=⟨_,rfl⟩
   rw[hly] at hyp h1
   rw[hyp] at hz
   split at hz
   ·rename_i hst
    have hs2:(aM ⟨ly,0⟩).2=⟨ly.tail,0⟩:=(nP hst).1
    rw[hs2] at hz
    obtain⟨c2,h2⟩:=Cons.sN false ly.tail
    have h3:=(h1.trans (Cons.stop hst)).trans h2
    split at hz
    ·obtain⟨c4,h4,_⟩:=ih _ _ hz he c2 (fun e=>by cases e)
     exact⟨c4,h3.trans h4,fun e=>by cases e⟩
    ·cases hz
     exact⟨c2,h3,fun e=>by cases e⟩
   ·cases hz
    exact⟨c1,h1,fun e=>by cases e⟩
  case chain d0 p=>
   obtain⟨y,hy,hz⟩:=Ji.1 h
   have hye:=fJ hz he
   obtain⟨c1,h1,e1⟩:=ih _ _ hy hye b (fun e=>by cases e)
   rw[e1 rfl] at h1
   obtain⟨c2,h2,e2⟩:=ih _ _ hz he true (fun _=>rfl)
   exact⟨c2,h1.trans h2,fun _=>e2 rfl⟩
  case chainL d0 l p=>
   obtain rfl:b=true:=hbh rfl
   split at h
   ·rename_i hk
    obtain⟨y,hy,hz⟩:=Ji.1 h
    have hye:=fJ hz he
    have hk0:hdk p.r≠0:=by
     have:ai p=hdk p.r:=by obtain⟨r,e⟩:=p;rfl
     omega
    obtain⟨c1,h1⟩:=Cons.op hk0
    obtain⟨c2,h2⟩:=Cons.sN c1 p.r.tail
    obtain⟨c3,h3,e3⟩:=ih _ _ hy hye c2 (fun e=>by cases e)
    rw[e3 rfl] at h3
    obtain⟨c4,h4,e4⟩:=ih _ _ hz he true (fun _=>rfl)
    exact⟨c4,((h1.trans h2).trans h3).trans h4,fun _=>e4 rfl⟩
   ·cases h
    exact⟨true,.refl _ _,fun _=>rfl⟩
  case pipe d0 p=>
   obtain⟨y,hy,rfl⟩:=Jh.1 h
   by_cases hbang:aG p=dU
   ·rw[if_pos hbang] at hy
    have hk:hdk p.r=1:=by
     have h1:=dW (p:=p) (by rw[hbang];decide)
     have:ai p=hdk p.r:=by obtain⟨r,e⟩:=p;rfl
     omega
    obtain⟨c1,h1,e1⟩:=ih _ _ hy he true (fun _=>rfl)
    exact⟨c1,(Cons.hd hk).trans h1,e1⟩
   ·rw[if_neg hbang] at hy
    obtain⟨c1,h1,e1⟩:=ih _ _ hy he b (fun e=>by cases e)
    exact⟨c1,h1,e1⟩
  case pipeL d0 acc p=>
   obtain⟨y,hy,hz⟩:=Ji.1 h
   split at hz
   ·rename_i hk
    have hye:y.p.e=0:=fJ hz he
    obtain⟨c1,h1,e1⟩:=ih _ _ hy hye b (fun e=>by cases e)
    rw[e1 rfl] at h1
    have hk0:hdk y.p.r≠0:=by
     have:ai y.p=hdk y.p.r:=rfl
     omega
    obtain⟨c2,h2⟩:=Cons.op hk0
    obtain⟨c3,h3⟩:=Cons.sN c2 y.p.r.tail
    obtain⟨c4,h4,e4⟩:=ih _ _ hz he c3 (fun e=>by cases e)
    exact⟨c4,((h1.trans h2).trans h3).trans h4,e4⟩
   ·cases hz
    obtain⟨c1,h1,e1⟩:=ih _ _ hy he b (fun e=>by cases e)
    exact⟨c1,h1,e1⟩
  case command d0 p=>
   have hpp:=fG hpe
   split at h
   ·cases h
    have hpp':p=⟨p.r,0⟩:=hpp
    have he':(bB p).2.e=0:=he
    rw[hpp'] at he'
    refine⟨true,?_,fun _=>rfl⟩
    show Cons b true p.r (bB p).2.r
    rw[hpp']
    exact Cons.simple he'
   ·split at h
    ·cases h
     exact absurd he (dd (.inr (by decide)))
    ·split at h
     ·cases h
      exact absurd he (dd (.inr (by decide)))
     ·rename_i hr hcm hd9
      obtain⟨y,hy,rfl⟩:=Jh.1 h
      have hye:y.p.e=0:=by
       rcases Nat.eq_zero_or_pos y.p.e with h0|h0
       ·exact h0
       ·exact absurd he (nn _ _ (by omega))
      have hk:hdk p.r=1:=by
       have h1:=dW hr
       have:ai p=hdk p.r:=by obtain⟨r,e⟩:=p;rfl
       omega
      obtain⟨c1,h1,e1⟩:=ih _ _ hy hye true (fun _=>rfl)
      rw[e1 rfl] at h1
      have hyp:=fG hye
      obtain⟨ly,hly⟩:∃ly,y.p.r=ly:=⟨_,rfl⟩
      rw[hly] at hyp h1
      rw[hyp] at he⊢
      exact⟨true,((Cons.hd hk).trans h1).trans (Cons.B0 (ly.length+1) true ly rfl he),fun _=>rfl⟩
  case read d0 s p=>
   split at h
   ·exact ih _ _ h he b (fun e=>by cases e)
   ·split at h
    ·exact ih _ _ h he b (fun e=>by cases e)
    ·split at h
     ·exact ih _ _ h he b (fun e=>by cases e)
     ·split at h
      ·exact ih _ _ h he b (fun e=>by cases e)
      ·exact ih _ _ h he b (fun e=>by cases e)
  case branches d0 acc p=>
   obtain⟨y,hy,h⟩:=Ji.1 h
   obtain⟨z,hz,h⟩:=Ji.1 h
   have hze:z.p.e=0:=by
    split at h
    ·exact fJ h he
    ·split at h
     ·obtain⟨u,hu,rfl⟩:=Jh.1 h
      exact fJ hu (gW he).1
     ·cases h;exact(gW he).1
   have hme:(az bN y.p).e=0:=fJ hz hze
   have hye:=(gW hme).1
   obtain⟨c1,h1,_⟩:=ih _ _ hy hye b (fun e=>by cases e)
   have hyp:=fG hye
   rw[hyp] at hme
   have h2:=Cons.iS (b:=c1) (by decide) hme
   rw[←hyp] at h2
   obtain⟨c3,h3,_⟩:=ih _ _ hz hze true (fun e=>by cases e)
   have h4:=(h1.trans h2).trans h3
   have hzp:=fG hze
   have hkz:ai z.p=hdk z.p.r:=rfl
   split at h
   ·rename_i hv
    have hk:=dW (p:=z.p) (by rw[hv];decide)
    obtain⟨c5,h5,e5⟩:=ih _ _ h he true (fun e=>by cases e)
    exact⟨c5,(h4.trans (Cons.hd (by omega))).trans h5,e5⟩
   ·split at h
    ·rename_i hv
     have hk:=dW (p:=z.p) (by rw[hv];decide)
     obtain⟨u,hu,rfl⟩:=Jh.1 h
     have hue:=(gW he).1
     obtain⟨c5,h5,_⟩:=ih _ _ hu hue true (fun e=>by cases e)
     have hup:=fG hue
     have he':(az rFi u.p).e=0:=he
     rw[hup] at he'
     have h6:=Cons.iS (b:=c5) (by decide) he'
     rw[←hup] at h6
     exact⟨true,((h4.trans (Cons.hd (by omega))).trans h5).trans h6,fun _=>rfl⟩
    ·cases h
     have he':(az rFi z.p).e=0:=he
     rw[hzp] at he'
     have h6:=Cons.iS (b:=c3) (by decide) he'
     rw[←hzp] at h6
     exact⟨true,h4.trans h6,fun _=>rfl⟩
  case loop d0 k p=>
   obtain⟨y,hy,h⟩:=Ji.1 h
   obtain⟨z,hz,rfl⟩:=Jh.1 h
   have hze:z.p.e=0:=he
   have hye:=fJ hz hze
   obtain⟨c1,h1,_⟩:=ih _ _ hy hye b (fun e=>by cases e)
   obtain⟨c2,h2,e2⟩:=ih _ _ hz hze c1 (fun e=>by cases e)
   exact⟨c2,h1.trans h2,e2⟩
  case body d0 p=>
   obtain⟨y,hy,rfl⟩:=Jh.1 h
   have hye:=(gW he).1
   have hme:(az rDo p).e=0:=fJ hy hye
   have hpp:=fG (gW hme).1
   rw[hpp] at hme
   have h1:=Cons.iS (b:=b) (by decide) hme
   rw[←hpp] at h1
   obtain⟨c2,h2,_⟩:=ih _ _ hy hye true (fun e=>by cases e)
   have hyp:=fG hye
   have he':(az bM y.p).e=0:=he
   rw[hyp] at he'
   have h3:=Cons.iS (b:=c2) (by decide) he'
   rw[←hyp] at h3
   exact⟨true,(h1.trans h2).trans h3,fun _=>rfl⟩
  case each d0 p=>
   obtain⟨y,hy,rfl⟩:=Jh.1 h
   have hye:y.p.e=0:=he
   have hee:(cV p).2.2.e=0:=fJ hy hye
   have hpp:p=⟨p.r,0⟩:=fG hpe
   rw[hpp] at hee
   obtain⟨c1,h1⟩:=Cons.each (b:=b) hee
   rw[←hpp] at h1
   obtain⟨c2,h2,e2⟩:=ih _ _ hy hye c1 (fun e=>by cases e)
   exact⟨c2,h1.trans h2,e2⟩
  case group d0 p=>
   obtain⟨y,hy,rfl⟩:=Jh.1 h
   have hye:=(gW he).1
   obtain⟨c1,h1,_⟩:=ih _ _ hy hye b (fun e=>by cases e)
   have hyp:=fG hye
   have he':(az eO y.p).e=0:=he
   rw[hyp] at he'
   have h3:=Cons.iS (b:=c1) (by decide) he'
   rw[←hyp] at h3
   exact⟨true,h1.trans h3,fun _=>rfl⟩
theorem DC {s:LB} {l:List Tk} (h:dG s= .ok l):∀t∈l,t.kind≠0∧lL t.kt:=fun t ht=>by
 have h1:=sG (yX h) t.kt (List.mem_map.2 ⟨t,ht,rfl⟩)
 refine⟨?_,h1⟩
 rcases h1 with⟨h1,_⟩|⟨_,h1⟩
 ·have h1':t.kind=1:=h1
  omega
 ·exact h1
theorem zx {l:List Tk} (h:∀t∈l,t.kind≠0) (h0:hdk l=0):l=[]:=by
 cases l with
 |nil=>rfl
 |cons t l=>exact absurd h0 (h t List.mem_cons_self)
theorem yx {s:LB} {n:Nd} {l:List Tk} (h:Reads s (.ok n)) (hl:dG s= .ok l):eF n=true∧¬(512<(aB n).length∨(aB n).any (fun m=>decide (256<m.ws.length))=true)∧((jV l=[]∧n=ndK 5 [])∨(hdk (jV l)≠0∧∃st N,run N (.list 0 ⟨jV l,0⟩)=some ⟨[n],st,⟨[],0⟩⟩)):=by
 have hlk:=DC hl
 unfold Reads at h
 rw[hl] at h
 obtain⟨m,p,h1,h2⟩:=h
 by_cases h0:(if ai p=0 then p.e else if p.e=0 then 5 else p.e)≠0
 ·rw[if_pos h0] at h2;cases h2
 ·rw[if_neg h0] at h2
  split at h2
  ·cases h2
  ·rename_i hf
   split at h2
   ·cases h2
   ·rename_i hm
    obtain rfl:n=m:=Except.ok.inj h2
    have hk0:ai p=0∧p.e=0:=by
     by_cases hk:ai p=0
     ·rw[if_pos hk] at h0
      exact⟨hk,Decidable.not_not.1 h0⟩
     ·rw[if_neg hk] at h0
      exact absurd (by split<;>omega) h0
    refine⟨by cases hx:eF n with|true=>rfl|false=>exact absurd hx hm,hf,?_⟩
    have hsub:∀t∈jV l,t.kind≠0:=fun t ht=>(hlk t ((List.dropWhile_sublist _).subset ht)).1
    by_cases hr:ai (aA ⟨l,0⟩)=0
    ·rw[if_pos hr] at h1
     exact .inl ⟨zx hsub hr,h1.1⟩
    ·rw[if_neg hr] at h1
     obtain⟨st,N,h1⟩:=h1
     refine .inr ⟨hr,st,N,?_⟩
     obtain⟨c,⟨C,hC,-⟩,-⟩:=vC N _ _ h1 hk0.2 false (fun e=>by cases e)
     have hC':jV l=C++p.r:=hC
     have hpr:p.r=[]:=zx (fun t ht=>hsub t (by rw[hC'];exact List.mem_append_right _ ht)) hk0.1
     have hp:p=⟨[],0⟩:=by rw[fG hk0.2,hpr]
     rw[hp] at h1
     exact h1
set_option maxRecDepth 100000
attribute [local go_sem] au
theorem Eb (l:LB) (m:Nat) (M:Int) (h:M=m):(BA l).extract 0 (min (l.length:Int) M).toNat=BA (l.take m):=by
 subst h
 rw[gv]
 congr 1
 rw[show(min (l.length:Int) (m:Int)).toNat=min m l.length by omega]
 rw[List.take_eq_take_iff];omega
theorem Bu {s:LB} (h:Reads s (.error 0)):False:=by
 unfold Reads at h
 split at h
 ·rename_i e he
  cases h
  exact iZ he
 ·obtain⟨n,p,_,hx⟩:=h
  obtain⟨q,hq⟩:∃q,(if ai p=0 then p.e else if p.e=0 then 5 else p.e)=q:=⟨_,rfl⟩
  rw[hq] at hx
  split at hx
  ·rename_i h1
   exact h1 (Except.error.inj hx).symm
  ·split at hx
   ·cases hx
   ·split at hx
    ·cases hx
    ·cases hx
theorem Ai {s:LB} {n:Nd} (h:Reads s (.ok n)):∃l,dG s= .ok l:=by
 unfold Reads at h
 split at h
 ·cases h
 ·exact⟨_,by assumption⟩
theorem A9 {s:LB} {n:Nd} (h:Reads s (.ok n)):eF n=true:=by
 obtain⟨l,hl⟩:=Ai h
 exact(yx h hl).1
theorem yT {n:Nd} (h:eF n=true):(aK n).length≤2048:=by
 unfold eF at h
 simp only[Bool.and_eq_true,decide_eq_true_eq] at h
 exact h.2
theorem wu {n:Nd} (h:eF n=true):mG n=aK n:=by unfold mG;rw[if_pos h]
theorem uQ (w:World) (F:Nat→Prop):NAt w F (.agg #[.int .i64 0,.bool false,.string ⟨#[]⟩,.slice none 0 0,.slice none 0 0,.slice none 0 0,.slice none 0 0]) Nd0:=
 NAt.shut (n:=Nd0) (bQ.nil _ _) (bQ.nil _ _) (bQ.nil _ _) (cE.nil _ _)
set_option maxHeartbeats 32000000 in
theorem Al (w:World) (v:Value) (nd:Nd) (s0:LB) (hE:bW w) (hS:mC w) (hs9:s0.length≤9223372036854775807) (hv:NIn w v nd):
  Calls Tryz.prog 3 #[v,.string (BA s0)] w fun e w'=>e= .returned (.bool true)∧Kept (fun _=>False) w w':=by
 have HE:=jd hE;have HSE:=jd hS;have HV:=jd hv
 obtain⟨aa,ac,wa,wc,ra,rc,ka,kc,rfl,_⟩:=hv.opens
 clear hE hS hv
 have hs0:=ah s0
 have e1:=Eb s0 600 600 rfl
 obtain⟨s,hs⟩:∃s,s0.take 600=s:=⟨_,rfl⟩
 have hsl:s.length≤600:=by rw[←hs];exact List.length_take_le _ _
 rw[hs] at e1
 obtain⟨n0,hn0⟩:∃n,s0.length=n:=⟨_,rfl⟩
 rw[hn0] at e1 hs0 hs9
 have HSL:=jd hsl
 clear hs hn0 hsl
 obtain⟨bn,hbn⟩:∃b,w.heap.size=b:=⟨_,rfl⟩
 obtain⟨W1,hW1⟩:∃W,w.alloc (.cells #[.int .i64 nd.kind,.bool nd.neg,.string (BA nd.name),.slice aa nd.al.length ac,.slice wa nd.ws.length wc,.slice ra nd.rs.length rc,.slice ka nd.kids.length kc] 27)=W:=⟨_,rfl⟩
 have KW1:Hid (Kept (fun _=>False) w W1):=jd (by rw[←hW1];exact(Ja _ w).alloc _)
 have B1:Hid (NBx W1 bn #[.int .i64 nd.kind,.bool nd.neg,.string (BA nd.name),.slice aa nd.al.length ac,.slice wa nd.ws.length wc,.slice ra nd.rs.length rc,.slice ka nd.kids.length kc]):=jd (by rw[←hbn,←hW1];exact heap_alloc w _)
 have HV1:=jd (HV.o.blw (Below.zg KW1.o))
 have HBN:=jd hbn;have HW1:=jd hW1
 have HSM:=jd (DU nd)
 obtain⟨N,hN⟩:∃n,lJ 4 nd=n:=⟨_,rfl⟩
 rw[hN] at HSM
 have HN:=jd hN
 clear hbn hW1 hN
 go_enter Tryz.func3,Tryz.ntmps3
 go_wp2_with fail
 rw[HBN.o,HW1.o]
 refine(vA 4 (by decide) W1 _ nd HV1.o).mono ?_
 rintro e w2 ⟨v2,rfl,hn2,k2⟩
 rw[HN.o] at hn2
 obtain⟨fa,fan,fac,fw,fwn,fwc,fr,frn,frc,fk,fkn,fkc,hv2,hrest⟩:=hn2.opens
 have hv2':v2= .agg #[.int .i64 N.kind,.bool N.neg,.string (BA N.name),.slice fa fan fac,.slice fw fwn fwc,.slice fr frn frc,.slice fk fkn fkc]:=hv2
 subst hv2'
 clear hv2 hrest
 have hn2':NAt w2 (fun b=>W1.heap.size≤b) (.agg #[.int .i64 N.kind,.bool N.neg,.string (BA N.name),.slice fa fan fac,.slice fw fwn fwc,.slice fr frn frc,.slice fk fkn fkc]) N:=hn2
 have hb2:=k2.heap B1.o (fun h=>h)
 have hbW1:=aj B1.o
 have KW2:=jd (KW1.o.trans k2 (fun _ _ h=>h))
 have hz2:=aj hb2
 have HN2:=jd hn2';have B2:=jd hb2
 clear hn2 hn2' hb2 k2 HV1 HV HW1 B1 KW1
 obtain⟨⟨y0,y1,y2,y3,y4,y5,y6⟩,z0,z1,z2,z3,z4,z5,z6⟩:=NBx.cells B2.o
 go_wp2_with fail
 have K7:=aX (Ja (fun i=>i=bn) w2) (fun _=>rfl) (.int .i64 N.kind) (.bool N.neg) (.string (BA N.name)) (.slice fa fan fac) (.slice fw fwn fwc) (.slice fr frn frc) (.slice fk fkn fkc)
 have B7:=bH B2.o (.int .i64 N.kind) (.bool N.neg) (.string (BA N.name)) (.slice fa fan fac) (.slice fw fwn fwc) (.slice fr frn frc) (.slice fk fkn fkc)
 obtain⟨W3,hW3⟩:∃W,(((((((w2.setCell ⟨bn,0,none⟩ (.int .i64 N.kind)).setCell ⟨bn,1,none⟩ (.bool N.neg)).setCell ⟨bn,2,none⟩ (.string (BA N.name))).setCell ⟨bn,3,none⟩ (.slice fa fan fac)).setCell ⟨bn,4,none⟩ (.slice fw fwn fwc)).setCell ⟨bn,5,none⟩ (.slice fr frn frc)).setCell ⟨bn,6,none⟩ (.slice fk fkn fkc))=W:=⟨_,rfl⟩
 have K7':Kept (fun i=>i=bn) w2 W3:=by rw[←hW3];exact K7
 have B3:Hid (NBx W3 bn #[.int .i64 N.kind,.bool N.neg,.string (BA N.name),.slice fa fan fac,.slice fw fwn fwc,.slice fr frn frc,.slice fk fkn fkc]):=jd (by rw[←hW3];exact B7)
 rw[hW3]
 clear hW3 K7 B7 z0 z1 z2 z3 z4 z5 z6 y0 y1 y2 y3 y4 y5 y6 B2
 have K3:Hid (Kept (fun _=>False) w W3):=jd (KW2.o.trans K7' (fun i hi e=>by have e':i=bn:=e;have:=HBN.o;omega))
 have HN3:Hid (NAt W3 (fun b=>b<W3.heap.size∧b≠bn) (.agg #[.int .i64 N.kind,.bool N.neg,.string (BA N.name),.slice fa fan fac,.slice fw fwn fwc,.slice fr frn frc,.slice fk fkn fkc]) N):=jd (((HN2.o.kept K7' (fun i hi e=>by have e':i=bn:=e;have hi':W1.heap.size≤i:=hi;omega))).mono (fun i h hi=>⟨h,fun e=>by have hi':W1.heap.size≤i:=hi;omega⟩))
 have hz3:=aj B3.o
 clear K7' HN2 KW2
 refine(nF W3 _ _ N HN3.o (fun b hb=>hb.1) HSM.o.len HSM.o.sz (HE.o.ag K3.o) (HSE.o.kept K3.o (fun h=>h)) HSM.o.ok HSM.o.tx).mono ?_
 rintro e w4 ⟨rfl,k4⟩
 have K4:=jd (K3.o.trans k4 (fun _ _ h=>h))
 have B4:Hid (NBx w4 bn #[.int .i64 N.kind,.bool N.neg,.string (BA N.name),.slice fa fan fac,.slice fw fwn fwc,.slice fr frn frc,.slice fk fkn fkc]):=jd (k4.heap B3.o (fun h=>h))
 have HN4:=jd (HN3.o.kept k4 (fun _ _ h=>h))
 have hz4:=k4.size
 have HF4:Hid (∀b,(b<W3.heap.size∧b≠bn)→b<w4.heap.size):=jd (fun b hb=>Nat.lt_of_lt_of_le hb.1 hz4)
 obtain⟨mb,hmb⟩:∃b,eF N=b:=⟨_,rfl⟩
 rw[hmb]
 have HMB:=jd hmb
 clear k4 B3 HN3 K3 hmb
 go_upto_if 14 with fail
 go_cut [] (fun wx=>Kept (fun _=>False) w wx)
 case first=>
  cases mb
  case true=>
   have hm:=HMB.o
   have HTX:=jd (yT hm)
   have HBR:=jd (qq hm)
   have HTE:=jd (wu hm)
   obtain⟨T,hT⟩:∃T,aK N=T:=⟨_,rfl⟩
   rw[hT] at HTX HBR HTE
   clear hT hm HMB
   obtain⟨⟨y0,y1,y2,y3,y4,y5,y6⟩,-⟩:=NBx.cells B4.o
   go_wp2_with fail
   refine(ju w4 _ _ N HN4.o HF4.o HSM.o (HE.o.ag K4.o) (HSE.o.kept K4.o (fun h=>h))).mono ?_
   rintro e w5 ⟨rfl,k5⟩
   rw[HTE.o]
   have K5:=jd (K4.o.trans k5 (fun _ _ h=>h))
   have B5:Hid (NBx w5 bn #[.int .i64 N.kind,.bool N.neg,.string (BA N.name),.slice fa fan fac,.slice fw fwn fwc,.slice fr frn frc,.slice fk fkn fkc]):=jd (k5.heap B4.o (fun h=>h))
   have HN5:=jd (HN4.o.kept k5 (fun _ _ h=>h))
   clear k5 y0 y1 y2 y3 y4 y5 y6
   go_wp2_with fail
   refine(j7 _ T N HBR.o (HE.o.ag K5.o) (HSE.o.kept K5.o (fun h=>h)) (by have:=HTX.o;omega)).mono ?_
   rintro e w6 ⟨pa,pan,pac,pw,pwn,pwc,pr,prn,prc,pk,pkn,pkc,rfl,hn6,hsm6,k6⟩
   have K6:=jd (K5.o.trans k6 (fun _ _ h=>h))
   have B6:Hid (NBx w6 bn #[.int .i64 N.kind,.bool N.neg,.string (BA N.name),.slice fa fan fac,.slice fw fwn fwc,.slice fr frn frc,.slice fk fkn fkc]):=jd (k6.heap B5.o (fun h=>h))
   have HN6:=jd (HN5.o.kept k6 (fun _ _ h=>h))
   have HP6:=jd (hn6.mono (G:=fun _=>True) (fun _ _ _=>trivial))
   clear hn6 hsm6 k6
   obtain⟨⟨y0,y1,y2,y3,y4,y5,y6⟩,-⟩:=NBx.cells B6.o
   have hlt1:=aj B6.o
   go_wp2_with fail
   clear y0 y1 y2 y3 y4 y5 y6
   obtain⟨W7,hW7⟩:∃W,w6.alloc (.cells #[.int .i64 N.kind,.bool N.neg,.string (BA N.name),.slice pa pan pac,.slice pw pwn pwc,.slice pr prn prc,.slice pk pkn pkc] 27)=W:=⟨_,rfl⟩
   obtain⟨b7,hb7⟩:∃b,w6.heap.size=b:=⟨_,rfl⟩
   have KW7:Hid (Kept (fun _=>False) w6 W7):=jd (by rw[←hW7];exact(Ja _ w6).alloc _)
   have B7:Hid (NBx W7 b7 #[.int .i64 N.kind,.bool N.neg,.string (BA N.name),.slice pa pan pac,.slice pw pwn pwc,.slice pr prn prc,.slice pk pkn pkc]):=jd (by rw[←hb7,←hW7];exact heap_alloc w6 _)
   have K7:=jd (K6.o.trans KW7.o (fun _ _ h=>h))
   have B8:Hid (NBx W7 bn #[.int .i64 N.kind,.bool N.neg,.string (BA N.name),.slice fa fan fac,.slice fw fwn fwc,.slice fr frn frc,.slice fk fkn fkc]):=jd (KW7.o.heap B6.o (fun h=>h))
   have HN7:=jd (HN6.o.kept KW7.o (fun _ _ h=>h))
   have HP7:=jd (HP6.o.kept KW7.o (fun _ _ h=>h))
   rw[hW7,hb7]
   clear hW7 hb7
   refine(ll HP7.o HN7.o).mono ?_
   rintro e w8 ⟨rfl,k8⟩
   rw[jB]
   have K8:=jd (K7.o.trans k8 (fun _ _ h=>h))
   clear k8
   go_wp2_with fail
   go_meet
   exact K8.o
  case false=>
   clear HMB
   go_wp2_with fail
   go_meet
   exact K4.o
 case rest=>
  have hcut':Kept (fun _=>False) w wc:=hcut
  have KC:=jd hcut'
  clear hcut hcut'
  by_cases hR:∃m,Reads s (.ok m)
  case neg=>
   have HR:=jd hR
   clear hR
   go_wp2_with fail
   refine(qu _ s (HE.o.ag KC.o) (HSE.o.kept KC.o (fun h=>h)) (by have:=HSL.o;omega)).mono ?_
   rintro e w1 ⟨x,hx,hp,k1⟩
   cases x with
   |ok n=>exact(HR.o ⟨n,hx⟩).elim
   |error c=>
    simp only at hp
    subst hp
    have hc0:c≠0:=fun h0=>Bu (h0▸hx)
    have hc1:((c:Int) !=0)=true:=by simp[bne];omega
    have K1:=jd (KC.o.trans k1 (fun _ _ h=>h))
    clear hx k1 hc0
    go_wp2_with fail
    obtain⟨W5,hW5⟩:∃W,w1.alloc (.cells #[.int .i64 0,.bool false,.string ⟨#[]⟩,.slice none 0 0,.slice none 0 0,.slice none 0 0,.slice none 0 0] 27)=W:=⟨_,rfl⟩
    have K2:Hid (Kept (fun _=>False) w W5):=jd (by rw[←hW5];exact K1.o.alloc _)
    rw[hW5]
    clear hW5
    refine(ll (uQ W5 (fun _=>False)) (uQ W5 (fun _=>False))).mono ?_
    rintro e w6 ⟨rfl,k6⟩
    rw[jB]
    have K6:=jd (K2.o.trans k6 (fun _ _ h=>h))
    clear k6
    go_wp2_with fail
    refine(sr _ (HE.o.ag K6.o) (HSE.o.kept K6.o (fun h=>h))).mono ?_
    rintro e w7 ⟨rfl,k7⟩
    have K7:=jd (K6.o.trans k7 (fun _ _ h=>h))
    clear k7
    go_wp2_with fail
    go_ret
    exact⟨rfl,K7.o⟩
  case pos=>
  obtain⟨m,hR⟩:=hR
  have HR:=jd hR
  have HMM:=jd (A9 hR)
  obtain⟨T,hT⟩:∃T,aK m=T:=⟨_,rfl⟩
  have HTE:Hid (mG m=T):=jd (by rw[←hT];exact wu HMM.o)
  have HTX:Hid (T.length≤2048):=jd (by rw[←hT];exact yT HMM.o)
  have HBR:Hid (Reads T (.ok m)):=jd (by rw[←hT];exact qq HMM.o)
  clear hR hT
  go_wp2_with fail
  refine(j7 _ s m HR.o (HE.o.ag KC.o) (HSE.o.kept KC.o (fun h=>h)) (by have:=HSL.o;omega)).mono ?_
  rintro e w1 ⟨qa,qan,qac,qw,qwn,qwc,qr,qrn,qrc,qk,qkn,qkc,rfl,hn1,hsm1,k1⟩
  have K1:=jd (KC.o.trans k1 (fun _ _ h=>h))
  have HSM1:=jd hsm1;have HN1:=jd hn1
  clear hn1 hsm1 k1
  go_wp2_with fail
  obtain⟨W5,hW5⟩:∃W,w1.alloc (.cells #[.int .i64 m.kind,.bool m.neg,.string (BA m.name),.slice qa qan qac,.slice qw qwn qwc,.slice qr qrn qrc,.slice qk qkn qkc] 27)=W:=⟨_,rfl⟩
  obtain⟨bm,hbm⟩:∃b,w1.heap.size=b:=⟨_,rfl⟩
  have KW5:Hid (Kept (fun _=>False) w1 W5):=jd (by rw[←hW5];exact(Ja _ w1).alloc _)
  have BM5:Hid (NBx W5 bm #[.int .i64 m.kind,.bool m.neg,.string (BA m.name),.slice qa qan qac,.slice qw qwn qwc,.slice qr qrn qrc,.slice qk qkn qkc]):=jd (by rw[←hbm,←hW5];exact heap_alloc w1 _)
  have K5:=jd (K1.o.trans KW5.o (fun _ _ h=>h))
  have HN5:Hid (NAt W5 (fun b=>b<W5.heap.size) (.agg #[.int .i64 m.kind,.bool m.neg,.string (BA m.name),.slice qa qan qac,.slice qw qwn qwc,.slice qr qrn qrc,.slice qk qkn qkc]) m):=jd ((HN1.o.kept KW5.o (fun _ _ h=>h)).mono (fun _ h _=>h))
  rw[hW5,hbm]
  clear hW5 hbm KW5 HN1 K1
  refine(ju W5 _ _ m HN5.o (fun _ h=>h) HSM1.o (HE.o.ag K5.o) (HSE.o.kept K5.o (fun h=>h))).mono ?_
  rintro e w6 ⟨rfl,k6⟩
  rw[HTE.o]
  have K6:=jd (K5.o.trans k6 (fun _ _ h=>h))
  have BM6:Hid (NBx w6 bm #[.int .i64 m.kind,.bool m.neg,.string (BA m.name),.slice qa qan qac,.slice qw qwn qwc,.slice qr qrn qrc,.slice qk qkn qkc]):=jd (k6.heap BM5.o (fun h=>h))
  have HN6:Hid (NAt w6 (fun b=>b<w6.heap.size) (.agg #[.int .i64 m.kind,.bool m.neg,.string (BA m.name),.slice qa qan qac,.slice qw qwn qwc,.slice qr qrn qrc,.slice qk qkn qkc]) m):=jd ((HN5.o.kept k6 (fun _ _ h=>h)).mono (fun _ h _=>h))
  clear k6 BM5 HN5 K5
  go_wp2_with fail
  refine(j7 _ T m HBR.o (HE.o.ag K6.o) (HSE.o.kept K6.o (fun h=>h)) (by have:=HTX.o;omega)).mono ?_
  rintro e w7 ⟨ga,gan,gac,gw,gwn,gwc,gr,grn,grc,gk,gkn,gkc,rfl,hn7,hsm7,k7⟩
  have K7:=jd (K6.o.trans k7 (fun _ _ h=>h))
  have BM7:Hid (NBx w7 bm #[.int .i64 m.kind,.bool m.neg,.string (BA m.name),.slice qa qan qac,.slice qw qwn qwc,.slice qr qrn qrc,.slice qk qkn qkc]):=jd (k7.heap BM6.o (fun h=>h))
  have HN7:=jd (HN6.o.kept k7 (fun _ _ h=>h))
  have HG7:=jd hn7
  clear k7 hn7 hsm7 BM6 HN6 K6
  go_upto_region 10 with fail
  obtain⟨W8,hW8⟩:∃W,w7.alloc (.cells #[.int .i64 m.kind,.bool m.neg,.string (BA m.name),.slice ga gan gac,.slice gw gwn gwc,.slice gr grn grc,.slice gk gkn gkc] 27)=W:=⟨_,rfl⟩
  obtain⟨bg,hbg⟩:∃b,w7.heap.size=b:=⟨_,rfl⟩
  have KW8:Hid (Kept (fun _=>False) w7 W8):=jd (by rw[←hW8];exact(Ja _ w7).alloc _)
  have HBG:Hid (NBx W8 bg #[.int .i64 m.kind,.bool m.neg,.string (BA m.name),.slice ga gan gac,.slice gw gwn gwc,.slice gr grn grc,.slice gk gkn gkc]):=jd (by rw[←hbg,←hW8];exact heap_alloc w7 _)
  have HBM:Hid (NBx W8 bm #[.int .i64 m.kind,.bool m.neg,.string (BA m.name),.slice qa qan qac,.slice qw qwn qwc,.slice qr qrn qrc,.slice qk qkn qkc]):=jd (KW8.o.heap BM7.o (fun h=>h))
  have HNM:Hid (NAt W8 (fun b=>b<W8.heap.size) (.agg #[.int .i64 m.kind,.bool m.neg,.string (BA m.name),.slice qa qan qac,.slice qw qwn qwc,.slice qr qrn qrc,.slice qk qkn qkc]) m):=jd ((HN7.o.kept KW8.o (fun _ _ h=>h)).mono (fun _ h _=>h))
  have HNG:Hid (NAt W8 (fun b=>b<W8.heap.size) (.agg #[.int .i64 m.kind,.bool m.neg,.string (BA m.name),.slice ga gan gac,.slice gw gwn gwc,.slice gr grn grc,.slice gk gkn gkc]) m):=jd ((HG7.o.kept KW8.o (fun _ _ h=>h)).mono (fun _ h _=>h))
  have K8:=jd (K7.o.trans KW8.o (fun _ _ h=>h))
  rw[hW8,hbg]
  clear hW8 hbg KW8 BM7 HN7 HG7 K7
  refine bE 21 [stV (.agg #[.int .i64 m.kind,.bool m.neg,.string (BA m.name),.slice qa qan qac,.slice qw qwn qwc,.slice qr qrn qrc,.slice qk qkn qkc]),stV (.bool true),stV (.bool true),stV (.int .i64 0),stV (.bool true),stV (.bool true),stV (.bool true),stV (.agg #[.int .i64 m.kind,.bool m.neg,.string (BA m.name),.slice ga gan gac,.slice gw gwn gwc,.slice gr grn grc,.slice gk gkn gkc]),stV (.agg #[.int .i64 m.kind,.bool m.neg,.string (BA m.name),.slice qa qan qac,.slice qw qwn qwc,.slice qr qrn qrc,.slice qk qkn qkc]),stV (.bool true),stV (.bool true),stV (.bool true),stV (.agg #[.int .i64 m.kind,.bool m.neg,.string (BA m.name),.slice ga gan gac,.slice gw gwn gwc,.slice gr grn grc,.slice gk gkn gkc]),stV (.string (BA T)),stV (.agg #[.int .i64 m.kind,.bool m.neg,.string (BA m.name),.slice qa qan qac,.slice qw qwn qwc,.slice qr qrn qrc,.slice qk qkn qkc]),stV (.string (BA T)),stV (.bool true),stV (.bool true),stV (.bool true),stV (.bool true),stV (.bool true)] (by kernel_rfl) (by kernel_rfl) ?_ ?_
  ·refine ae (fun a' w' hI hag hf K hK=>?_) ?_
   ·have s7:=hag.same 7 (by decide)
    clear hag
    obtain⟨⟨y0,y1,y2,y3,y4,y5,y6⟩,-⟩:=NBx.cells (hI.heap HBM.o (fun h=>h))
    go_wp2_with fail
    exact hK _ _ hI (Ja _ _) rfl
   refine ae (fun a' w' hI hag hf K hK=>?_) ?_
   ·obtain⟨⟨_,h0,rfl⟩,-⟩:ay _ _ a' w' [0]:=hf
    clear hag
    have HI:=jd hI
    clear hI
    go_wp2_with fail
    have hI:=HI.o
    refine(nF w' _ _ m (HNM.o.kept hI (fun _ _ h=>h)) (fun _ h=>Nat.lt_of_lt_of_le h hI.size) HSM1.o.len HSM1.o.sz (HE.o.ag (K8.o.trans hI (fun _ _ h=>h))) (HSE.o.kept (K8.o.trans hI (fun _ _ h=>h)) (fun h=>h)) HSM1.o.ok HSM1.o.tx).mono ?_
    rintro e w4 ⟨rfl,k4⟩
    rw[HMM.o]
    go_wp2_with fail
    exact hK _ _ (HI.o.trans k4 (fun _ _ h=>h)) k4 rfl
   iterate 7
    refine ae (fun a' w' hI hag hf K hK=>?_) ?_
    ·obtain⟨⟨_,h0,rfl⟩,⟨_,h1,rfl⟩,-⟩:=hf
     have s7:=hag.same 7 (by decide)
     have s9:=hag.same 9 (by decide)
     have s10:=hag.same 10 (by decide)
     clear hag
     obtain⟨⟨y0,y1,y2,y3,y4,y5,y6⟩,-⟩:=NBx.cells (hI.heap HBG.o (fun h=>h))
     obtain⟨⟨y0,y1,y2,y3,y4,y5,y6⟩,-⟩:=NBx.cells (hI.heap HBM.o (fun h=>h))
     go_wp2_with fail
     exact hK _ _ hI (Ja _ _) rfl
   refine ae (fun a' w' hI hag hf K hK=>?_) ?_
   ·obtain⟨⟨_,h7,rfl⟩,⟨_,h8,rfl⟩,⟨_,h6,rfl⟩,-⟩:ay _ _ a' w' [7,8,6]:=hf
    clear hag
    have HI:=jd hI
    clear hI
    go_wp2_with fail
    have hI:=HI.o
    refine(ll (HNG.o.kept hI (fun _ _ h=>h)) (HNM.o.kept hI (fun _ _ h=>h))).mono ?_
    rintro e w4 ⟨rfl,k4⟩
    rw[jB]
    go_wp2_with fail
    exact hK _ _ (HI.o.trans k4 (fun _ _ h=>h)) k4 rfl
   iterate 3
    refine ae (fun a' w' hI hag hf K hK=>?_) ?_
    ·obtain⟨⟨_,h0,rfl⟩,⟨_,h1,rfl⟩,-⟩:=hf
     have s9:=hag.same 9 (by decide)
     clear hag
     obtain⟨⟨y0,y1,y2,y3,y4,y5,y6⟩,-⟩:=NBx.cells (hI.heap HBG.o (fun h=>h))
     go_wp2_with fail
     exact hK _ _ hI (Ja _ _) rfl
   refine ae (fun a' w' hI hag hf K hK=>?_) ?_
   ·obtain⟨⟨_,h12,rfl⟩,⟨_,h11,rfl⟩,-⟩:ay _ _ a' w' [12,11]:=hf
    clear hag
    have HI:=jd hI
    clear hI
    go_wp2_with fail
    have hI:=HI.o
    refine(ju w' _ _ m (HNG.o.kept hI (fun _ _ h=>h)) (fun _ h=>Nat.lt_of_lt_of_le h hI.size) HSM1.o (HE.o.ag (K8.o.trans hI (fun _ _ h=>h))) (HSE.o.kept (K8.o.trans hI (fun _ _ h=>h)) (fun h=>h))).mono ?_
    rintro e w4 ⟨rfl,k4⟩
    rw[HTE.o]
    go_wp2_with fail
    exact hK _ _ (HI.o.trans k4 (fun _ _ h=>h)) k4 rfl
   refine ae (fun a' w' hI hag hf K hK=>?_) ?_
   ·obtain⟨⟨_,h0,rfl⟩,-⟩:=hf
    have s7:=hag.same 7 (by decide)
    clear hag
    obtain⟨⟨y0,y1,y2,y3,y4,y5,y6⟩,-⟩:=NBx.cells (hI.heap HBM.o (fun h=>h))
    go_wp2_with fail
    exact hK _ _ hI (Ja _ _) rfl
   refine ae (fun a' w' hI hag hf K hK=>?_) ?_
   ·obtain⟨⟨_,h14,rfl⟩,-,⟨_,h11,rfl⟩,-⟩:ay _ _ a' w' [14,13,11]:=hf
    clear hag
    have HI:=jd hI
    clear hI
    go_wp2_with fail
    have hI:=HI.o
    refine(ju w' _ _ m (HNM.o.kept hI (fun _ _ h=>h)) (fun _ h=>Nat.lt_of_lt_of_le h hI.size) HSM1.o (HE.o.ag (K8.o.trans hI (fun _ _ h=>h))) (HSE.o.kept (K8.o.trans hI (fun _ _ h=>h)) (fun h=>h))).mono ?_
    rintro e w4 ⟨rfl,k4⟩
    rw[HTE.o]
    go_wp2_with fail
    exact hK _ _ (HI.o.trans k4 (fun _ _ h=>h)) k4 rfl
   iterate 3
    refine ae (fun a' w' hI hag hf K hK=>?_) ?_
    ·obtain⟨⟨_,h0,rfl⟩,⟨_,h1,rfl⟩,⟨_,h2,rfl⟩,-⟩:=hf
     clear hag
     go_wp2_with fail
     exact hK _ _ hI (Ja _ _) rfl
   refine ae (fun a' w' hI hag hf K hK=>?_) ?_
   ·obtain⟨⟨_,h18,rfl⟩,-⟩:ay _ _ a' w' [18]:=hf
    clear hag
    have HI:=jd hI
    clear hI
    go_wp2_with fail
    have hI:=HI.o
    refine(sr w' (HE.o.ag (K8.o.trans hI (fun _ _ h=>h))) (HSE.o.kept (K8.o.trans hI (fun _ _ h=>h)) (fun h=>h))).mono ?_
    rintro e w4 ⟨rfl,k4⟩
    go_wp2_with fail
    exact hK _ _ (HI.o.trans k4 (fun _ _ h=>h)) k4 rfl
   refine ae (fun a' w' hI hag hf K hK=>?_) ?_
   ·obtain⟨⟨_,h0,rfl⟩,⟨_,h1,rfl⟩,-⟩:=hf
    clear hag
    go_wp2_with fail
    exact hK _ _ hI (Ja _ _) rfl
   exact trivial
  ·intro vs wz hI hvs
   simp only[pzz,aL,Act.put,Nat.reduceAdd,spv (hvs 0 _ _ rfl rfl) rfl,spv (hvs 1 _ _ rfl rfl) rfl,spv (hvs 2 _ _ rfl rfl) rfl,spv (hvs 3 _ _ rfl rfl) rfl,spv (hvs 4 _ _ rfl rfl) rfl,spv (hvs 5 _ _ rfl rfl) rfl,spv (hvs 6 _ _ rfl rfl) rfl,spv (hvs 7 _ _ rfl rfl) rfl,spv (hvs 8 _ _ rfl rfl) rfl,spv (hvs 9 _ _ rfl rfl) rfl,spv (hvs 10 _ _ rfl rfl) rfl,spv (hvs 11 _ _ rfl rfl) rfl,spv (hvs 12 _ _ rfl rfl) rfl,spv (hvs 13 _ _ rfl rfl) rfl,spv (hvs 14 _ _ rfl rfl) rfl,spv (hvs 15 _ _ rfl rfl) rfl,spv (hvs 16 _ _ rfl rfl) rfl,spv (hvs 17 _ _ rfl rfl) rfl,spv (hvs 18 _ _ rfl rfl) rfl,spv (hvs 19 _ _ rfl rfl) rfl,spv (hvs 20 _ _ rfl rfl) rfl]
   clear hvs
   have KZ:=jd (K8.o.trans hI (fun _ _ h=>h))
   clear hI
   go_wp2_with fail
   go_ret
   exact⟨rfl,KZ.o⟩
theorem uS (w:World) (v:Value) (nd:Nd) (s0:ByteArray) (hv:NIn w v nd) (hE:bW w) (hS:mC w) (hs9:s0.size≤9223372036854775807):Calls Tryz.prog 3 #[v,.string s0] w fun e w'=>e= .returned (.bool true)∧Below w.heap.size w w':=by
 have h:=Al w v nd s0.data.toList hE hS (by rw[←ah,←nj];exact hs9) hv
 rw[←nj] at h
 exact h.mono fun _ _ ⟨e,k⟩=>⟨e,Below.zg k⟩
end Go.Proofs.YtgigdlhcjahejaaGreatDoor
