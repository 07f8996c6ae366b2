/- Of the proof of ParseBreaks: TilesP, AgainP. -/
import Derived.Test.YtgigdlhcjahejaaGreatDoorD13
namespace Go.Proofs.YtgigdlhcjahejaaGreatDoor
open Go Go.RowKit Go.Lw
set_option linter.unusedVariables false
theorem fO {α:Type} (k:Nat) (x t:List α) (h:k≤x.length):(x++t).take k=x.take k:=List.take_append_of_le_length h
theorem pS {c:UInt8}:∀{x t y:List UInt8},cY c (x++t)= .ok (y++t)→cY c x= .ok y
 |[],t,y,h=>by
  rw[List.nil_append] at h
  cases t with
  |nil=>cases h
  |cons d t=>
   unfold cY at h
   split at h
   ·have:=congrArg List.length (Except.ok.inj h);simp at this;omega
   ·have:=(jE h).len;simp at this;omega
 |d::x,t,y,h=>by
  rw[List.cons_append] at h
  unfold cY at h⊢
  split at h
  ·rename_i e
   rw[if_pos e,List.append_cancel_right (Except.ok.inj h)]
  ·rename_i e
   rw[if_neg e]
   exact pS h
theorem yW:∀{x t y:List UInt8},fj (x++t)= .ok (y++t)→fj x= .ok y
 |[],t,y,h=>by
  have:=(n8 h)
  rw[List.nil_append] at h
  cases t with
  |nil=>cases h
  |cons d t=>
   unfold fj at h
   simp only at h
   split at h
   ·cases h
   ·have:=congrArg List.length (Except.ok.inj h);simp at this;omega
 |d::x,t,y,h=>by
  rw[List.cons_append] at h
  unfold fj at h⊢
  simp only at h⊢
  split at h
  ·cases h
  ·rename_i e
   rw[if_neg e,List.append_cancel_right (Except.ok.inj h)]
theorem iM:∀{x t y:List UInt8} {o:Nat},bC o (x++t)= .ok (y++t)→bC o x= .ok y
 |[],t,y,o,h=>by
  rw[List.nil_append] at h
  cases t with
  |nil=>cases h
  |cons c t=>
   unfold bC at h
   split at h
   ·have:=congrArg List.length (Except.ok.inj h);simp at this;omega
   ·split at h
    ·have:=(ew h).len;simp at this;omega
    ·split at h
     ·have:=(ew h).len;simp at this;omega
     ·split at h
      ·cases h
      ·have:=(ew h).len;simp at this;omega
 |c::x,t,y,o,h=>by
  rw[List.cons_append] at h
  unfold bC at h⊢
  split at h
  ·rename_i e
   have hl:=congrArg List.length (Except.ok.inj h)
   simp at hl
   have hx:1≤x.length:=by
    have:=congrArg List.length e.2
    simp at this
    omega
   rw[←List.cons_append,fO 2 (c::x) t (by simp;omega)] at e
   rw[if_pos e]
   rw[List.drop_append_of_le_length hx] at h
   rw[List.append_cancel_right (Except.ok.inj h)]
  ·rename_i e
   have e':¬(o=0∧(c::x).take 2=[41,41]):=fun h2=>e ⟨h2.1,by
    have hx:2≤(c::x).length:=take_len h2.2 rfl
    rw[←List.cons_append,fO 2 (c::x) t hx];exact h2.2⟩
   rw[if_neg e']
   split at h
   ·rename_i e1
    rw[if_pos e1];exact iM h
   ·rename_i e1
    rw[if_neg e1]
    split at h
    ·rename_i e2
     rw[if_pos e2];exact iM h
    ·rename_i e2
     rw[if_neg e2]
     split at h
     ·cases h
     ·rename_i e3
      rw[if_neg e3];exact iM h
theorem oA:∀{first:Bool} {x t y:List UInt8},da first (x++t)=y++t→da first x=y
 |first,[],t,y,h=>by
  have:=(jI (first:=first) (r:=t)).len
  rw[List.nil_append] at h
  rw[h] at this
  simp at this
  have hy:y=[]:=List.length_eq_zero_iff.1 (by omega)
  rw[hy]
  rfl
 |first,c::x,t,y,h=>by
  rw[List.cons_append] at h
  unfold da at h⊢
  split at h
  ·rename_i e
   rw[if_pos e];exact oA h
  ·rename_i e
   rw[if_neg e]
   rw[←List.cons_append] at h
   exact List.append_cancel_right h
theorem mD {x t r:List UInt8} (h:Tl (x++t) r) (hl:t.length≤r.length):∃z,r=z++t:=by
 obtain⟨k,hk,rfl⟩:=h
 rw[List.length_drop,List.length_append] at hl
 exact⟨x.drop k,List.drop_append_of_le_length (by rw[List.length_append] at hk;omega)⟩
theorem rU {k:Nat} {x t w:List UInt8} (hx:k≤x.length) (e:(x++t).take k=w):x.take k=w:=by
 rw[fO k x t hx] at e;exact e
theorem nQ {k:Nat} {x t w:List UInt8} (e:¬(x++t).take k=w) (hw:w.length=k):¬x.take k=w:=fun h=>e (by
 rw[fO k x t (take_len h hw)];exact h)
theorem fX:∀(n:Nat) (m:Md) (d:Nat) {x t y:List UInt8},scan n m d (x++t)= .ok (y++t)→scan n m d x= .ok y
 |0,m,d,x,t,y,h=>by unfold scan at h;cases h
 |n+1,.piece q,d,[],t,y,h=>by
  rw[List.nil_append] at h
  cases t with
  |nil=>unfold scan at h;cases h
  |cons c t=>have:=(df h).len;simp at this;omega
 |n+1,.piece q,d,c::x,t,y,h=>by
  rw[List.cons_append] at h
  unfold scan at h⊢
  simp only at h⊢
  split at h
  ·rename_i e;rw[if_pos e];exact yW h
  ·rename_i e;rw[if_neg e]
   split at h
   ·rename_i e;rw[if_pos e];exact pS h
   ·rename_i e;rw[if_neg e]
    split at h
    ·rename_i e;rw[if_pos e]
     split at h
     ·cases h
     ·rename_i e;rw[if_neg e];exact fX n _ _ h
    ·rename_i e;rw[if_neg e]
     split at h
     ·rename_i e;rw[if_pos e]
      split at h
      ·rename_i e
       have hl:=(ew h).len
       have h2:2≤(x++t).length:=take_len e rfl
       simp at hl h2
       have hx:2≤x.length:=by omega
       rw[if_pos (rU hx e)]
       rw[List.drop_append_of_le_length hx] at h
       exact iM h
      ·rename_i e
       rw[if_neg (nQ e rfl)]
       split at h
       ·cases h
       ·rename_i e
        rw[if_neg (nQ e rfl)]
        split at h
        ·rename_i e
         split at h
         ·cases h
         ·rename_i e2
          have hl:=(cD n _ _ h).len
          have h2:1≤(x++t).length:=take_len e rfl
          simp at hl h2
          have hx:1≤x.length:=by omega
          rw[if_pos (rU hx e),if_neg e2]
          rw[List.drop_append_of_le_length hx] at h
          exact fX n _ _ h
        ·rename_i e
         rw[if_neg (nQ e rfl)]
         split at h
         ·rename_i e
          have hl:=congrArg List.length (Except.ok.inj h)
          have h2:1≤(x++t).length:=take_len e rfl
          simp at hl h2
          have hx:1≤x.length:=by omega
          rw[if_pos (rU hx e)]
          rw[List.drop_append_of_le_length hx] at h
          rw[List.append_cancel_right (Except.ok.inj h)]
         ·rename_i e
          rw[if_neg (nQ e rfl)]
          rw[oA (Except.ok.inj h)]
     ·rename_i e;rw[if_neg e]
      split at h
      ·cases h
      ·rename_i e;rw[if_neg e]
       rw[List.append_cancel_right (Except.ok.inj h)]
 |n+1,.double,d,[],t,y,h=>by
  rw[List.nil_append] at h
  cases t with
  |nil=>unfold scan at h;cases h
  |cons c t=>
   unfold scan at h
   simp only at h
   split at h
   ·have:=congrArg List.length (Except.ok.inj h);simp at this;omega
   ·split at h
    ·cases h
    ·rename_i r1 h1
     have a:=(df h1).len
     have b:=(cD n _ _ h).len
     simp at b;omega
 |n+1,.double,d,c::x,t,y,h=>by
  rw[List.cons_append] at h
  unfold scan at h⊢
  simp only at h⊢
  split at h
  ·rename_i e;rw[if_pos e,List.append_cancel_right (Except.ok.inj h)]
  ·rename_i e;rw[if_neg e]
   split at h
   ·cases h
   ·rename_i r1 h1
    have b:=(cD n _ _ h).len
    obtain⟨z,rfl⟩:=mD (x:=c::x) (cD n _ _ h1) (by simp at b;omega)
    rw[fX n (.piece true) d (x:=c::x) h1]
    exact fX n .double d h
 |n+1,.brace,d,[],t,y,h=>by
  rw[List.nil_append] at h
  cases t with
  |nil=>unfold scan at h;cases h
  |cons c t=>
   unfold scan at h
   simp only at h
   split at h
   ·have:=congrArg List.length (Except.ok.inj h);simp at this;omega
   ·split at h
    ·cases h
    ·split at h
     ·have:=(cD n _ _ h).len;simp at this;omega
     ·split at h
      ·cases h
      ·rename_i r1 h1
       have a:=(df h1).len
       have b:=(cD n _ _ h).len
       simp at b;omega
 |n+1,.brace,d,c::x,t,y,h=>by
  rw[List.cons_append] at h
  unfold scan at h⊢
  simp only at h⊢
  split at h
  ·rename_i e;rw[if_pos e,List.append_cancel_right (Except.ok.inj h)]
  ·rename_i e;rw[if_neg e]
   split at h
   ·cases h
   ·rename_i e;rw[if_neg e]
    split at h
    ·rename_i e;rw[if_pos e];exact fX n .brace d h
    ·rename_i e;rw[if_neg e]
     split at h
     ·cases h
     ·rename_i r1 h1
      have b:=(cD n _ _ h).len
      obtain⟨z,rfl⟩:=mD (x:=c::x) (cD n _ _ h1) (by simp at b;omega)
      rw[fX n (.piece false) d (x:=c::x) h1]
      exact fX n .brace d h
theorem yE {x t y:List UInt8} (h:fy false 0 (x++t)= .ok (y++t)):fy false 0 x= .ok y:=by
 unfold fy at h⊢
 have h1:=fX _ _ _ h
 rw[show de (.piece false) (x++t).length=de (.piece false) x.length+2*t.length by unfold de;simp;omega,ru _ _ _ _ _ (Nat.le_refl _)] at h1
 exact h1
theorem mK:∀(n:Nat) {x t y:List UInt8},bD n (x++t)= .ok (y++t)→bD n x= .ok y
 |0,x,t,y,h=>by cases h
 |n+1,[],t,y,h=>by
  rw[List.nil_append] at h
  have hy:y.length=0:=by
   have:=(gK (n+1) h).len;simp at this;omega
  rw[List.length_eq_zero_iff.1 hy]
  rfl
 |n+1,c::x,t,y,h=>by
  rw[List.cons_append] at h
  unfold bD at h⊢
  split at h
  ·rename_i e
   rw[if_pos e]
   rw[←List.cons_append] at h
   rw[List.append_cancel_right (Except.ok.inj h)]
  ·rename_i e
   rw[if_neg e]
   split at h
   ·cases h
   ·rename_i r1 h1
    have b:=(gK n h).len
    obtain⟨z,rfl⟩:=mD (x:=c::x) (cD _ _ _ h1) (by simp at b;omega)
    rw[yE (x:=c::x) h1]
    exact mK n h
def pn (x:List UInt8):Prop:=bD (x.length+1) x= .ok []
theorem pq {c:UInt8} {x:List UInt8} (h:pn (c::x)):fh c=false:=by
 cases e:fh c with
 |false=>rfl
 |true=>
  unfold pn at h
  rw[List.length_cons,n7 e] at h
  cases h
def iL (c:UInt8):Bool:=[32,9].contains c
theorem vf {c:UInt8}:iL c=true↔c=32∨c=9:=by simp[iL]
def oe (g:List UInt8):Prop:=(∀c∈g,c≠10)∧(g.dropWhile iL=[]∨∃r,g.dropWhile iL=35::r)
def Bi (t:Tk):Prop:=t.kind≠0∧cI t.text= .ok [⟨t.kind,t.text,0⟩]∧(t.kind=1→pn t.text)
def pC (s:List UInt8):Nat→List Tk→Prop
 |a,[]=>oe (s.drop a)
 |a,t::l=>a≤t.pos∧t.pos+t.text.length≤s.length∧(s.drop t.pos).take t.text.length=t.text∧oe ((s.drop a).take (t.pos -a))∧Bi t∧pC s (t.pos+t.text.length) l
def Gap (g r:List UInt8):Prop:=(∀c∈g,iL c=true)∨(oe g∧(r=[]∨∃r',r=10::r'))
theorem pt {g r:List UInt8} (h:∀c∈g,iL c=true):(g++r).dropWhile iL=r.dropWhile iL:=by
 induction g with
 |nil=>rfl
 |cons c g ih=>
  rw[List.cons_append,List.dropWhile_cons,if_pos (h c List.mem_cons_self)]
  exact ih (fun x hx=>h x (List.mem_cons_of_mem _ hx))
theorem tq {g:List UInt8} (h:∀c∈g,iL c=true):oe g:=by
 refine⟨fun c hc e=>?_,.inl ?_⟩
 ·have:=h c hc;subst e;revert this;decide
 ·have:=pt (r:=[]) h;rw[List.append_nil] at this;exact this
theorem Gap.ok {g r:List UInt8} (h:Gap g r):oe g:=h.elim tq (·.1)
theorem vQ:∀o∈opsL,o.1≠0→lexB o.2 [⟨o.1,o.2,0⟩]=true∧o.1≠1:=by decide+kernel
theorem qW {x t:List UInt8} (h:bM (x++t)=none):bM x=none:=by
 unfold bM at h⊢
 rw[List.find?_eq_none] at h⊢
 intro o ho hx
 refine h o ho ?_
 simp only[beq_iff_eq] at hx⊢
 rw[fO _ x t (take_len hx rfl)]
 exact hx
theorem vG {c:UInt8} {r r':List UInt8} (h1:¬(c=32∨c=9)) (h2:¬c=35) (hop:bM (c::r)=none) (hw:bD (r.length+2) (c::r)= .ok r') (hl:r.length+1≤2048) (hk:(c::r).all okB=true):
  Bi ⟨1,(c::r).take (r.length+1 -r'.length),0⟩∧r'.length≤r.length∧(c::r).drop (r.length+1 -r'.length)=r':=by
 have he:fh c=false:=by
  cases e:fh c with
  |false=>rfl
  |true=>exact absurd hop (lq e h1)
 obtain⟨j,hj,hd⟩:=gE hw he
 have hlen:r'.length=r.length -j:=by rw[←hd,List.length_drop]
 have hx:(c::r).take (r.length+1 -r'.length)=c::r.take j:=by
  rw[show r.length+1 -r'.length=j+1 by omega,List.take_succ_cons]
 have hall:c::r=(c::r.take j)++r':=by rw[List.cons_append,←hd,List.take_append_drop]
 have hlj:(r.take j).length=j:=by rw[List.length_take];omega
 have hop':bM (c::r.take j)=none:=qW (t:=r') (by rw[←hall];exact hop)
 have hw':bD (r.length+2) (c::r.take j)= .ok []:=by
  rw[hall] at hw
  exact mK _ (y:=[]) hw
 have hwt:bD (j+2) (c::r.take j)= .ok []:=by
  rw[show r.length+2=(j+2)+(r.length -j) by omega,iV _ _ _ (by simp[hlj])] at hw'
  exact hw'
 refine⟨?_,by omega,by rw[show r.length+1 -r'.length=j+1 by omega,List.drop_succ_cons,hd]⟩
 rw[hx]
 refine⟨Nat.one_ne_zero,?_,fun _=>?_⟩
 ·unfold cI
  have ha:(c::r.take j).all okB=true:=by
   rw[hall,List.all_append,Bool.and_eq_true] at hk
   exact hk.1
  rw[if_neg (by rw[List.length_cons,hlj];omega),if_neg (by rw[ha];decide)]
  rw[List.length_cons,hlj]
  have hw2:bD ((r.take j).length+2) (c::r.take j)= .ok []:=by rw[hlj];exact hwt
  rw[hU (m:=j+1) h1 h2 hop' hw2]
  simp[dc,Except.map,hlj,List.take_take]
 ·unfold pn
  rw[List.length_cons,hlj]
  exact hwt
theorem sV {s:List UInt8} {a b k:Nat} (h:a≤b):(s.drop a).take (b+k -a)=(s.drop a).take (b -a)++(s.drop b).take k:=by
 rw[show b+k -a=(b -a)+k by omega,List.take_add,List.drop_drop,show a+(b -a)=b by omega]
theorem qE {f:UInt8→Bool}:∀{l:List UInt8} {x:UInt8} {y:List UInt8},l.dropWhile f=x::y→f x=false
 |[],x,y,h=>by cases h
 |c::l,x,y,h=>by
  rw[List.dropWhile_cons] at h
  split at h
  ·exact qE h
  ·rename_i e
   cases h
   simpa using e
theorem Ad:∀(n:Nat) (s:List UInt8) (a b:Nat) (l:List Tk),s.length≤2048→s.all okB=true→a≤b→b≤s.length→dc n s.length (s.drop b)= .ok l→Gap ((s.drop a).take (b -a)) (s.drop b)→pC s a l
 |0,s,a,b,l,_,_,_,_,h,_=>by cases h
 |n+1,s,a,b,l,hs,hk,hab,hb,h,hg=>by
  cases hd:s.drop b with
  |nil=>
   rw[hd] at h
   have hbs:s.length≤b:=List.drop_eq_nil_iff.1 hd
   cases h
   have:=hg.ok
   rw[List.take_of_length_le (by rw[List.length_drop];omega)] at this
   exact this
  |cons c r=>
   have hbl:b<s.length:=by
    have:=congrArg List.length hd;simp at this;omega
   have hrl:s.length -b=r.length+1:=by
    have:=congrArg List.length hd;simpa using this
   have hr:s.drop (b+1)=r:=by rw[←List.drop_drop,hd,List.drop_succ_cons,List.drop_zero]
   have hkr:(c::r).all okB=true:=by
    rw[←hd]
    exact List.all_eq_true.2 (fun x hx=>List.all_eq_true.1 hk x (List.mem_of_mem_drop hx))
   rw[hd] at h hg
   by_cases h1:c=32∨c=9
   ·rw[jN h1] at h
    refine Ad n s a (b+1) l hs hk (by omega) (by omega) (by rw[hr];exact h) ?_
    rw[sV hab,hd,List.take_succ_cons,List.take_zero]
    rcases hg with hg|⟨_,hg|⟨r',hg⟩⟩
    ·left
     intro x hx
     rcases List.mem_append.1 hx with hx|hx
     ·exact hg x hx
     ·rw[List.mem_singleton.1 hx];exact vf.2 h1
    ·cases hg
    ·cases hg;rcases h1 with h1|h1<;>cases h1
   ·by_cases h2:c=35
    ·rw[lI h1 h2] at h
     obtain⟨q,hq⟩:∃q,((c::r).takeWhile (· !=10)).length=q:=⟨_,rfl⟩
     have hq2:(c::r).drop q=(c::r).dropWhile (· !=10):=by rw[←hq];exact jw _ _
     have hq3:(c::r).take q=(c::r).takeWhile (· !=10):=by
      rw[←hq]
      conv=>lhs;rw[←List.takeWhile_append_dropWhile (p:=(· !=10)) (l:=c::r)]
      rw[List.takeWhile_append_dropWhile]
      have:=List.take_left (l₁:=(c::r).takeWhile (· !=10)) (l₂:=(c::r).dropWhile (· !=10))
      rw[List.takeWhile_append_dropWhile] at this
      exact this
     have hq4:q≤r.length+1:=by
      have:=dh (· !=10) (c::r);simp at this hq;omega
     refine Ad n s a (b+q) l hs hk (by omega) (by omega) (by rw[←List.drop_drop,hd,hq2];exact h) ?_
     rw[sV hab,hd,hq3,←List.drop_drop,hd,hq2]
     right
     rcases hg with hg|⟨_,hg|⟨r',hg⟩⟩
     ·refine⟨⟨fun x hx=>?_,.inr ?_⟩,?_⟩
      ·rcases List.mem_append.1 hx with hx|hx
       ·exact(tq hg).1 x hx
       ·have:=List.all_eq_true.1 (List.all_takeWhile (p:=fun x:UInt8=>x !=10) (l:=c::r)) x hx
        simpa[bne] using this
      ·rw[pt hg,List.takeWhile_cons,if_pos (by subst h2;decide),List.dropWhile_cons,if_neg (by subst h2;decide)]
       exact⟨_,by rw[h2]⟩
      ·cases e:(c::r).dropWhile (· !=10) with
       |nil=>exact .inl rfl
       |cons x y=>
        right
        have:=qE e
        exact⟨y,by rw[show x=10 by simpa[bne] using this]⟩
     ·cases hg
     ·cases hg;cases h2
    ·have hpos:s.length -(r.length+1)=b:=by omega
     cases hop:bM (c::r) with
     |some o=>
      obtain⟨k,t⟩:=o
      rw[lU h1 h2 hop] at h
      split at h
      ·cases h
      ·rename_i hk0
       have ho:=lW hop
       have ho2:=j5 hop
       simp only at ho ho2
       cases hx:dc n s.length ((c::r).drop t.length) with
       |error e=>rw[hx] at h;cases h
       |ok y=>
        rw[hx] at h
        cases h
        have hal:=vQ _ ho.1 hk0
        refine⟨by show a≤s.length -(r.length+1);rw[hpos];exact hab,by show s.length -(r.length+1)+t.length≤s.length;rw[hpos];have:=ho2.2.1;simp at this;omega,?_,?_,⟨hk0,CN hal.1,fun e=>absurd e hal.2⟩,?_⟩
        ·show(s.drop (s.length -(r.length+1))).take t.length=t
         rw[hpos,hd];exact ho.2
        ·show oe ((s.drop a).take (s.length -(r.length+1) -a))
         rw[hpos];exact hg.ok
        ·show pC s (s.length -(r.length+1)+t.length) y
         rw[hpos]
         have:=ho2.2.1
         simp at this
         refine Ad n s (b+t.length) (b+t.length) y hs hk (Nat.le_refl _) (by omega) (by rw[←List.drop_drop,hd];exact hx) ?_
         rw[Nat.sub_self,List.take_zero]
         exact .inl (fun x hx=>by cases hx)
     |none=>
      cases hw:bD (r.length+2) (c::r) with
      |error e=>rw[nX h1 h2 hop hw] at h;cases h
      |ok r'=>
       rw[hU h1 h2 hop hw] at h
       obtain⟨hal,hrl2,hdr⟩:=vG h1 h2 hop hw (by omega) hkr
       cases hx:dc n s.length r' with
       |error e=>rw[hx] at h;cases h
       |ok y=>
        rw[hx] at h
        cases h
        have htl:((c::r).take (r.length+1 -r'.length)).length=r.length+1 -r'.length:=by
         rw[List.length_take,List.length_cons];omega
        refine⟨by show a≤s.length -(r.length+1);rw[hpos];exact hab,by show s.length -(r.length+1)+List.length _≤s.length;rw[hpos,htl];omega,?_,?_,hal,?_⟩
        ·show(s.drop (s.length -(r.length+1))).take (List.length _)=_
         rw[hpos,hd,htl]
        ·show oe ((s.drop a).take (s.length -(r.length+1) -a))
         rw[hpos];exact hg.ok
        ·show pC s (s.length -(r.length+1)+List.length _) y
         rw[hpos,htl]
         refine Ad n s _ _ y hs hk (Nat.le_refl _) (by omega) (by rw[←List.drop_drop,hd,hdr];exact hx) ?_
         rw[Nat.sub_self,List.take_zero]
         exact .inl (fun x hx=>by cases hx)
theorem pT {s:List UInt8} {l:List Tk} (h:cI s= .ok l):pC s 0 l:=by
 unfold cI at h
 split at h
 ·cases h
 ·rename_i h1
  split at h
  ·cases h
  ·rename_i h2
   refine Ad _ s 0 0 l (by omega) (by simpa using h2) (Nat.le_refl _) (Nat.zero_le _) (by rw[List.drop_zero];exact h) ?_
   rw[Nat.sub_self,List.take_zero]
   exact .inl (fun x hx=>by cases hx)
abbrev Kt:=Nat×List UInt8
def Tk.kt (t:Tk):Kt:=(t.kind,t.text)
def dO:Nat→List UInt8→Except Nat (List Kt)
 |0,_=>.error 5
 |_+1,[]=>.ok []
 |n+1,c::r=>
  if c=32∨c=9 then dO n r
  else if c=35 then dO n ((c::r).dropWhile (· !=10))
  else match bM (c::r) with
   |some o=>if o.1=0 then .error 5 else(dO n ((c::r).drop o.2.length)).map (o::·)
   |none=>match bD (r.length+2) (c::r) with
    |.error e=>.error e
    |.ok r'=>(dO n r').map ((1,(c::r).take (r.length+1 -r'.length))::·)
theorem jT:∀(n N:Nat) (r:List UInt8),(dc n N r).map (·.map Tk.kt)=dO n r
 |0,N,r=>rfl
 |n+1,N,[]=>rfl
 |n+1,N,c::r=>by
  unfold dc dO
  split
  ·exact jT n N r
  ·split
   ·exact jT n N _
   ·cases hop:bM (c::r) with
    |some o=>
     simp only
     split
     ·rfl
     ·rw[←jT n N]
      cases dc n N (List.drop o.2.length (c::r))<;>rfl
    |none=>
     simp only
     cases hw:bD (r.length+2) (c::r) with
     |error e=>rfl
     |ok r'=>
      simp only
      rw[←jT n N]
      cases dc n N r'<;>rfl
theorem iv:∀(n:Nat) (r:List UInt8),r.length<n→dO (n+1) r=dO n r
 |0,r,h=>by omega
 |n+1,[],h=>rfl
 |n+1,c::r,h=>by
  have hl:r.length<n:=by simp at h;exact h
  rw[dO]
  conv=>rhs;rw[dO]
  split
  ·exact iv n r hl
  ·rename_i h1
   split
   ·rename_i h2
    refine iv n _ ?_
    have:=dh (· !=10) (c::r)
    have h3:1≤((c::r).takeWhile (· !=10)).length:=by rw[List.takeWhile_cons,h2];simp
    simp at this h3⊢
    omega
   ·split
    ·rename_i o ho
     have:=j5 ho
     split
     ·rfl
     ·rw[iv n]
      rw[List.length_drop]
      simp
      omega
    ·rename_i hop
     split
     ·rfl
     ·rename_i r' hw
      have he:fh c=false:=by
       cases e:fh c with
       |false=>rfl
       |true=>exact absurd hop (lq e h1)
      have:=(gE hw he).len
      rw[iv n _ (by omega)]
theorem zJ (n k:Nat) (r:List UInt8) (h:r.length<n):dO (n+k) r=dO n r:=by
 induction k with
 |zero=>rfl
 |succ k ih=>rw[←Nat.add_assoc,iv (n+k) r (by omega),ih]
def cP (r:List UInt8):Except Nat (List Kt):=dO (r.length+1) r
theorem jF {n:Nat} {r:List UInt8} (h:r.length<n):dO n r=cP r:=by
 unfold cP
 obtain⟨k,rfl⟩:∃k,n=(r.length+1)+k:=⟨n -(r.length+1),by omega⟩
 exact zJ _ _ _ (Nat.lt_succ_self _)
theorem xF {s:List UInt8} {l:List Tk} (h:cI s= .ok l):cP s= .ok (l.map Tk.kt):=by
 unfold cI at h
 split at h
 ·cases h
 ·split at h
  ·cases h
  ·unfold cP
   rw[←jT (s.length+1) s.length,h]
   rfl
theorem Cv {s:List UInt8} {l:List Kt} (h:cP s= .ok l) (hl:s.length≤2048) (hk:s.all okB=true):∃l',cI s= .ok l'∧l'.map Tk.kt=l:=by
 unfold cI
 rw[if_neg (by omega),if_neg (by rw[hk];decide)]
 unfold cP at h
 rw[←jT (s.length+1) s.length] at h
 cases e:dc (s.length+1) s.length s with
 |error x=>rw[e] at h;cases h
 |ok l'=>rw[e] at h;exact⟨l',rfl,Except.ok.inj h⟩
def Sep (T:List UInt8):Prop:=T=[]∨∃e t,T=e::t∧(e=32∨e=9∨e=10∨e=59)
theorem Sep.head {e:UInt8} {t:List UInt8} (h:Sep (e::t)):e=32∨e=9∨e=10∨e=59:=by
 rcases h with h|⟨_,_,h,k⟩
 ·cases h
 ·cases h;exact k
def ql (T:List UInt8):Prop:=T=[]∨∃e t,T=e::t∧fh e=true∧∀b,bJ e b=false
theorem Sep.E {T:List UInt8} (h:Sep T):ql T:=by
 rcases h with h|⟨e,t,h,k⟩
 ·exact .inl h
 ·refine .inr ⟨e,t,h,?_⟩
  rcases k with rfl|rfl|rfl|rfl<;>exact⟨rfl,fun b=>by cases b<;>rfl⟩
theorem xT {e:UInt8} {t:List UInt8} (h:ql (e::t)):fh e=true:=by
 rcases h with h|⟨_,_,h,k,_⟩
 ·cases h
 ·cases h;exact k
theorem uL {e:UInt8} {t:List UInt8} (h:ql (e::t)) (b:Bool):bJ e b=false:=by
 rcases h with h|⟨_,_,h,_,k⟩
 ·cases h
 ·cases h;exact k b
theorem lJ {k:Nat} {x T w:List UInt8} (hT:ql T) (e:¬x.take k=w) (hw:w.length=k) (hb:∀c∈w,fh c=false):¬(x++T).take k=w:=fun h=>by
 by_cases hx:k≤x.length
 ·rw[fO k x T hx] at h;exact e h
 ·have h2:=take_len h hw
  rw[List.length_append] at h2
  cases T with
  |nil=>simp at h2;omega
  |cons c t=>
   have:c∈(x++c::t).take k:=by
    rw[List.take_append,List.mem_append]
    right
    obtain⟨j,hj⟩:∃j,k -x.length=j+1:=⟨k -x.length -1,by omega⟩
    rw[hj,List.take_succ_cons]
    exact List.mem_cons_self
   rw[h] at this
   have:=hb c this
   rw[xT hT] at this
   cases this
theorem nV {k:Nat} {x T w:List UInt8} (e:x.take k=w) (hw:w.length=k):(x++T).take k=w:=by
 rw[fO k x T (take_len e hw)];exact e
theorem pR {c:UInt8}:∀{x y:List UInt8} (T:List UInt8),cY c x= .ok y→cY c (x++T)= .ok (y++T)
 |[],y,T,h=>by cases h
 |d::x,y,T,h=>by
  rw[List.cons_append]
  unfold cY at h⊢
  split at h
  ·rename_i e;rw[if_pos e,Except.ok.inj h]
  ·rename_i e;rw[if_neg e];exact pR T h
theorem yG {x y:List UInt8} (T:List UInt8) (h:fj x= .ok y):fj (x++T)= .ok (y++T):=by
 cases x with
 |nil=>cases h
 |cons d x=>
  rw[List.cons_append]
  unfold fj at h⊢
  simp only at h⊢
  split at h
  ·cases h
  ·rename_i e;rw[if_neg e,Except.ok.inj h]
theorem iP:∀{x y:List UInt8} {o:Nat} {T:List UInt8},ql T→bC o x= .ok y→bC o (x++T)= .ok (y++T)
 |[],y,o,T,hT,h=>by cases h
 |c::x,y,o,T,hT,h=>by
  rw[List.cons_append]
  unfold bC at h⊢
  split at h
  ·rename_i e
   have hx:1≤x.length:=by
    have:=take_len e.2 rfl
    simp at this
    omega
   rw[if_pos ⟨e.1,by rw[←List.cons_append];exact nV e.2 rfl⟩,List.drop_append_of_le_length hx,Except.ok.inj h]
  ·rename_i e
   have e':¬(o=0∧(c::(x++T)).take 2=[41,41]):=fun h2=>e ⟨h2.1,by
    have h3:=h2.2
    rw[←List.cons_append] at h3
    refine Classical.byContradiction fun h4=>lJ hT h4 rfl (by decide) h3⟩
   rw[if_neg e']
   split at h
   ·rename_i e1;rw[if_pos e1];exact iP hT h
   ·rename_i e1;rw[if_neg e1]
    split at h
    ·rename_i e2;rw[if_pos e2];exact iP hT h
    ·rename_i e2;rw[if_neg e2]
     split at h
     ·cases h
     ·rename_i e3;rw[if_neg e3];exact iP hT h
theorem oZ:∀{first:Bool} {x T:List UInt8},ql T→da first (x++T)=da first x++T
 |first,[],T,hT=>by
  cases T with
  |nil=>rfl
  |cons e t=>
   rw[List.nil_append]
   unfold da
   rw[uL hT]
   rfl
 |first,c::x,T,hT=>by
  rw[List.cons_append]
  unfold da
  split
  ·exact oZ hT
  ·rfl
theorem fT:∀(n:Nat) (m:Md) (d:Nat) {x y T:List UInt8},ql T→scan n m d x= .ok y→scan n m d (x++T)= .ok (y++T)
 |0,m,d,x,y,T,hT,h=>by unfold scan at h;cases h
 |n+1,.piece q,d,[],y,T,hT,h=>by unfold scan at h;cases h
 |n+1,.piece q,d,c::x,y,T,hT,h=>by
  rw[List.cons_append]
  unfold scan at h⊢
  simp only at h⊢
  split at h
  ·rename_i e;rw[if_pos e];exact yG T h
  ·rename_i e;rw[if_neg e]
   split at h
   ·rename_i e;rw[if_pos e];exact pR T h
   ·rename_i e;rw[if_neg e]
    split at h
    ·rename_i e;rw[if_pos e]
     split at h
     ·cases h
     ·rename_i e;rw[if_neg e];exact fT n _ _ hT h
    ·rename_i e;rw[if_neg e]
     split at h
     ·rename_i e;rw[if_pos e]
      split at h
      ·rename_i e
       rw[if_pos (nV e rfl),List.drop_append_of_le_length (take_len e rfl)]
       exact iP hT h
      ·rename_i e
       rw[if_neg (lJ hT e rfl (by decide))]
       split at h
       ·cases h
       ·rename_i e
        rw[if_neg (lJ hT e rfl (by decide))]
        split at h
        ·rename_i e
         split at h
         ·cases h
         ·rename_i e2
          rw[if_pos (nV e rfl),if_neg e2,List.drop_append_of_le_length (take_len e rfl)]
          exact fT n _ _ hT h
        ·rename_i e
         rw[if_neg (lJ hT e rfl (by decide))]
         split at h
         ·rename_i e
          rw[if_pos (nV e rfl),List.drop_append_of_le_length (take_len e rfl),Except.ok.inj h]
         ·rename_i e
          rw[if_neg (lJ hT e rfl (by decide)),oZ hT,Except.ok.inj h]
     ·rename_i e;rw[if_neg e]
      split at h
      ·cases h
      ·rename_i e;rw[if_neg e,Except.ok.inj h]
 |n+1,.double,d,[],y,T,hT,h=>by unfold scan at h;cases h
 |n+1,.double,d,c::x,y,T,hT,h=>by
  rw[List.cons_append]
  unfold scan at h⊢
  simp only at h⊢
  split at h
  ·rename_i e;rw[if_pos e,Except.ok.inj h]
  ·rename_i e;rw[if_neg e]
   split at h
   ·cases h
   ·rename_i r1 h1
    have:=fT n (.piece true) d hT h1
    rw[List.cons_append] at this
    rw[this]
    exact fT n .double d hT h
 |n+1,.brace,d,[],y,T,hT,h=>by unfold scan at h;cases h
 |n+1,.brace,d,c::x,y,T,hT,h=>by
  rw[List.cons_append]
  unfold scan at h⊢
  simp only at h⊢
  split at h
  ·rename_i e;rw[if_pos e,Except.ok.inj h]
  ·rename_i e;rw[if_neg e]
   split at h
   ·cases h
   ·rename_i e;rw[if_neg e]
    split at h
    ·rename_i e;rw[if_pos e];exact fT n .brace d hT h
    ·rename_i e;rw[if_neg e]
     split at h
     ·cases h
     ·rename_i r1 h1
      have:=fT n (.piece false) d hT h1
      rw[List.cons_append] at this
      rw[this]
      exact fT n .brace d hT h
theorem zh {x y T:List UInt8} (hT:ql T) (h:fy false 0 x= .ok y):fy false 0 (x++T)= .ok (y++T):=by
 unfold fy at h⊢
 have h1:scan (de (.piece false) x.length+2*T.length) (.piece false) 0 x= .ok y:=by
  rw[ru _ _ _ _ _ (Nat.le_refl _)];exact h
 have h2:=fT _ _ _ hT h1
 rw[show de (.piece false) (x++T).length=de (.piece false) x.length+2*T.length by unfold de;simp;omega]
 exact h2
theorem mG:∀(n:Nat) {x y T:List UInt8},ql T→bD n x= .ok y→bD n (x++T)= .ok (y++T)
 |0,x,y,T,hT,h=>by cases h
 |n+1,[],y,T,hT,h=>by
  cases h
  cases T with
  |nil=>rfl
  |cons e t=>exact n7 (xT hT)
 |n+1,c::x,y,T,hT,h=>by
  rw[List.cons_append]
  unfold bD at h⊢
  split at h
  ·rename_i e;rw[if_pos e,←Except.ok.inj h];rfl
  ·rename_i e;rw[if_neg e]
   split at h
   ·cases h
   ·rename_i r1 h1
    have:=zh hT h1
    rw[List.cons_append] at this
    rw[this]
    exact mG n hT h
theorem Bl:∀o∈opsL,∀c∈o.2.drop 1,¬(c=32∨c=9∨c=10∨c=59):=by decide
theorem qn {c:UInt8} {x T:List UInt8} (hT:Sep T):bM (c::x++T)=bM (c::x):=by
 unfold bM
 have key:∀o∈opsL,((c::x++T).take o.2.length==o.2)=((c::x).take o.2.length==o.2):=fun o ho=>by
  by_cases hx:o.2.length≤(c::x).length
  ·rw[fO _ _ T hx]
  ·have h1:((c::x).take o.2.length==o.2)=false:=beq_eq_false_iff_ne.2 fun h=>hx (take_len h rfl)
   rw[h1]
   refine beq_eq_false_iff_ne.2 fun h=>?_
   have h2:=take_len h rfl
   rw[List.length_append] at h2
   cases T with
   |nil=>simp at h2 hx;omega
   |cons e t=>
    refine Bl o ho e ?_ hT.head
    rw[←h,List.cons_append]
    obtain⟨j,hj⟩:∃j,o.2.length=(x.length+1)+(j+1):=⟨o.2.length -(x.length+1) -1,by simp at hx;omega⟩
    rw[hj,show x.length+1+(j+1)=(x.length+(j+1))+1 by omega,List.take_succ_cons,List.drop_succ_cons,List.drop_zero,List.take_append,List.mem_append]
    right
    rw[show x.length+(j+1) -x.length=j+1 by omega,List.take_succ_cons]
    exact List.mem_cons_self
 have:∀l:List (Nat×List UInt8),(∀o∈l,o∈opsL)→l.find? (fun o=>(c::x++T).take o.2.length==o.2)=l.find? (fun o=>(c::x).take o.2.length==o.2):=fun l=>by
  induction l with
  |nil=>intro _;rfl
  |cons o l ih=>
   intro hl
   rw[List.find?_cons,List.find?_cons,key o (hl o List.mem_cons_self),ih (fun p hp=>hl p (List.mem_cons_of_mem _ hp))]
 exact this opsL (fun _ h=>h)
end Go.Proofs.YtgigdlhcjahejaaGreatDoor
