/- Of the proof of ParseKnown: TilesP, AgainP, AgainQ, QuotesP, WordQP, Sync, Sync2, WAddsP. -/
import Derived.Test.YtgigdlhcjahejaaGreatDoorC14
import Derived.Lib.Replace
import Derived.Test.YtgigdlhcjahejaaGreatDoorC06
namespace Go.Proofs.YtgigdlhcjahejaaGreatDoor
open Go Go.RowKit Go.Lw
set_option linter.unusedVariables false
theorem ix {α:Type} (k:Nat) (x t:List α) (h:k≤x.length):(x++t).take k=x.take k:=List.take_append_of_le_length h
theorem om {c:UInt8}:∀{x t y:List UInt8},db c (x++t)= .ok (y++t)→db c x= .ok y
 |[],t,y,h=>by
  rw[List.nil_append] at h
  cases t with
  |nil=>cases h
  |cons d t=>
   unfold db at h
   split at h
   ·have:=congrArg List.length (Except.ok.inj h);simp at this;omega
   ·have:=(iY h).len;simp at this;omega
 |d::x,t,y,h=>by
  rw[List.cons_append] at h
  unfold db at h⊢
  split at h
  ·rename_i e
   rw[if_pos e,List.append_cancel_right (Except.ok.inj h)]
  ·rename_i e
   rw[if_neg e]
   exact om h
theorem vM:∀{x t y:List UInt8},fL (x++t)= .ok (y++t)→fL x= .ok y
 |[],t,y,h=>by
  have:=(ou h)
  rw[List.nil_append] at h
  cases t with
  |nil=>cases h
  |cons d t=>
   unfold fL at h
   simp only at h
   split at h
   ·cases h
   ·have:=congrArg List.length (Except.ok.inj h);simp at this;omega
 |d::x,t,y,h=>by
  rw[List.cons_append] at h
  unfold fL at h⊢
  simp only at h⊢
  split at h
  ·cases h
  ·rename_i e
   rw[if_neg e,List.append_cancel_right (Except.ok.inj h)]
theorem im:∀{x t y:List UInt8} {o:Nat},bs o (x++t)= .ok (y++t)→bs o x= .ok y
 |[],t,y,o,h=>by
  rw[List.nil_append] at h
  cases t with
  |nil=>cases h
  |cons c t=>
   unfold bs at h
   split at h
   ·have:=congrArg List.length (Except.ok.inj h);simp at this;omega
   ·split at h
    ·have:=(dJ h).len;simp at this;omega
    ·split at h
     ·have:=(dJ h).len;simp at this;omega
     ·split at h
      ·cases h
      ·have:=(dJ h).len;simp at this;omega
 |c::x,t,y,o,h=>by
  rw[List.cons_append] at h
  unfold bs at h⊢
  split at h
  ·rename_i e
   have hl:=congrArg List.length (Except.ok.inj h)
   simp at hl
   have hx:1≤x.length:=by
    have:=congrArg List.length e.2
    simp at this
    omega
   rw[←List.cons_append,ix 2 (c::x) t (by simp;omega)] at e
   rw[if_pos e]
   rw[List.drop_append_of_le_length hx] at h
   rw[List.append_cancel_right (Except.ok.inj h)]
  ·rename_i e
   have e':¬(o=0∧(c::x).take 2=[41,41]):=fun h2=>e ⟨h2.1,by
    have hx:2≤(c::x).length:=take_len h2.2 rfl
    rw[←List.cons_append,ix 2 (c::x) t hx];exact h2.2⟩
   rw[if_neg e']
   split at h
   ·rename_i e1
    rw[if_pos e1];exact im h
   ·rename_i e1
    rw[if_neg e1]
    split at h
    ·rename_i e2
     rw[if_pos e2];exact im h
    ·rename_i e2
     rw[if_neg e2]
     split at h
     ·cases h
     ·rename_i e3
      rw[if_neg e3];exact im h
theorem nr:∀{first:Bool} {x t y:List UInt8},dm first (x++t)=y++t→dm first x=y
 |first,[],t,y,h=>by
  have:=(jj (first:=first) (r:=t)).len
  rw[List.nil_append] at h
  rw[h] at this
  simp at this
  have hy:y=[]:=List.length_eq_zero_iff.1 (by omega)
  rw[hy]
  rfl
 |first,c::x,t,y,h=>by
  rw[List.cons_append] at h
  unfold dm at h⊢
  split at h
  ·rename_i e
   rw[if_pos e];exact nr h
  ·rename_i e
   rw[if_neg e]
   rw[←List.cons_append] at h
   exact List.append_cancel_right h
theorem lK {x t r:List UInt8} (h:Tl (x++t) r) (hl:t.length≤r.length):∃z,r=z++t:=by
 obtain⟨k,hk,rfl⟩:=h
 rw[List.length_drop,List.length_append] at hl
 exact⟨x.drop k,List.drop_append_of_le_length (by rw[List.length_append] at hk;omega)⟩
theorem qt {k:Nat} {x t w:List UInt8} (hx:k≤x.length) (e:(x++t).take k=w):x.take k=w:=by
 rw[ix k x t hx] at e;exact e
theorem mJ {k:Nat} {x t w:List UInt8} (e:¬(x++t).take k=w) (hw:w.length=k):¬x.take k=w:=fun h=>e (by
 rw[ix k x t (take_len h hw)];exact h)
theorem fb:∀(n:Nat) (m:Md) (d:Nat) {x t y:List UInt8},scan n m d (x++t)= .ok (y++t)→scan n m d x= .ok y
 |0,m,d,x,t,y,h=>by unfold scan at h;cases h
 |n+1,.piece q,d,[],t,y,h=>by
  rw[List.nil_append] at h
  cases t with
  |nil=>unfold scan at h;cases h
  |cons c t=>have:=(cN h).len;simp at this;omega
 |n+1,.piece q,d,c::x,t,y,h=>by
  rw[List.cons_append] at h
  unfold scan at h⊢
  simp only at h⊢
  split at h
  ·rename_i e;rw[if_pos e];exact vM h
  ·rename_i e;rw[if_neg e]
   split at h
   ·rename_i e;rw[if_pos e];exact om h
   ·rename_i e;rw[if_neg e]
    split at h
    ·rename_i e;rw[if_pos e]
     split at h
     ·cases h
     ·rename_i e;rw[if_neg e];exact fb n _ _ h
    ·rename_i e;rw[if_neg e]
     split at h
     ·rename_i e;rw[if_pos e]
      split at h
      ·rename_i e
       have hl:=(dJ h).len
       have h2:2≤(x++t).length:=take_len e rfl
       simp at hl h2
       have hx:2≤x.length:=by omega
       rw[if_pos (qt hx e)]
       rw[List.drop_append_of_le_length hx] at h
       exact im h
      ·rename_i e
       rw[if_neg (mJ e rfl)]
       split at h
       ·cases h
       ·rename_i e
        rw[if_neg (mJ e rfl)]
        split at h
        ·rename_i e
         split at h
         ·cases h
         ·rename_i e2
          have hl:=(b8 n _ _ h).len
          have h2:1≤(x++t).length:=take_len e rfl
          simp at hl h2
          have hx:1≤x.length:=by omega
          rw[if_pos (qt hx e),if_neg e2]
          rw[List.drop_append_of_le_length hx] at h
          exact fb n _ _ h
        ·rename_i e
         rw[if_neg (mJ e rfl)]
         split at h
         ·rename_i e
          have hl:=congrArg List.length (Except.ok.inj h)
          have h2:1≤(x++t).length:=take_len e rfl
          simp at hl h2
          have hx:1≤x.length:=by omega
          rw[if_pos (qt hx e)]
          rw[List.drop_append_of_le_length hx] at h
          rw[List.append_cancel_right (Except.ok.inj h)]
         ·rename_i e
          rw[if_neg (mJ e rfl)]
          rw[nr (Except.ok.inj h)]
     ·rename_i e;rw[if_neg e]
      split at h
      ·cases h
      ·rename_i e;rw[if_neg e]
       rw[List.append_cancel_right (Except.ok.inj h)]
 |n+1,.double,d,[],t,y,h=>by
  rw[List.nil_append] at h
  cases t with
  |nil=>unfold scan at h;cases h
  |cons c t=>
   unfold scan at h
   simp only at h
   split at h
   ·have:=congrArg List.length (Except.ok.inj h);simp at this;omega
   ·split at h
    ·cases h
    ·rename_i r1 h1
     have a:=(cN h1).len
     have b:=(b8 n _ _ h).len
     simp at b;omega
 |n+1,.double,d,c::x,t,y,h=>by
  rw[List.cons_append] at h
  unfold scan at h⊢
  simp only at h⊢
  split at h
  ·rename_i e;rw[if_pos e,List.append_cancel_right (Except.ok.inj h)]
  ·rename_i e;rw[if_neg e]
   split at h
   ·cases h
   ·rename_i r1 h1
    have b:=(b8 n _ _ h).len
    obtain⟨z,rfl⟩:=lK (x:=c::x) (b8 n _ _ h1) (by simp at b;omega)
    rw[fb n (.piece true) d (x:=c::x) h1]
    exact fb n .double d h
 |n+1,.brace,d,[],t,y,h=>by
  rw[List.nil_append] at h
  cases t with
  |nil=>unfold scan at h;cases h
  |cons c t=>
   unfold scan at h
   simp only at h
   split at h
   ·have:=congrArg List.length (Except.ok.inj h);simp at this;omega
   ·split at h
    ·cases h
    ·split at h
     ·have:=(b8 n _ _ h).len;simp at this;omega
     ·split at h
      ·cases h
      ·rename_i r1 h1
       have a:=(cN h1).len
       have b:=(b8 n _ _ h).len
       simp at b;omega
 |n+1,.brace,d,c::x,t,y,h=>by
  rw[List.cons_append] at h
  unfold scan at h⊢
  simp only at h⊢
  split at h
  ·rename_i e;rw[if_pos e,List.append_cancel_right (Except.ok.inj h)]
  ·rename_i e;rw[if_neg e]
   split at h
   ·cases h
   ·rename_i e;rw[if_neg e]
    split at h
    ·rename_i e;rw[if_pos e];exact fb n .brace d h
    ·rename_i e;rw[if_neg e]
     split at h
     ·cases h
     ·rename_i r1 h1
      have b:=(b8 n _ _ h).len
      obtain⟨z,rfl⟩:=lK (x:=c::x) (b8 n _ _ h1) (by simp at b;omega)
      rw[fb n (.piece false) d (x:=c::x) h1]
      exact fb n .brace d h
theorem uT {x t y:List UInt8} (h:gv false 0 (x++t)= .ok (y++t)):gv false 0 x= .ok y:=by
 unfold gv at h⊢
 have h1:=fb _ _ _ h
 rw[show df (.piece false) (x++t).length=df (.piece false) x.length+2*t.length by unfold df;simp;omega,vu _ _ _ _ _ (Nat.le_refl _)] at h1
 exact h1
theorem oZ:∀(n:Nat) {x t y:List UInt8},bT n (x++t)= .ok (y++t)→bT n x= .ok y
 |0,x,t,y,h=>by cases h
 |n+1,[],t,y,h=>by
  rw[List.nil_append] at h
  have hy:y.length=0:=by
   have:=(fY (n+1) h).len;simp at this;omega
  rw[List.length_eq_zero_iff.1 hy]
  rfl
 |n+1,c::x,t,y,h=>by
  rw[List.cons_append] at h
  unfold bT at h⊢
  split at h
  ·rename_i e
   rw[if_pos e]
   rw[←List.cons_append] at h
   rw[List.append_cancel_right (Except.ok.inj h)]
  ·rename_i e
   rw[if_neg e]
   split at h
   ·cases h
   ·rename_i r1 h1
    have b:=(fY n h).len
    obtain⟨z,rfl⟩:=lK (x:=c::x) (b8 _ _ _ h1) (by simp at b;omega)
    rw[uT (x:=c::x) h1]
    exact oZ n h
def xP (x:List UInt8):Prop:=bT (x.length+1) x= .ok []
theorem wj {x t:List UInt8} (h:cQ (x++t)=none):cQ x=none:=by
 unfold cQ at h⊢
 rw[List.find?_eq_none] at h⊢
 intro o ho hx
 refine h o ho ?_
 simp only[beq_iff_eq] at hx⊢
 rw[ix _ x t (take_len hx rfl)]
 exact hx
abbrev Kt:=Nat×List UInt8
def Tk.kt (t:Tk):Kt:=(t.kind,t.text)
def fk:Nat→List UInt8→Except Nat (List Kt)
 |0,_=>.error 5
 |_+1,[]=>.ok []
 |n+1,c::r=>
  if c=32∨c=9 then fk n r
  else if c=35 then fk n ((c::r).dropWhile (· !=10))
  else match cQ (c::r) with
   |some o=>if o.1=0 then .error 5 else(fk n ((c::r).drop o.2.length)).map (o::·)
   |none=>match bT (r.length+2) (c::r) with
    |.error e=>.error e
    |.ok r'=>(fk n r').map ((1,(c::r).take (r.length+1 -r'.length))::·)
theorem ko:∀(n N:Nat) (r:List UInt8),(de n N r).map (·.map Tk.kt)=fk n r
 |0,N,r=>rfl
 |n+1,N,[]=>rfl
 |n+1,N,c::r=>by
  unfold de fk
  split
  ·exact ko n N r
  ·split
   ·exact ko n N _
   ·cases hop:cQ (c::r) with
    |some o=>
     simp only
     split
     ·rfl
     ·rw[←ko n N]
      cases de n N (List.drop o.2.length (c::r))<;>rfl
    |none=>
     simp only
     cases hw:bT (r.length+2) (c::r) with
     |error e=>rfl
     |ok r'=>
      simp only
      rw[←ko n N]
      cases de n N r'<;>rfl
def A6 (r:List UInt8):Except Nat (List Kt):=fk (r.length+1) r
theorem zM {s:List UInt8} {l:List Tk} (h:dz s= .ok l):A6 s= .ok (l.map Tk.kt):=by
 unfold dz at h
 split at h
 ·cases h
 ·split at h
  ·cases h
  ·unfold A6
   rw[←ko (s.length+1) s.length,h]
   rfl
theorem Ah {c:UInt8} {r:List UInt8} {m:Nat} (h:c=32∨c=9):fk (m+1) (c::r)=fk m r:=by
 conv=>lhs;unfold fk
 rw[if_pos h]
theorem AV {c:UInt8} {r:List UInt8} {m:Nat} (h:¬(c=32∨c=9)) (h1:c=35):fk (m+1) (c::r)=fk m ((c::r).dropWhile (· !=10)):=by
 conv=>lhs;unfold fk
 rw[if_neg h,if_pos h1]
theorem A0 {c:UInt8} {r:List UInt8} {m:Nat} {o:Kt} (h:¬(c=32∨c=9)) (h1:¬c=35) (h2:cQ (c::r)=some o) (h3:o.1≠0):fk (m+1) (c::r)=(fk m ((c::r).drop o.2.length)).map (o::·):=by
 conv=>lhs;unfold fk
 rw[if_neg h,if_neg h1,h2]
 simp only
 rw[if_neg h3]
theorem AF {c:UInt8} {r:List UInt8} {m:Nat} {o:Kt} (h:¬(c=32∨c=9)) (h1:¬c=35) (h2:cQ (c::r)=some o) (h3:o.1=0):fk (m+1) (c::r)= .error 5:=by
 conv=>lhs;unfold fk
 rw[if_neg h,if_neg h1,h2]
 simp only
 rw[if_pos h3]
theorem AU {c:UInt8} {r r':List UInt8} {m:Nat} (h:¬(c=32∨c=9)) (h1:¬c=35) (h2:cQ (c::r)=none) (h3:bT (r.length+2) (c::r)= .ok r'):fk (m+1) (c::r)=(fk m r').map ((1,(c::r).take (r.length+1 -r'.length))::·):=by
 conv=>lhs;unfold fk
 rw[if_neg h,if_neg h1,h2,h3]
theorem Bq {c:UInt8} {r:List UInt8} {m e:Nat} (h:¬(c=32∨c=9)) (h1:¬c=35) (h2:cQ (c::r)=none) (h3:bT (r.length+2) (c::r)= .error e):fk (m+1) (c::r)= .error e:=by
 conv=>lhs;unfold fk
 rw[if_neg h,if_neg h1,h2,h3]
theorem xe {c:UInt8} {r r':List UInt8} (h1:¬(c=32∨c=9)) (hop:cQ (c::r)=none) (hw:bT (r.length+2) (c::r)= .ok r'):
  ∃j,j≤r.length∧r.drop j=r'∧(c::r).take (r.length+1 -r'.length)=c::r.take j∧cQ (c::r.take j)=none∧xP (c::r.take j):=by
 have he:jl c=false:=by
  cases e:jl c with
  |false=>rfl
  |true=>exact absurd hop (ss e h1)
 obtain⟨j,hj,hd⟩:=jD hw he
 have hlen:r'.length=r.length -j:=by rw[←hd,List.length_drop]
 have hall:c::r=(c::r.take j)++r':=by rw[List.cons_append,←hd,List.take_append_drop]
 have hlj:(r.take j).length=j:=by rw[List.length_take];omega
 have hw':bT (r.length+2) (c::r.take j)= .ok []:=by
  rw[hall] at hw
  exact oZ _ (y:=[]) hw
 refine⟨j,hj,hd,by rw[show r.length+1 -r'.length=j+1 by omega,List.take_succ_cons],wj (t:=r') (by rw[←hall];exact hop),?_⟩
 rw[show r.length+2=(j+2)+(r.length -j) by omega,ts _ _ _ (by simp[hlj])] at hw'
 unfold xP
 rw[List.length_cons,hlj]
 exact hw'
def Ap (k:Kt):Prop:=(k.1=1∧(∃c x,k.2=c::x∧c≠35)∧xP k.2∧cQ k.2=none)∨(k∈opsL∧k.1≠0)
theorem gM:∀(n:Nat) (r:List UInt8) (l:List Kt),fk n r= .ok l→∀k∈l,Ap k
 |0,_,_,h=>by cases h
 |n+1,[],l,h=>by cases h;intro t ht;simp at ht
 |n+1,c::r,l,h=>by
  by_cases h1:c=32∨c=9
  ·rw[Ah h1] at h;exact gM n r l h
  ·by_cases h2:c=35
   ·rw[AV h1 h2] at h;exact gM n _ l h
   ·cases hop:cQ (c::r) with
    |some o=>
     by_cases h3:o.1=0
     ·rw[AF h1 h2 hop h3] at h;cases h
     ·rw[A0 h1 h2 hop h3] at h
      cases hx:fk n ((c::r).drop o.2.length) with
      |error e=>rw[hx] at h;cases h
      |ok y=>
       rw[hx] at h
       cases h
       intro u hu
       rcases List.mem_cons.1 hu with rfl|hu
       ·exact .inr ⟨(nB hop).1,h3⟩
       ·exact gM n _ y hx u hu
    |none=>
     cases hw:bT (r.length+2) (c::r) with
     |error e=>rw[Bq h1 h2 hop hw] at h;cases h
     |ok r'=>
      rw[AU h1 h2 hop hw] at h
      obtain⟨j,hj,hd,ht,ho,hwt⟩:=xe h1 hop hw
      cases hx:fk n r' with
      |error e=>rw[hx] at h;cases h
      |ok y=>
       rw[hx] at h
       cases h
       intro u hu
       rcases List.mem_cons.1 hu with rfl|hu
       ·rw[ht];exact .inl ⟨rfl,⟨c,r.take j,rfl,h2⟩,hwt,ho⟩
       ·exact gM n _ y hx u hu
theorem wg {s:List UInt8} {l:List Kt} (h:A6 s= .ok l):∀k∈l,Ap k:=gM _ _ _ h
theorem z7 {s:List UInt8} {l:List Tk} (h:dz s= .ok l):s.length≤2048∧s.all okB=true:=by
 unfold dz at h
 split at h
 ·cases h
 ·rename_i h1
  split at h
  ·cases h
  ·rename_i h2
   exact⟨by omega,by simpa using h2⟩
end Go.Proofs.YtgigdlhcjahejaaGreatDoor
namespace Go.Proofs.YtgigdlhcjahejaaGreatDoor
open Go Go.RowKit Go.Lw
set_option linter.unusedVariables false
set_option linter.unusedSimpArgs false
theorem oH:∀(n N:Nat) (r:List UInt8) (l:List Tk),de n N r= .ok l→∀t∈l,t.text.length≤r.length
 |0,_,_,_,h=>by cases h
 |n+1,N,[],l,h=>by cases h;intro t ht;simp at ht
 |n+1,N,c::r,l,h=>by
  have up:∀{r1:List UInt8} {l1:List Tk},de n N r1= .ok l1→r1.length≤(c::r).length→∀t∈l1,t.text.length≤(c::r).length:=fun h1 h2 t ht=>Nat.le_trans (oH n N _ _ h1 t ht) h2
  by_cases h1:c=32∨c=9
  ·rw[lj h1] at h;exact up h (by simp)
  ·by_cases h2:c=35
   ·rw[nf h1 h2] at h;exact up h (kv _ _).len
   ·cases hop:cQ (c::r) with
    |some o=>
     obtain⟨k,t⟩:=o
     rw[nu h1 h2 hop] at h
     split at h
     ·cases h
     ·cases hx:de n N ((c::r).drop t.length) with
      |error e=>rw[hx] at h;cases h
      |ok y=>
       rw[hx] at h
       cases h
       intro u hu
       rcases List.mem_cons.1 hu with rfl|hu
       ·exact(py hop).2.1
       ·exact up hx (by rw[List.length_drop];omega) u hu
    |none=>
     cases hw:bT (r.length+2) (c::r) with
     |error e=>rw[pV h1 h2 hop hw] at h;cases h
     |ok r'=>
      rw[kL h1 h2 hop hw] at h
      cases hx:de n N r' with
      |error e=>rw[hx] at h;cases h
      |ok y=>
       rw[hx] at h
       cases h
       intro u hu
       rcases List.mem_cons.1 hu with rfl|hu
       ·show((c::r).take _).length≤_
        rw[List.length_take];omega
       ·exact up hx (fY _ hw).len u hu
end Go.Proofs.YtgigdlhcjahejaaGreatDoor
