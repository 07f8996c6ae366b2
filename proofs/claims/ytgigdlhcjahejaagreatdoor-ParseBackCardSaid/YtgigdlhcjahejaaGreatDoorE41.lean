/- Of the proof of ParseBack: AgainP, AgainQ, QuotesP, WordQP, Sync, Sync2, WAddsP. -/
import Derived.Test.YtgigdlhcjahejaaGreatDoorE40
import Derived.Test.YtgigdlhcjahejaaGreatDoorE12
import Derived.Lib.Replace
import Derived.Test.YtgigdlhcjahejaaGreatDoorE06
namespace Go.Proofs.YtgigdlhcjahejaaGreatDoor
open Go Go.RowKit Go.Lw
set_option linter.unusedVariables false
abbrev Kt:=Nat×LB
def Tk.kt (t:Tk):Kt:=(t.kind,t.text)
def eD:Nat→LB→Except Nat (List Kt)
 |0,_=>.error 5
 |_+1,[]=>.ok []
 |n+1,c::r=>
  if c=32∨c=9 then eD n r
  else if c=35 then eD n ((c::r).dropWhile (· !=10))
  else match bU (c::r) with
   |some o=>if o.1=0 then .error 5 else(eD n ((c::r).drop o.2.length)).map (o::·)
   |none=>match bJ (r.length+2) (c::r) with
    |.error e=>.error e
    |.ok r'=>(eD n r').map ((1,(c::r).take (r.length+1 -r'.length))::·)
theorem lD:∀(n N:Nat) (r:LB),(dx n N r).map (·.map Tk.kt)=eD n r
 |0,N,r=>rfl
 |n+1,N,[]=>rfl
 |n+1,N,c::r=>by
  unfold dx eD
  split
  ·exact lD n N r
  ·split
   ·exact lD n N _
   ·cases hop:bU (c::r) with
    |some o=>
     simp only
     split
     ·rfl
     ·rw[←lD n N]
      cases dx n N (List.drop o.2.length (c::r))<;>rfl
    |none=>
     simp only
     cases hw:bJ (r.length+2) (c::r) with
     |error e=>rfl
     |ok r'=>
      simp only
      rw[←lD n N]
      cases dx n N r'<;>rfl
theorem iU:∀(n:Nat) (r:LB),r.length<n→eD (n+1) r=eD n r
 |0,r,h=>by omega
 |n+1,[],h=>rfl
 |n+1,c::r,h=>by
  have hl:r.length<n:=by simp at h;exact h
  rw[eD]
  conv=>rhs;rw[eD]
  split
  ·exact iU n r hl
  ·rename_i h1
   split
   ·rename_i h2
    refine iU n _ ?_
    have:=dV (· !=10) (c::r)
    have h3:1≤((c::r).takeWhile (· !=10)).length:=by rw[List.takeWhile_cons,h2];simp
    simp at this h3⊢
    omega
   ·split
    ·rename_i o ho
     have:=n9 ho
     split
     ·rfl
     ·rw[iU n]
      rw[List.length_drop]
      simp
      omega
    ·rename_i hop
     split
     ·rfl
     ·rename_i r' hw
      have he:fR c=false:=by
       cases e:fR c with
       |false=>rfl
       |true=>exact absurd hop (qZ e h1)
      have:=(jJ hw he).len
      rw[iU n _ (by omega)]
theorem Bq (n k:Nat) (r:LB) (h:r.length<n):eD (n+k) r=eD n r:=by
 induction k with
 |zero=>rfl
 |succ k ih=>rw[←Nat.add_assoc,iU (n+k) r (by omega),ih]
def eV (r:LB):Except Nat (List Kt):=eD (r.length+1) r
theorem ux {n:Nat} {r:LB} (h:r.length<n):eD n r=eV r:=by
 unfold eV
 obtain⟨k,rfl⟩:∃k,n=(r.length+1)+k:=⟨n -(r.length+1),by omega⟩
 exact Bq _ _ _ (Nat.lt_succ_self _)
theorem yX {s:LB} {l:List Tk} (h:dG s= .ok l):eV s= .ok (l.map Tk.kt):=by
 unfold dG at h
 split at h
 ·cases h
 ·split at h
  ·cases h
  ·unfold eV
   rw[←lD (s.length+1) s.length,h]
   rfl
theorem D8 {s:LB} {l:List Kt} (h:eV s= .ok l) (hl:s.length≤2048) (hk:s.all okB=true):∃l',dG s= .ok l'∧l'.map Tk.kt=l:=by
 unfold dG
 rw[if_neg (by omega),if_neg (by rw[hk];decide)]
 unfold eV at h
 rw[←lD (s.length+1) s.length] at h
 cases e:dx (s.length+1) s.length s with
 |error x=>rw[e] at h;cases h
 |ok l'=>rw[e] at h;exact⟨l',rfl,Except.ok.inj h⟩
def Sep (T:LB):Prop:=T=[]∨∃e t,T=e::t∧(e=32∨e=9∨e=10∨e=59)
theorem Sep.head {e:UInt8} {t:LB} (h:Sep (e::t)):e=32∨e=9∨e=10∨e=59:=by
 rcases h with h|⟨_,_,h,k⟩
 ·cases h
 ·cases h;exact k
def uu (T:LB):Prop:=T=[]∨∃e t,T=e::t∧fR e=true∧∀b,aY e b=false
theorem Sep.E {T:LB} (h:Sep T):uu T:=by
 rcases h with h|⟨e,t,h,k⟩
 ·exact .inl h
 ·refine .inr ⟨e,t,h,?_⟩
  rcases k with rfl|rfl|rfl|rfl<;>exact⟨rfl,fun b=>by cases b<;>rfl⟩
theorem yU {e:UInt8} {t:LB} (h:uu (e::t)):fR e=true:=by
 rcases h with h|⟨_,_,h,k,_⟩
 ·cases h
 ·cases h;exact k
theorem yf {e:UInt8} {t:LB} (h:uu (e::t)) (b:Bool):aY e b=false:=by
 rcases h with h|⟨_,_,h,_,k⟩
 ·cases h
 ·cases h;exact k b
theorem mZ {k:Nat} {x T w:LB} (hT:uu T) (e:¬x.take k=w) (hw:w.length=k) (hb:∀c∈w,fR c=false):¬(x++T).take k=w:=fun h=>by
 by_cases hx:k≤x.length
 ·rw[gO k x T hx] at h;exact e h
 ·have h2:=take_len h hw
  rw[Jf] at h2
  cases T with
  |nil=>simp at h2;omega
  |cons c t=>
   have:c∈(x++c::t).take k:=by
    rw[List.take_append,Jm]
    right
    obtain⟨j,hj⟩:∃j,k -x.length=j+1:=⟨k -x.length -1,by omega⟩
    rw[hj,List.take_succ_cons]
    exact List.mem_cons_self
   rw[h] at this
   have:=hb c this
   rw[yU hT] at this
   cases this
theorem pt {k:Nat} {x T w:LB} (e:x.take k=w) (hw:w.length=k):(x++T).take k=w:=by
 rw[gO k x T (take_len e hw)];exact e
theorem qo {c:UInt8}:∀{x y:LB} (T:LB),dr c x= .ok y→dr c (x++T)= .ok (y++T)
 |[],y,T,h=>by cases h
 |d::x,y,T,h=>by
  rw[List.cons_append]
  unfold dr at h⊢
  split at h
  ·rename_i e;rw[if_pos e,Except.ok.inj h]
  ·rename_i e;rw[if_neg e];exact qo T h
theorem AB {x y:LB} (T:LB) (h:fM x= .ok y):fM (x++T)= .ok (y++T):=by
 cases x with
 |nil=>cases h
 |cons d x=>
  rw[List.cons_append]
  unfold fM at h⊢
  simp only at h⊢
  split at h
  ·cases h
  ·rename_i e;rw[if_neg e,Except.ok.inj h]
theorem jD:∀{x y:LB} {o:Nat} {T:LB},uu T→bL o x= .ok y→bL o (x++T)= .ok (y++T)
 |[],y,o,T,hT,h=>by cases h
 |c::x,y,o,T,hT,h=>by
  rw[List.cons_append]
  unfold bL at h⊢
  split at h
  ·rename_i e
   have hx:1≤x.length:=by
    have:=take_len e.2 rfl
    simp at this
    omega
   rw[if_pos ⟨e.1,by rw[←List.cons_append];exact pt e.2 rfl⟩,List.drop_append_of_le_length hx,Except.ok.inj h]
  ·rename_i e
   have e':¬(o=0∧(c::(x++T)).take 2=[41,41]):=fun h2=>e ⟨h2.1,by
    have h3:=h2.2
    rw[←List.cons_append] at h3
    refine Classical.byContradiction fun h4=>mZ hT h4 rfl (by decide) h3⟩
   rw[if_neg e']
   split at h
   ·rename_i e1;rw[if_pos e1];exact jD hT h
   ·rename_i e1;rw[if_neg e1]
    split at h
    ·rename_i e2;rw[if_pos e2];exact jD hT h
    ·rename_i e2;rw[if_neg e2]
     split at h
     ·cases h
     ·rename_i e3;rw[if_neg e3];exact jD hT h
theorem qF:∀{first:Bool} {x T:LB},uu T→dq first (x++T)=dq first x++T
 |first,[],T,hT=>by
  cases T with
  |nil=>rfl
  |cons e t=>
   rw[List.nil_append]
   unfold dq
   rw[yf hT]
   rfl
 |first,c::x,T,hT=>by
  rw[List.cons_append]
  unfold dq
  split
  ·exact qF hT
  ·rfl
theorem gC:∀(n:Nat) (m:Md) (d:Nat) {x y T:LB},uu T→scan n m d x= .ok y→scan n m d (x++T)= .ok (y++T)
 |0,m,d,x,y,T,hT,h=>by unfold scan at h;cases h
 |n+1,.piece q,d,[],y,T,hT,h=>by unfold scan at h;cases h
 |n+1,.piece q,d,c::x,y,T,hT,h=>by
  rw[List.cons_append]
  unfold scan at h⊢
  simp only at h⊢
  split at h
  ·rename_i e;rw[if_pos e];exact AB T h
  ·rename_i e;rw[if_neg e]
   split at h
   ·rename_i e;rw[if_pos e];exact qo T h
   ·rename_i e;rw[if_neg e]
    split at h
    ·rename_i e;rw[if_pos e]
     split at h
     ·cases h
     ·rename_i e;rw[if_neg e];exact gC n _ _ hT h
    ·rename_i e;rw[if_neg e]
     split at h
     ·rename_i e;rw[if_pos e]
      split at h
      ·rename_i e
       rw[if_pos (pt e rfl),List.drop_append_of_le_length (take_len e rfl)]
       exact jD hT h
      ·rename_i e
       rw[if_neg (mZ hT e rfl (by decide))]
       split at h
       ·cases h
       ·rename_i e
        rw[if_neg (mZ hT e rfl (by decide))]
        split at h
        ·rename_i e
         split at h
         ·cases h
         ·rename_i e2
          rw[if_pos (pt e rfl),if_neg e2,List.drop_append_of_le_length (take_len e rfl)]
          exact gC n _ _ hT h
        ·rename_i e
         rw[if_neg (mZ hT e rfl (by decide))]
         split at h
         ·rename_i e
          rw[if_pos (pt e rfl),List.drop_append_of_le_length (take_len e rfl),Except.ok.inj h]
         ·rename_i e
          rw[if_neg (mZ hT e rfl (by decide)),qF hT,Except.ok.inj h]
     ·rename_i e;rw[if_neg e]
      split at h
      ·cases h
      ·rename_i e;rw[if_neg e,Except.ok.inj h]
 |n+1,.double,d,[],y,T,hT,h=>by unfold scan at h;cases h
 |n+1,.double,d,c::x,y,T,hT,h=>by
  rw[List.cons_append]
  unfold scan at h⊢
  simp only at h⊢
  split at h
  ·rename_i e;rw[if_pos e,Except.ok.inj h]
  ·rename_i e;rw[if_neg e]
   split at h
   ·cases h
   ·rename_i r1 h1
    have:=gC n (.piece true) d hT h1
    rw[List.cons_append] at this
    rw[this]
    exact gC n .double d hT h
 |n+1,.brace,d,[],y,T,hT,h=>by unfold scan at h;cases h
 |n+1,.brace,d,c::x,y,T,hT,h=>by
  rw[List.cons_append]
  unfold scan at h⊢
  simp only at h⊢
  split at h
  ·rename_i e;rw[if_pos e,Except.ok.inj h]
  ·rename_i e;rw[if_neg e]
   split at h
   ·cases h
   ·rename_i e;rw[if_neg e]
    split at h
    ·rename_i e;rw[if_pos e];exact gC n .brace d hT h
    ·rename_i e;rw[if_neg e]
     split at h
     ·cases h
     ·rename_i r1 h1
      have:=gC n (.piece false) d hT h1
      rw[List.cons_append] at this
      rw[this]
      exact gC n .brace d hT h
theorem Aq {x y T:LB} (hT:uu T) (h:fj false 0 x= .ok y):fj false 0 (x++T)= .ok (y++T):=by
 unfold fj at h⊢
 have h1:scan (dj (.piece false) x.length+2*T.length) (.piece false) 0 x= .ok y:=by
  rw[r8 _ _ _ _ _ (Jb _)];exact h
 have h2:=gC _ _ _ hT h1
 rw[show dj (.piece false) (x++T).length=dj (.piece false) x.length+2*T.length by unfold dj;simp;omega]
 exact h2
theorem sk:∀(n:Nat) {x y T:LB},uu T→bJ n x= .ok y→bJ n (x++T)= .ok (y++T)
 |0,x,y,T,hT,h=>by cases h
 |n+1,[],y,T,hT,h=>by
  cases h
  cases T with
  |nil=>rfl
  |cons e t=>exact qT (yU hT)
 |n+1,c::x,y,T,hT,h=>by
  rw[List.cons_append]
  unfold bJ at h⊢
  split at h
  ·rename_i e;rw[if_pos e,←Except.ok.inj h];rfl
  ·rename_i e;rw[if_neg e]
   split at h
   ·cases h
   ·rename_i r1 h1
    have:=Aq hT h1
    rw[List.cons_append] at this
    rw[this]
    exact sk n hT h
theorem C4:∀o∈opsL,∀c∈o.2.drop 1,¬(c=32∨c=9∨c=10∨c=59):=by decide
theorem sW {c:UInt8} {x T:LB} (hT:Sep T):bU (c::x++T)=bU (c::x):=by
 unfold bU
 have key:∀o∈opsL,((c::x++T).take o.2.length==o.2)=((c::x).take o.2.length==o.2):=fun o ho=>by
  by_cases hx:o.2.length≤(c::x).length
  ·rw[gO _ _ T hx]
  ·have h1:((c::x).take o.2.length==o.2)=false:=beq_eq_false_iff_ne.2 fun h=>hx (take_len h rfl)
   rw[h1]
   refine beq_eq_false_iff_ne.2 fun h=>?_
   have h2:=take_len h rfl
   rw[Jf] at h2
   cases T with
   |nil=>simp at h2 hx;omega
   |cons e t=>
    refine C4 o ho e ?_ hT.head
    rw[←h,List.cons_append]
    obtain⟨j,hj⟩:∃j,o.2.length=(x.length+1)+(j+1):=⟨o.2.length -(x.length+1) -1,by simp at hx;omega⟩
    rw[hj,show x.length+1+(j+1)=(x.length+(j+1))+1 by omega,List.take_succ_cons,List.drop_succ_cons,List.drop_zero,List.take_append,Jm]
    right
    rw[show x.length+(j+1) -x.length=j+1 by omega,List.take_succ_cons]
    exact List.mem_cons_self
 have:∀l:List (Nat×LB),(∀o∈l,o∈opsL)→l.find? (fun o=>(c::x++T).take o.2.length==o.2)=l.find? (fun o=>(c::x).take o.2.length==o.2):=fun l=>by
  induction l with
  |nil=>intro _;rfl
  |cons o l ih=>
   intro hl
   rw[List.find?_cons,List.find?_cons,key o (hl o List.mem_cons_self),ih (fun p hp=>hl p (List.mem_cons_of_mem _ hp))]
 exact this opsL (fun _ h=>h)
theorem zf {c:UInt8} {r:LB} {m:Nat} (h:c=32∨c=9):eD (m+1) (c::r)=eD m r:=by
 conv=>lhs;unfold eD
 rw[if_pos h]
theorem Ff {c:UInt8} {r:LB} {m:Nat} (h:¬(c=32∨c=9)) (h1:c=35):eD (m+1) (c::r)=eD m ((c::r).dropWhile (· !=10)):=by
 conv=>lhs;unfold eD
 rw[if_neg h,if_pos h1]
theorem xp {c:UInt8} {r:LB} {m:Nat} {o:Kt} (h:¬(c=32∨c=9)) (h1:¬c=35) (h2:bU (c::r)=some o) (h3:o.1≠0):eD (m+1) (c::r)=(eD m ((c::r).drop o.2.length)).map (o::·):=by
 conv=>lhs;unfold eD
 rw[if_neg h,if_neg h1,h2]
 simp only
 rw[if_neg h3]
theorem Fz {c:UInt8} {r:LB} {m:Nat} {o:Kt} (h:¬(c=32∨c=9)) (h1:¬c=35) (h2:bU (c::r)=some o) (h3:o.1=0):eD (m+1) (c::r)= .error 5:=by
 conv=>lhs;unfold eD
 rw[if_neg h,if_neg h1,h2]
 simp only
 rw[if_pos h3]
theorem CZ {c:UInt8} {r r':LB} {m:Nat} (h:¬(c=32∨c=9)) (h1:¬c=35) (h2:bU (c::r)=none) (h3:bJ (r.length+2) (c::r)= .ok r'):eD (m+1) (c::r)=(eD m r').map ((1,(c::r).take (r.length+1 -r'.length))::·):=by
 conv=>lhs;unfold eD
 rw[if_neg h,if_neg h1,h2,h3]
theorem FX {c:UInt8} {r:LB} {m e:Nat} (h:¬(c=32∨c=9)) (h1:¬c=35) (h2:bU (c::r)=none) (h3:bJ (r.length+2) (c::r)= .error e):eD (m+1) (c::r)= .error e:=by
 conv=>lhs;unfold eD
 rw[if_neg h,if_neg h1,h2,h3]
theorem Dl {c:UInt8} {r r':LB} (h1:¬(c=32∨c=9)) (hop:bU (c::r)=none) (hw:bJ (r.length+2) (c::r)= .ok r'):
  ∃j,j≤r.length∧r.drop j=r'∧(c::r).take (r.length+1 -r'.length)=c::r.take j∧bU (c::r.take j)=none∧sE (c::r.take j):=by
 have he:fR c=false:=by
  cases e:fR c with
  |false=>rfl
  |true=>exact absurd hop (qZ e h1)
 obtain⟨j,hj,hd⟩:=jJ hw he
 have hlen:r'.length=r.length -j:=by rw[←hd,List.length_drop]
 have hall:c::r=(c::r.take j)++r':=by rw[List.cons_append,←hd,List.take_append_drop]
 have hlj:(r.take j).length=j:=by rw[List.length_take];omega
 have hw':bJ (r.length+2) (c::r.take j)= .ok []:=by
  rw[hall] at hw
  exact r7 _ (y:=[]) hw
 refine⟨j,hj,hd,by rw[show r.length+1 -r'.length=j+1 by omega,List.take_succ_cons],zS (t:=r') (by rw[←hall];exact hop),?_⟩
 rw[show r.length+2=(j+2)+(r.length -j) by omega,pS _ _ _ (by simp[hlj])] at hw'
 unfold sE
 rw[Jg,hlj]
 exact hw'
def lL (k:Kt):Prop:=(k.1=1∧(∃c x,k.2=c::x∧c≠35)∧sE k.2∧bU k.2=none)∨(k∈opsL∧k.1≠0)
theorem jh:∀(n:Nat) (r:LB) (l:List Kt),eD n r= .ok l→∀k∈l,lL k
 |0,_,_,h=>by cases h
 |n+1,[],l,h=>by cases h;intro t ht;simp at ht
 |n+1,c::r,l,h=>by
  by_cases h1:c=32∨c=9
  ·rw[zf h1] at h;exact jh n r l h
  ·by_cases h2:c=35
   ·rw[Ff h1 h2] at h;exact jh n _ l h
   ·cases hop:bU (c::r) with
    |some o=>
     by_cases h3:o.1=0
     ·rw[Fz h1 h2 hop h3] at h;cases h
     ·rw[xp h1 h2 hop h3] at h
      cases hx:eD n ((c::r).drop o.2.length) with
      |error e=>rw[hx] at h;cases h
      |ok y=>
       rw[hx] at h
       cases h
       intro u hu
       rcases Jl.1 hu with rfl|hu
       ·exact .inr ⟨(mU hop).1,h3⟩
       ·exact jh n _ y hx u hu
    |none=>
     cases hw:bJ (r.length+2) (c::r) with
     |error e=>rw[FX h1 h2 hop hw] at h;cases h
     |ok r'=>
      rw[CZ h1 h2 hop hw] at h
      obtain⟨j,hj,hd,ht,ho,hwt⟩:=Dl h1 hop hw
      cases hx:eD n r' with
      |error e=>rw[hx] at h;cases h
      |ok y=>
       rw[hx] at h
       cases h
       intro u hu
       rcases Jl.1 hu with rfl|hu
       ·rw[ht];exact .inl ⟨rfl,⟨c,r.take j,rfl,h2⟩,hwt,ho⟩
       ·exact jh n _ y hx u hu
theorem Ah:∀o∈opsL,o.1≠0→bU o.2=some o:=by decide
theorem AX:∀o∈opsL,∃c x,o.2=c::x∧¬(c=32∨c=9)∧¬c=35:=by
 intro o ho
 simp only[opsL,Jl,List.not_mem_nil,or_false] at ho
 rcases ho with rfl|rfl|rfl|rfl|rfl|rfl|rfl|rfl|rfl|rfl|rfl|rfl|rfl|rfl|rfl|rfl|rfl|rfl<;>exact⟨_,_,rfl,by decide,by decide⟩
theorem tS {k:Kt} {T:LB} (h:lL k) (hT:Sep T):eV (k.2++T)=(eV T).map (k::·):=by
 obtain⟨kd,tx⟩:=k
 rcases h with⟨h1,⟨c,x,h2,h3⟩,h4,h5⟩|⟨h1,h2⟩
 ·simp only at h1 h2 h4 h5
  subst h1;subst h2
  have he:=rp h4
  have hb:¬(c=32∨c=9):=fun h=>by rcases h with rfl|rfl<;>cases he
  have ho:bU (c::(x++T))=none:=by rw[←List.cons_append,sW hT];exact h5
  have hw:bJ ((x++T).length+2) (c::(x++T))= .ok T:=by
   have h6:bJ ((x.length+2)+T.length) (c::x)= .ok []:=by
    rw[pS _ _ _ (by simp)]
    exact h4
   have:=sk _ hT.E h6
   rw[Jf,show x.length+T.length+2=x.length+2+T.length by omega]
   exact this
  unfold eV
  rw[List.cons_append,Jg,CZ hb h3 ho hw]
  rw[show(c::(x++T)).take ((x++T).length+1 -T.length)=c::x by
   rw[Jf,show x.length+T.length+1 -T.length=x.length+1 by omega,List.take_succ_cons,List.take_left]]
  rw[ux (by rw[Jf];omega)]
  rfl
 ·simp only at h1 h2
  obtain⟨c,x,h3,h4,h5⟩:=AX _ h1
  simp only at h3
  have ho:=Ah _ h1 h2
  simp only at ho
  rw[h3] at ho⊢
  have ho2:bU (c::(x++T))=some (kd,c::x):=by rw[←List.cons_append,sW hT];rw[←h3] at ho⊢;exact ho
  show eV (c::x++T)=_
  unfold eV
  rw[List.cons_append,Jg,xp h4 h5 ho2 h2]
  show Except.map _ (eD _ ((c::(x++T)).drop (x.length+1)))=_
  rw[List.drop_succ_cons,List.drop_left,ux (by rw[Jf];omega)]
  rfl
theorem xP {c:UInt8} {r:LB} (h:c=32∨c=9):eV (c::r)=eV r:=by
 unfold eV
 rw[zf h]
 rfl
theorem sG {s:LB} {l:List Kt} (h:eV s= .ok l):∀k∈l,lL k:=jh _ _ _ h
theorem Ee {s:LB} {l:List Tk} (h:dG s= .ok l):s.length≤2048∧s.all okB=true:=by
 unfold dG at h
 split at h
 ·cases h
 ·rename_i h1
  split at h
  ·cases h
  ·rename_i h2
   exact⟨by omega,by simpa using h2⟩
set_option linter.unusedSimpArgs false
theorem nR {c k:UInt8} (h:aY c false=true) (hk:aY k false=false):c≠k:=fun e=>by rw[e,hk] at h;cases h
theorem kr {c:UInt8} {b:Bool} (h:aY c b=true):aY c false=true:=by
 cases b
 ·exact h
 ·unfold aY at h⊢
  simp at h
  simp[h]
theorem mw:∀(n N:Nat) (r:LB) (l:List Tk),dx n N r= .ok l→∀t∈l,t.text.length≤r.length
 |0,_,_,_,h=>by cases h
 |n+1,N,[],l,h=>by cases h;intro t ht;simp at ht
 |n+1,N,c::r,l,h=>by
  have up:∀{r1:LB} {l1:List Tk},dx n N r1= .ok l1→r1.length≤(c::r).length→∀t∈l1,t.text.length≤(c::r).length:=fun h1 h2 t ht=>lt9 (mw n N _ _ h1 t ht) h2
  by_cases h1:c=32∨c=9
  ·rw[lh h1] at h;exact up h (by simp)
  ·by_cases h2:c=35
   ·rw[mX h1 h2] at h;exact up h (jI _ _).len
   ·cases hop:bU (c::r) with
    |some o=>
     obtain⟨k,t⟩:=o
     rw[nh h1 h2 hop] at h
     split at h
     ·cases h
     ·cases hx:dx n N ((c::r).drop t.length) with
      |error e=>rw[hx] at h;cases h
      |ok y=>
       rw[hx] at h
       cases h
       intro u hu
       rcases Jl.1 hu with rfl|hu
       ·exact(n9 hop).2.1
       ·exact up hx (by rw[List.length_drop];omega) u hu
    |none=>
     cases hw:bJ (r.length+2) (c::r) with
     |error e=>rw[pE h1 h2 hop hw] at h;cases h
     |ok r'=>
      rw[ki h1 h2 hop hw] at h
      cases hx:dx n N r' with
      |error e=>rw[hx] at h;cases h
      |ok y=>
       rw[hx] at h
       cases h
       intro u hu
       rcases Jl.1 hu with rfl|hu
       ·show((c::r).take _).length≤_
        rw[List.length_take];omega
       ·exact up hx (ix _ hw).len u hu
theorem uC:∀o∈opsL,o.1≠1:=by decide
theorem Ej {s:LB} {l:List Tk} (h:dG s= .ok l) (h1:l.map Tk.kind=[1]) (h2:l.map Tk.text=[s]):
  s.length≤2048∧s.all okB=true∧∃c r,s=c::r∧¬(c=32∨c=9)∧c≠35∧bU s=none∧bJ (r.length+2) s= .ok []:=by
 obtain⟨tk,rfl⟩:∃t,l=[t]:=List.length_eq_one_iff.1 (by have:=congrArg List.length h1;simpa using this)
 have hk:tk.kind=1:=by simpa using h1
 have ht:tk.text=s:=by simpa using h2
 unfold dG at h
 split at h
 ·cases h
 ·rename_i hl
  split at h
  ·cases h
  ·rename_i hok
   refine⟨by omega,by simpa using hok,?_⟩
   cases s with
   |nil=>cases h
   |cons c r=>
    have small:∀{n:Nat} {r1:LB},dx n (c::r).length r1= .ok [tk]→r1.length<(c::r).length→False:=fun hx hlt=>by
     have:=mw _ _ _ _ hx tk (by simp)
     rw[ht] at this;omega
    refine⟨c,r,rfl,?_⟩
    by_cases g1:c=32∨c=9
    ·rw[lh g1] at h;exact(small h (by simp)).elim
    ·by_cases g2:c=35
     ·rw[mX g1 g2] at h
      refine(small h ?_).elim
      subst g2
      have:=(jI (· !=10) r).len
      rw[List.dropWhile_cons]
      simp;omega
     ·cases hop:bU (c::r) with
      |some o=>
       obtain⟨k,t⟩:=o
       rw[nh g1 g2 hop] at h
       split at h
       ·cases h
       ·cases hx:dx (c::r).length (c::r).length ((c::r).drop t.length) with
        |error e=>rw[hx] at h;cases h
        |ok y=>
         rw[hx] at h
         have e:(⟨k,t,_⟩:Tk)::y=[tk]:=Except.ok.inj h
         have e2:=(List.cons.inj e).1
         rw[←e2] at hk
         exact absurd hk (uC _ (mU hop).1)
      |none=>
       cases hw:bJ (r.length+2) (c::r) with
       |error e=>rw[pE g1 g2 hop hw] at h;cases h
       |ok r'=>
        rw[ki g1 g2 hop hw] at h
        cases hx:dx (c::r).length (c::r).length r' with
        |error e=>rw[hx] at h;cases h
        |ok y=>
         rw[hx] at h
         have e:(⟨1,(c::r).take (r.length+1 -r'.length),_⟩:Tk)::y=[tk]:=Except.ok.inj h
         have e2:=congrArg (fun t=>t.text.length) (List.cons.inj e).1
         simp only[ht] at e2
         rw[List.length_take,Jg] at e2
         have hr':r'=[]:=List.eq_nil_of_length_eq_zero (by
          rcases Nat.eq_zero_or_pos r'.length with h0|h0
          ·exact h0
          ·omega)
         subst hr'
         exact⟨g1,g2,rfl,rfl⟩
theorem xe {s:LB} {a:LP} (h:bs s= .ok a):
  (s.length≤2048∧s.all okB=true∧∃c r,s=c::r∧¬(c=32∨c=9)∧c≠35∧bU s=none∧bJ (r.length+2) s= .ok [])∧(aH .bare false [] ⟨s,false⟩).1=a∧(aH .bare false [] ⟨s,false⟩).2.bad=false:=by
 unfold bs at h
 split at h
 ·cases h
 ·rename_i l hl
  split at h
  ·rename_i hc
   split at h
   ·cases h
   ·rename_i hb
    cases h
    exact⟨Ej hl hc.2.1 hc.2.2,rfl,by simpa using hb⟩
  ·cases h
end Go.Proofs.YtgigdlhcjahejaaGreatDoor
