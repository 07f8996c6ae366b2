import Derived.Test.YtgigdlhcjahejaaGreatDoorF38
import Derived.Test.YtgigdlhcjahejaaGreatDoorF11
import Derived.Lib.Replace
import Derived.Test.YtgigdlhcjahejaaGreatDoorF06
import Derived.Test.YtgigdlhcjahejaaGreatDoorF12
import Derived.Test.YtgigdlhcjahejaaGreatDoorF36
import Derived.Test.YtgigdlhcjahejaaGreatDoorF20
import Derived.Test.YtgigdlhcjahejaaGreatDoorF10
import Derived.Sort.LoopGhostIn
import Derived.Test.YtgigdlhcjahejaaGreatDoorF27
set_option linter.all false
namespace Go.Proofs.YtgigdlhcjahejaaGreatDoor
open Go Go.RowKit Go.Lw
abbrev Kt:=Nat×LB
def Tk.kt (t:Tk):Kt:=(t.kind,t.text)
def ed:Nat→LB→Except Nat (List Kt)
 |0,_=>.error 5
 |_+1,[]=>.ok []
 |n+1,c::r=>
  if c=32∨c=9 then ed n r
  else if c=35 then ed n ((c::r).dropWhile (· !=10))
  else match cb (c::r) with
   |some o=>if o.1=0 then .error 5 else(ed n ((c::r).drop o.2.length)).map (o::·)
   |none=>match bF (r.length+2) (c::r) with
    |.error e=>.error e
    |.ok r'=>(ed n r').map ((1,(c::r).take (r.length+1 -r'.length))::·)
theorem ll:∀(n N:Nat) (r:LB),(dM n N r).map (·.map Tk.kt)=ed n r
 |0,N,r=>rfl
 |n+1,N,[]=>rfl
 |n+1,N,c::r=>by
  unfold dM ed
  split
  ·exact ll n N r
  ·split
   ·exact ll n N _
   ·cases hop:cb (c::r) with
    |some o=>
     simp only
     split
     ·rfl
     ·rw[←ll n N]
      cases dM n N (List.drop o.2.length (c::r))<;>rfl
    |none=>
     simp only
     cases hw:bF (r.length+2) (c::r) with
     |error e=>rfl
     |ok r'=>
      simp only
      rw[←ll n N]
      cases dM n N r'<;>rfl
theorem i7:∀(n:Nat) (r:LB),r.length<n→ed (n+1) r=ed n r
 |0,r,h=>by omega
 |n+1,[],h=>rfl
 |n+1,c::r,h=>by
  have hl:r.length<n:=by simp at h;exact h
  rw[ed]
  conv=>rhs;rw[ed]
  split
  ·exact i7 n r hl
  ·rename_i h1
   split
   ·rename_i h2
    refine i7 n _ ?_
    have:=dj (· !=10) (c::r)
    have h3:1≤((c::r).takeWhile (· !=10)).length:=by rw[List.takeWhile_cons,h2];simp
    simp at this h3⊢
    omega
   ·split
    ·rename_i o ho
     have:=jt ho
     split
     ·rfl
     ·rw[i7 n]
      rw[Jo]
      simp
      omega
    ·rename_i hop
     split
     ·rfl
     ·rename_i r' hw
      have he:fX c=false:=by
       cases e:fX c with
       |false=>rfl
       |true=>exact absurd hop (rW e h1)
      have:=(jD hw he).len
      rw[i7 n _ (by omega)]
theorem Cf (n k:Nat) (r:LB) (h:r.length<n):ed (n+k) r=ed n r:=by
 induction k with
 |zero=>rfl
 |succ k ih=>rw[←Nat.add_assoc,i7 (n+k) r (by omega),ih]
def dI (r:LB):Except Nat (List Kt):=ed (r.length+1) r
theorem lO {n:Nat} {r:LB} (h:r.length<n):ed n r=dI r:=by
 unfold dI
 obtain⟨k,rfl⟩:∃k,n=(r.length+1)+k:=⟨n -(r.length+1),by omega⟩
 exact Cf _ _ _ (Nat.lt_succ_self _)
theorem pH {s:LB} {l:List Tk} (h:dB s= .ok l):dI s= .ok (l.map Tk.kt):=by
 unfold dB at h
 split at h
 ·cases h
 ·split at h
  ·cases h
  ·unfold dI
   rw[←ll (s.length+1) s.length,h]
   rfl
theorem EV {s:LB} {l:List Kt} (h:dI s= .ok l) (hl:s.length≤2048) (hk:s.all okB=true):∃l',dB s= .ok l'∧l'.map Tk.kt=l:=by
 unfold dB
 rw[Js (by omega),Js (by rw[hk];decide)]
 unfold dI at h
 rw[←ll (s.length+1) s.length] at h
 cases e:dM (s.length+1) s.length s with
 |error x=>rw[e] at h;cases h
 |ok l'=>rw[e] at h;exact⟨l',rfl,Except.ok.inj h⟩
def Sep (T:LB):Prop:=T=[]∨∃e t,T=e::t∧(e=32∨e=9∨e=10∨e=59)
theorem Sep.head {e:UInt8} {t:LB} (h:Sep (e::t)):e=32∨e=9∨e=10∨e=59:=by
 rcases h with h|⟨_,_,h,k⟩
 ·cases h
 ·cases h;exact k
def tX (T:LB):Prop:=T=[]∨∃e t,T=e::t∧fX e=true∧∀b,bd e b=false
theorem Sep.E {T:LB} (h:Sep T):tX T:=by
 rcases h with h|⟨e,t,h,k⟩
 ·exact .inl h
 ·refine .inr ⟨e,t,h,?_⟩
  rcases k with rfl|rfl|rfl|rfl<;>exact⟨rfl,fun b=>by cases b<;>rfl⟩
theorem zL {e:UInt8} {t:LB} (h:tX (e::t)):fX e=true:=by
 rcases h with h|⟨_,_,h,k,_⟩
 ·cases h
 ·cases h;exact k
theorem xY {e:UInt8} {t:LB} (h:tX (e::t)) (b:Bool):bd e b=false:=by
 rcases h with h|⟨_,_,h,_,k⟩
 ·cases h
 ·cases h;exact k b
theorem nB {k:Nat} {x T w:LB} (hT:tX T) (e:¬x.take k=w) (hw:w.length=k) (hb:∀c∈w,fX c=false):¬(x++T).take k=w:=fun h=>by
 by_cases hx:k≤x.length
 ·rw[fM k x T hx] at h;exact e h
 ·have h2:=take_len h hw
  rw[Jf] at h2
  cases T with
  |nil=>simp at h2;omega
  |cons c t=>
   have:c∈(x++c::t).take k:=by
    rw[List.take_append,Jm]
    right
    obtain⟨j,hj⟩:∃j,k -x.length=j+1:=⟨k -x.length -1,by omega⟩
    rw[hj,List.take_succ_cons]
    exact Jz
   rw[h] at this
   have:=hb c this
   rw[zL hT] at this
   cases this
theorem pz {k:Nat} {x T w:LB} (e:x.take k=w) (hw:w.length=k):(x++T).take k=w:=by
 rw[fM k x T (take_len e hw)];exact e
theorem pQ {c:UInt8}:∀{x y:LB} (T:LB),dC c x= .ok y→dC c (x++T)= .ok (y++T)
 |[],y,T,h=>by cases h
 |d::x,y,T,h=>by
  rw[Jy]
  unfold dC at h⊢
  split at h
  ·rename_i e;rw[Jt e,Except.ok.inj h]
  ·rename_i e;rw[Js e];exact pQ T h
theorem Bw {x y:LB} (T:LB) (h:fR x= .ok y):fR (x++T)= .ok (y++T):=by
 cases x with
 |nil=>cases h
 |cons d x=>
  rw[Jy]
  unfold fR at h⊢
  simp only at h⊢
  split at h
  ·cases h
  ·rename_i e;rw[Js e,Except.ok.inj h]
theorem jP:∀{x y:LB} {o:Nat} {T:LB},tX T→bO o x= .ok y→bO o (x++T)= .ok (y++T)
 |[],y,o,T,hT,h=>by cases h
 |c::x,y,o,T,hT,h=>by
  rw[Jy]
  unfold bO at h⊢
  split at h
  ·rename_i e
   have hx:1≤x.length:=by
    have:=take_len e.2 rfl
    simp at this
    omega
   rw[Jt ⟨e.1,by rw[←Jy];exact pz e.2 rfl⟩,List.drop_append_of_le_length hx,Except.ok.inj h]
  ·rename_i e
   have e':¬(o=0∧(c::(x++T)).take 2=[41,41]):=fun h2=>e ⟨h2.1,by
    have h3:=h2.2
    rw[←Jy] at h3
    refine Classical.byContradiction fun h4=>nB hT h4 rfl (by decide) h3⟩
   rw[Js e']
   split at h
   ·rename_i e1;rw[Jt e1];exact jP hT h
   ·rename_i e1;rw[Js e1]
    split at h
    ·rename_i e2;rw[Jt e2];exact jP hT h
    ·rename_i e2;rw[Js e2]
     split at h
     ·cases h
     ·rename_i e3;rw[Js e3];exact jP hT h
theorem rM:∀{first:Bool} {x T:LB},tX T→dE first (x++T)=dE first x++T
 |first,[],T,hT=>by
  cases T with
  |nil=>rfl
  |cons e t=>
   rw[List.nil_append]
   unfold dE
   rw[xY hT]
   rfl
 |first,c::x,T,hT=>by
  rw[Jy]
  unfold dE
  split
  ·exact rM hT
  ·rfl
theorem gD:∀(n:Nat) (m:Md) (d:Nat) {x y T:LB},tX T→scan n m d x= .ok y→scan n m d (x++T)= .ok (y++T)
 |0,m,d,x,y,T,hT,h=>by unfold scan at h;cases h
 |n+1,.piece q,d,[],y,T,hT,h=>by unfold scan at h;cases h
 |n+1,.piece q,d,c::x,y,T,hT,h=>by
  rw[Jy]
  unfold scan at h⊢
  simp only at h⊢
  split at h
  ·rename_i e;rw[Jt e];exact Bw T h
  ·rename_i e;rw[Js e]
   split at h
   ·rename_i e;rw[Jt e];exact pQ T h
   ·rename_i e;rw[Js e]
    split at h
    ·rename_i e;rw[Jt e]
     split at h
     ·cases h
     ·rename_i e;rw[Js e];exact gD n _ _ hT h
    ·rename_i e;rw[Js e]
     split at h
     ·rename_i e;rw[Jt e]
      split at h
      ·rename_i e
       rw[Jt (pz e rfl),List.drop_append_of_le_length (take_len e rfl)]
       exact jP hT h
      ·rename_i e
       rw[Js (nB hT e rfl (by decide))]
       split at h
       ·cases h
       ·rename_i e
        rw[Js (nB hT e rfl (by decide))]
        split at h
        ·rename_i e
         split at h
         ·cases h
         ·rename_i e2
          rw[Jt (pz e rfl),Js e2,List.drop_append_of_le_length (take_len e rfl)]
          exact gD n _ _ hT h
        ·rename_i e
         rw[Js (nB hT e rfl (by decide))]
         split at h
         ·rename_i e
          rw[Jt (pz e rfl),List.drop_append_of_le_length (take_len e rfl),Except.ok.inj h]
         ·rename_i e
          rw[Js (nB hT e rfl (by decide)),rM hT,Except.ok.inj h]
     ·rename_i e;rw[Js e]
      split at h
      ·cases h
      ·rename_i e;rw[Js e,Except.ok.inj h]
 |n+1,.double,d,[],y,T,hT,h=>by unfold scan at h;cases h
 |n+1,.double,d,c::x,y,T,hT,h=>by
  rw[Jy]
  unfold scan at h⊢
  simp only at h⊢
  split at h
  ·rename_i e;rw[Jt e,Except.ok.inj h]
  ·rename_i e;rw[Js e]
   split at h
   ·cases h
   ·rename_i r1 h1
    have:=gD n (.piece true) d hT h1
    rw[Jy] at this
    rw[this]
    exact gD n .double d hT h
 |n+1,.brace,d,[],y,T,hT,h=>by unfold scan at h;cases h
 |n+1,.brace,d,c::x,y,T,hT,h=>by
  rw[Jy]
  unfold scan at h⊢
  simp only at h⊢
  split at h
  ·rename_i e;rw[Jt e,Except.ok.inj h]
  ·rename_i e;rw[Js e]
   split at h
   ·cases h
   ·rename_i e;rw[Js e]
    split at h
    ·rename_i e;rw[Jt e];exact gD n .brace d hT h
    ·rename_i e;rw[Js e]
     split at h
     ·cases h
     ·rename_i r1 h1
      have:=gD n (.piece false) d hT h1
      rw[Jy] at this
      rw[this]
      exact gD n .brace d hT h
theorem Bs {x y T:LB} (hT:tX T) (h:fy false 0 x= .ok y):fy false 0 (x++T)= .ok (y++T):=by
 unfold fy at h⊢
 have h1:scan (dy (.piece false) x.length+2*T.length) (.piece false) 0 x= .ok y:=by
  rw[sM _ _ _ _ _ (Jb _)];exact h
 have h2:=gD _ _ _ hT h1
 rw[show dy (.piece false) (x++T).length=dy (.piece false) x.length+2*T.length by unfold dy;simp;omega]
 exact h2
theorem nM:∀(n:Nat) {x y T:LB},tX T→bF n x= .ok y→bF n (x++T)= .ok (y++T)
 |0,x,y,T,hT,h=>by cases h
 |n+1,[],y,T,hT,h=>by
  cases h
  cases T with
  |nil=>rfl
  |cons e t=>exact qg (zL hT)
 |n+1,c::x,y,T,hT,h=>by
  rw[Jy]
  unfold bF at h⊢
  split at h
  ·rename_i e;rw[Jt e,←Except.ok.inj h];rfl
  ·rename_i e;rw[Js e]
   split at h
   ·cases h
   ·rename_i r1 h1
    have:=Bs hT h1
    rw[Jy] at this
    rw[this]
    exact nM n hT h
theorem DU:∀o∈opsL,∀c∈o.2.drop 1,¬(c=32∨c=9∨c=10∨c=59):=by decide
theorem ld {c:UInt8} {x T:LB} (hT:Sep T):cb (c::x++T)=cb (c::x):=by
 unfold cb
 have key:∀o∈opsL,((c::x++T).take o.2.length==o.2)=((c::x).take o.2.length==o.2):=fun o ho=>by
  by_cases hx:o.2.length≤(c::x).length
  ·rw[fM _ _ T hx]
  ·have h1:((c::x).take o.2.length==o.2)=false:=Jq.2 fun h=>hx (take_len h rfl)
   rw[h1]
   refine Jq.2 fun h=>?_
   have h2:=take_len h rfl
   rw[Jf] at h2
   cases T with
   |nil=>simp at h2 hx;omega
   |cons e t=>
    refine DU o ho e ?_ hT.head
    rw[←h,Jy]
    obtain⟨j,hj⟩:∃j,o.2.length=(x.length+1)+(j+1):=⟨o.2.length -(x.length+1) -1,by simp at hx;omega⟩
    rw[hj,show x.length+1+(j+1)=(x.length+(j+1))+1 by omega,List.take_succ_cons,List.drop_succ_cons,List.drop_zero,List.take_append,Jm]
    right
    rw[show x.length+(j+1) -x.length=j+1 by omega,List.take_succ_cons]
    exact Jz
 have:∀l:List (Nat×LB),(∀o∈l,o∈opsL)→l.find? (fun o=>(c::x++T).take o.2.length==o.2)=l.find? (fun o=>(c::x).take o.2.length==o.2):=fun l=>by
  induction l with
  |nil=>intro _;rfl
  |cons o l ih=>
   intro hl
   rw[List.find?_cons,List.find?_cons,key o (hl o Jz),ih (fun p hp=>hl p (Qa _ hp))]
 exact this opsL (fun _ h=>h)
theorem pA {c:UInt8} {r:LB} {m:Nat} (h:c=32∨c=9):ed (m+1) (c::r)=ed m r:=by
 conv=>lhs;unfold ed
 rw[Jt h]
theorem ud {c:UInt8} {r:LB} {m:Nat} (h:¬(c=32∨c=9)) (h1:c=35):ed (m+1) (c::r)=ed m ((c::r).dropWhile (· !=10)):=by
 conv=>lhs;unfold ed
 rw[Js h,Jt h1]
theorem nV {c:UInt8} {r:LB} {m:Nat} {o:Kt} (h:¬(c=32∨c=9)) (h1:¬c=35) (h2:cb (c::r)=some o) (h3:o.1≠0):ed (m+1) (c::r)=(ed m ((c::r).drop o.2.length)).map (o::·):=by
 conv=>lhs;unfold ed
 rw[Js h,Js h1,h2]
 simp only
 rw[Js h3]
theorem yH {c:UInt8} {r:LB} {m:Nat} {o:Kt} (h:¬(c=32∨c=9)) (h1:¬c=35) (h2:cb (c::r)=some o) (h3:o.1=0):ed (m+1) (c::r)= .error 5:=by
 conv=>lhs;unfold ed
 rw[Js h,Js h1,h2]
 simp only
 rw[Jt h3]
theorem qF {c:UInt8} {r r':LB} {m:Nat} (h:¬(c=32∨c=9)) (h1:¬c=35) (h2:cb (c::r)=none) (h3:bF (r.length+2) (c::r)= .ok r'):ed (m+1) (c::r)=(ed m r').map ((1,(c::r).take (r.length+1 -r'.length))::·):=by
 conv=>lhs;unfold ed
 rw[Js h,Js h1,h2,h3]
theorem Ck {c:UInt8} {r:LB} {m e:Nat} (h:¬(c=32∨c=9)) (h1:¬c=35) (h2:cb (c::r)=none) (h3:bF (r.length+2) (c::r)= .error e):ed (m+1) (c::r)= .error e:=by
 conv=>lhs;unfold ed
 rw[Js h,Js h1,h2,h3]
theorem qa {c:UInt8} {r r':LB} (h1:¬(c=32∨c=9)) (hop:cb (c::r)=none) (hw:bF (r.length+2) (c::r)= .ok r'):
  ∃j,j≤r.length∧r.drop j=r'∧(c::r).take (r.length+1 -r'.length)=c::r.take j∧cb (c::r.take j)=none∧ve (c::r.take j):=by
 have he:fX c=false:=by
  cases e:fX c with
  |false=>rfl
  |true=>exact absurd hop (rW e h1)
 obtain⟨j,hj,hd⟩:=jD hw he
 have hlen:r'.length=r.length -j:=by rw[←hd,Jo]
 have hall:c::r=(c::r.take j)++r':=by rw[Jy,←hd,List.take_append_drop]
 have hlj:(r.take j).length=j:=by rw[Jp];omega
 have hw':bF (r.length+2) (c::r.take j)= .ok []:=by
  rw[hall] at hw
  exact ti _ (y:=[]) hw
 refine⟨j,hj,hd,by rw[show r.length+1 -r'.length=j+1 by omega,List.take_succ_cons],AV (t:=r') (by rw[←hall];exact hop),?_⟩
 rw[show r.length+2=(j+2)+(r.length -j) by omega,mA _ _ _ (by simp[hlj])] at hw'
 unfold ve
 rw[Jg,hlj]
 exact hw'
def pN (k:Kt):Prop:=(k.1=1∧(∃c x,k.2=c::x∧c≠35)∧ve k.2∧cb k.2=none)∨(k∈opsL∧k.1≠0)
theorem jg:∀(n:Nat) (r:LB) (l:List Kt),ed n r= .ok l→∀k∈l,pN k
 |0,_,_,h=>by cases h
 |n+1,[],l,h=>by cases h;intro t ht;simp at ht
 |n+1,c::r,l,h=>by
  by_cases h1:c=32∨c=9
  ·rw[pA h1] at h;exact jg n r l h
  ·by_cases h2:c=35
   ·rw[ud h1 h2] at h;exact jg n _ l h
   ·cases hop:cb (c::r) with
    |some o=>
     by_cases h3:o.1=0
     ·rw[yH h1 h2 hop h3] at h;cases h
     ·rw[nV h1 h2 hop h3] at h
      cases hx:ed n ((c::r).drop o.2.length) with
      |error e=>rw[hx] at h;cases h
      |ok y=>
       rw[hx] at h
       cases h
       intro u hu
       rcases Jl.1 hu with rfl|hu
       ·exact .inr ⟨(mR hop).1,h3⟩
       ·exact jg n _ y hx u hu
    |none=>
     cases hw:bF (r.length+2) (c::r) with
     |error e=>rw[Ck h1 h2 hop hw] at h;cases h
     |ok r'=>
      rw[qF h1 h2 hop hw] at h
      obtain⟨j,hj,hd,ht,ho,hwt⟩:=qa h1 hop hw
      cases hx:ed n r' with
      |error e=>rw[hx] at h;cases h
      |ok y=>
       rw[hx] at h
       cases h
       intro u hu
       rcases Jl.1 hu with rfl|hu
       ·rw[ht];exact .inl ⟨rfl,⟨c,r.take j,rfl,h2⟩,hwt,ho⟩
       ·exact jg n _ y hx u hu
theorem Bm:∀o∈opsL,o.1≠0→cb o.2=some o:=by decide
theorem BK:∀o∈opsL,∃c x,o.2=c::x∧¬(c=32∨c=9)∧¬c=35:=by
 intro o ho
 simp only[opsL,Jl,List.not_mem_nil,or_false] at ho
 rcases ho with rfl|rfl|rfl|rfl|rfl|rfl|rfl|rfl|rfl|rfl|rfl|rfl|rfl|rfl|rfl|rfl|rfl|rfl<;>exact⟨_,_,rfl,by decide,by decide⟩
theorem EE {k:Kt} {T:LB} (h:pN k) (hT:Sep T):dI (k.2++T)=(dI T).map (k::·):=by
 obtain⟨kd,tx⟩:=k
 rcases h with⟨h1,⟨c,x,h2,h3⟩,h4,h5⟩|⟨h1,h2⟩
 ·simp only at h1 h2 h4 h5
  subst h1;subst h2
  have he:=yF h4
  have hb:¬(c=32∨c=9):=fun h=>by rcases h with rfl|rfl<;>cases he
  have ho:cb (c::(x++T))=none:=by rw[←Jy,ld hT];exact h5
  have hw:bF ((x++T).length+2) (c::(x++T))= .ok T:=by
   have h6:bF ((x.length+2)+T.length) (c::x)= .ok []:=by
    rw[mA _ _ _ (by simp)]
    exact h4
   have:=nM _ hT.E h6
   rw[Jf,show x.length+T.length+2=x.length+2+T.length by omega]
   exact this
  unfold dI
  rw[Jy,Jg,qF hb h3 ho hw]
  rw[show(c::(x++T)).take ((x++T).length+1 -T.length)=c::x by
   rw[Jf,show x.length+T.length+1 -T.length=x.length+1 by omega,List.take_succ_cons,List.take_left]]
  rw[lO (by rw[Jf];omega)]
  rfl
 ·simp only at h1 h2
  obtain⟨c,x,h3,h4,h5⟩:=BK _ h1
  simp only at h3
  have ho:=Bm _ h1 h2
  simp only at ho
  rw[h3] at ho⊢
  have ho2:cb (c::(x++T))=some (kd,c::x):=by rw[←Jy,ld hT];rw[←h3] at ho⊢;exact ho
  show dI (c::x++T)=_
  unfold dI
  rw[Jy,Jg,nV h4 h5 ho2 h2]
  show Except.map _ (ed _ ((c::(x++T)).drop (x.length+1)))=_
  rw[List.drop_succ_cons,List.drop_left,lO (by rw[Jf];omega)]
  rfl
theorem pK {c:UInt8} {r:LB} (h:c=32∨c=9):dI (c::r)=dI r:=by
 unfold dI
 rw[pA h]
 rfl
theorem Ar {l:List Kt} {x:Except Nat (List Kt)} {k:Kt}:(x.map (l++·)).map (k::·)=x.map ((k::l)++·):=by
 cases x<;>rfl
theorem sQ {s:LB} {l:List Kt} (h:dI s= .ok l):∀k∈l,pN k:=jg _ _ _ h
def Dn (s:LB) (l:List Kt):Bool:=match dI s with
 |.ok l'=>decide (l'=l)
 |.error _=>false
theorem CY {s:LB} {l:List Kt} (h:Dn s l=true):dI s= .ok l:=by
 unfold Dn at h
 cases e:dI s with
 |error x=>rw[e] at h;cases h
 |ok l'=>rw[e] at h;rw[of_decide_eq_true h]
theorem Fj (x t:LB):(x++10::t).dropWhile (· !=10)=x.dropWhile (· !=10)++10::t:=by
 induction x with
 |nil=>rfl
 |cons c x ih=>
  rw[Jy,List.dropWhile_cons,List.dropWhile_cons]
  split
  ·exact ih
  ·rfl
theorem yE (t:LB):Sep (10::t):= .inr ⟨10,t,rfl,.inr (.inr (.inl rfl))⟩
theorem rH (t:LB):∀(n:Nat) (r:LB) (l:List Kt),ed n r= .ok l→dI (r++10::t)=(dI (10::t)).map (l++·)
 |0,_,_,h=>by cases h
 |n+1,[],l,h=>by
  cases h
  show dI (10::t)=_
  cases dI (10::t)<;>rfl
 |n+1,c::r,l,h=>by
  rw[Jy]
  by_cases h1:c=32∨c=9
  ·rw[pA h1] at h
   rw[pK h1]
   exact rH t n r l h
  ·by_cases h2:c=35
   ·rw[ud h1 h2] at h
    have:=rH t n _ l h
    rw[←this]
    unfold dI
    rw[Jg,ud h1 h2,←Jy,Fj]
    refine lO ?_
    have h3:=dj (· !=10) (c::r)
    have h4:1≤((c::r).takeWhile (· !=10)).length:=by rw[List.takeWhile_cons,h2];simp
    simp at h3 h4⊢
    omega
   ·cases hop:cb (c::r) with
    |some o=>
     by_cases h3:o.1=0
     ·rw[yH h1 h2 hop h3] at h;cases h
     ·rw[nV h1 h2 hop h3] at h
      have ho2:cb (c::(r++10::t))=some o:=by rw[←Jy,ld (yE t)];exact hop
      have hol:=jt hop
      cases hx:ed n ((c::r).drop o.2.length) with
      |error e=>rw[hx] at h;cases h
      |ok y=>
       rw[hx] at h
       cases h
       have:=rH t n _ y hx
       unfold dI
       rw[Jg,nV h1 h2 ho2 h3,←Jy,List.drop_append_of_le_length hol.2.1,lO (by simp;omega),this]
       exact Ar
    |none=>
     cases hw:bF (r.length+2) (c::r) with
     |error e=>rw[Ck h1 h2 hop hw] at h;cases h
     |ok r'=>
      rw[qF h1 h2 hop hw] at h
      obtain⟨j,hj,hd,ht,ho,hwt⟩:=qa h1 hop hw
      have hlr:r'.length=r.length -j:=by rw[←hd,Jo]
      have ho2:cb (c::(r++10::t))=none:=by rw[←Jy,ld (yE t)];exact hop
      have hw2:bF ((r++10::t).length+2) (c::(r++10::t))= .ok (r'++10::t):=by
       have h6:bF ((r.length+2)+(10::t).length) (c::r)= .ok r':=by
        rw[mA _ _ _ (by simp)];exact hw
       have:=nM _ (yE t).E h6
       rw[Jf,show r.length+(10::t).length+2=r.length+2+(10::t).length by omega]
       exact this
      cases hx:ed n r' with
      |error e=>rw[hx] at h;cases h
      |ok y=>
       rw[hx] at h
       cases h
       have:=rH t n _ y hx
       unfold dI
       rw[Jg,qF h1 h2 ho2 hw2,lO (by simp;omega),this]
       rw[show(c::(r++10::t)).take ((r++10::t).length+1 -(r'++10::t).length)=(c::r).take (r.length+1 -r'.length) by
        rw[Jf,Jf,show r.length+(10::t).length+1 -(r'.length+(10::t).length)=r.length+1 -r'.length by omega,←Jy]
        exact fM _ _ _ (by simp)]
       exact Ar
theorem zV {s:LB} {l:List Tk} (h:dB s= .ok l):s.length≤2048∧s.all okB=true:=by
 unfold dB at h
 split at h
 ·cases h
 ·rename_i h1
  split at h
  ·cases h
  ·rename_i h2
   exact⟨by omega,by simpa using h2⟩
theorem sf {c k:UInt8} (h:bd c false=true) (hk:bd k false=false):c≠k:=fun e=>by rw[e,hk] at h;cases h
theorem km {c:UInt8} {b:Bool} (h:bd c b=true):bd c false=true:=by
 cases b
 ·exact h
 ·unfold bd at h⊢
  simp at h
  simp[h]
theorem mz:∀(n N:Nat) (r:LB) (l:List Tk),dM n N r= .ok l→∀t∈l,t.text.length≤r.length
 |0,_,_,_,h=>by cases h
 |n+1,N,[],l,h=>by cases h;intro t ht;simp at ht
 |n+1,N,c::r,l,h=>by
  have up:∀{r1:LB} {l1:List Tk},dM n N r1= .ok l1→r1.length≤(c::r).length→∀t∈l1,t.text.length≤(c::r).length:=fun h1 h2 t ht=>lt9 (mz n N _ _ h1 t ht) h2
  by_cases h1:c=32∨c=9
  ·rw[lg h1] at h;exact up h (by simp)
  ·by_cases h2:c=35
   ·rw[nC h1 h2] at h;exact up h (jR _ _).len
   ·cases hop:cb (c::r) with
    |some o=>
     obtain⟨k,t⟩:=o
     rw[nt h1 h2 hop] at h
     split at h
     ·cases h
     ·cases hx:dM n N ((c::r).drop t.length) with
      |error e=>rw[hx] at h;cases h
      |ok y=>
       rw[hx] at h
       cases h
       intro u hu
       rcases Jl.1 hu with rfl|hu
       ·exact(jt hop).2.1
       ·exact up hx (by rw[Jo];omega) u hu
    |none=>
     cases hw:bF (r.length+2) (c::r) with
     |error e=>rw[pn h1 h2 hop hw] at h;cases h
     |ok r'=>
      rw[kI h1 h2 hop hw] at h
      cases hx:dM n N r' with
      |error e=>rw[hx] at h;cases h
      |ok y=>
       rw[hx] at h
       cases h
       intro u hu
       rcases Jl.1 hu with rfl|hu
       ·show((c::r).take _).length≤_
        rw[Jp];omega
       ·exact up hx (iu _ hw).len u hu
theorem Ff:∀o∈opsL,o.1≠1:=by decide
theorem ET {s:LB} {l:List Tk} (h:dB s= .ok l) (h1:l.map Tk.kind=[1]) (h2:l.map Tk.text=[s]):
  s.length≤2048∧s.all okB=true∧∃c r,s=c::r∧¬(c=32∨c=9)∧c≠35∧cb s=none∧bF (r.length+2) s= .ok []:=by
 obtain⟨tk,rfl⟩:∃t,l=[t]:=List.length_eq_one_iff.1 (by have:=congrArg List.length h1;simpa using this)
 have hk:tk.kind=1:=by simpa using h1
 have ht:tk.text=s:=by simpa using h2
 unfold dB at h
 split at h
 ·cases h
 ·rename_i hl
  split at h
  ·cases h
  ·rename_i hok
   refine⟨by omega,by simpa using hok,?_⟩
   cases s with
   |nil=>cases h
   |cons c r=>
    have small:∀{n:Nat} {r1:LB},dM n (c::r).length r1= .ok [tk]→r1.length<(c::r).length→False:=fun hx hlt=>by
     have:=mz _ _ _ _ hx tk (by simp)
     rw[ht] at this;omega
    refine⟨c,r,rfl,?_⟩
    by_cases g1:c=32∨c=9
    ·rw[lg g1] at h;exact(small h (by simp)).elim
    ·by_cases g2:c=35
     ·rw[nC g1 g2] at h
      refine(small h ?_).elim
      subst g2
      have:=(jR (· !=10) r).len
      rw[List.dropWhile_cons]
      simp;omega
     ·cases hop:cb (c::r) with
      |some o=>
       obtain⟨k,t⟩:=o
       rw[nt g1 g2 hop] at h
       split at h
       ·cases h
       ·cases hx:dM (c::r).length (c::r).length ((c::r).drop t.length) with
        |error e=>rw[hx] at h;cases h
        |ok y=>
         rw[hx] at h
         have e:(⟨k,t,_⟩:Tk)::y=[tk]:=Except.ok.inj h
         have e2:=(List.cons.inj e).1
         rw[←e2] at hk
         exact absurd hk (Ff _ (mR hop).1)
      |none=>
       cases hw:bF (r.length+2) (c::r) with
       |error e=>rw[pn g1 g2 hop hw] at h;cases h
       |ok r'=>
        rw[kI g1 g2 hop hw] at h
        cases hx:dM (c::r).length (c::r).length r' with
        |error e=>rw[hx] at h;cases h
        |ok y=>
         rw[hx] at h
         have e:(⟨1,(c::r).take (r.length+1 -r'.length),_⟩:Tk)::y=[tk]:=Except.ok.inj h
         have e2:=congrArg (fun t=>t.text.length) (List.cons.inj e).1
         simp only[ht] at e2
         rw[Jp,Jg] at e2
         have hr':r'=[]:=List.eq_nil_of_length_eq_zero (by
          rcases Nat.eq_zero_or_pos r'.length with h0|h0
          ·exact h0
          ·omega)
         subst hr'
         exact⟨g1,g2,rfl,rfl⟩
theorem xJ {s:LB} {a:LP} (h:bC s= .ok a):
  (s.length≤2048∧s.all okB=true∧∃c r,s=c::r∧¬(c=32∨c=9)∧c≠35∧cb s=none∧bF (r.length+2) s= .ok [])∧(aO .bare false [] ⟨s,false⟩).1=a∧(aO .bare false [] ⟨s,false⟩).2.bad=false:=by
 unfold bC at h
 split at h
 ·cases h
 ·rename_i l hl
  split at h
  ·rename_i hc
   split at h
   ·cases h
   ·rename_i hb
    cases h
    exact⟨ET hl hc.2.1 hc.2.2,rfl,by simpa using hb⟩
  ·cases h
end Go.Proofs.YtgigdlhcjahejaaGreatDoor
namespace Go.Lw
open Go Go.RowKit
end Go.Lw
namespace Go.Proofs.YtgigdlhcjahejaaGreatDoor
open Go Go.RowKit Go.Lw
set_option maxRecDepth 100000
attribute [local go_sem] Oper.semAt_some
attribute [local go_sem] aA
theorem A8:∀o∈opsL,∃c y,o.2=c::y∧(fX c=true∨(c=50∧∃z,y=62::z)):=by
 intro o ho
 simp only[opsL,Jl,List.not_mem_nil,or_false] at ho
 rcases ho with rfl|rfl|rfl|rfl|rfl|rfl|rfl|rfl|rfl|rfl|rfl|rfl|rfl|rfl|rfl|rfl|rfl|rfl
 all_goals first
  |exact⟨_,_,rfl,.inl (by decide)⟩
  |exact⟨_,_,rfl,.inr ⟨rfl,_,rfl⟩⟩
abbrev AE:Kt:=(3,[59])
abbrev nlK:Kt:=(2,[10])
abbrev Da:Kt:=(4,[38,38])
abbrev orK:Kt:=(5,[124,124])
abbrev vI:Kt:=(6,[124])
abbrev kwK (s:LB):Kt:=(1,s)
theorem sO:∀l:List Nd,fj l=l.map aj
 |[]=>by show aj.fj []=_;rw[aj.fj];rfl
 |n::l=>by show aj.fj (n::l)=_;rw[aj.fj];exact congrArg _ (sO l)
theorem dZ (k:Int) (b:Bool) (s:LB) (a:List (LB×LP)) (w:List LP) (r:List (Int×LP)) (l:List Nd):aj (.mk k b s a w r l)=fS (.mk k b s a w r l) (l.map aj):=by
 rw[aj];rw[←sO]
def Lx (s:LB) (l:List Kt):Prop:=∀T,Sep T→dI (s++T)=(dI T).map (l++·)
theorem DD {l m:List Kt} {x:Except Nat (List Kt)}:(x.map (m++·)).map (l++·)=x.map ((l++m)++·):=by
 cases x with
 |error e=>rfl
 |ok y=>show Except.ok (l++(m++y))=Except.ok ((l++m)++y);rw[Jj]
theorem Lx.tok {k:Kt} (h:pN k):Lx k.2 [k]:=fun T hT=>by
 rw[EE h hT]
 cases dI T<;>rfl
structure Lo (s:LB) (l:List Kt):Prop where
 lx:Lx s l
 ok:s.all okB=true
theorem Lo.tok {k:Kt} (h:pN k) (h2:k.2.all okB=true):Lo k.2 [k]:=⟨Lx.tok h,h2⟩
theorem AN {s:LB} {a:LP} (h:bC s= .ok a):pN (1,s)∧s.all okB=true:=by
 obtain⟨⟨h1,h2,c,r,hs,h3,h4,h5,h6⟩,_⟩:=xJ h
 refine⟨.inl ⟨rfl,⟨c,r,hs,h4⟩,?_,h5⟩,h2⟩
 show bF (s.length+1) s= .ok []
 rw[hs] at h6⊢
 exact h6
def One (c:UInt8):Prop:=(∀x,fy false 0 (c::x)= .ok x)∧fX c=false
theorem FU {c:UInt8} (h0:fX c=false) (h1:c≠92) (h2:c≠39) (h3:c≠34) (h4:c≠36) (h5:c≠96) (h6:c≠40) (h7:c≠41):One c:=by
 refine⟨fun x=>?_,h0⟩
 unfold fy
 obtain⟨k,hk⟩:∃k,dy (.piece false) (c::x).length=k+1:=⟨dy (.piece false) (c::x).length -1,by unfold dy;simp⟩
 rw[hk]
 unfold scan
 simp only
 rw[Js h1,Js (fun e=>h2 e.1),Js (fun e=>h3 e.1),Js h4,Js (fun e=>e.elim h5 (fun e=>e.2.elim h6 h7))]
theorem nJ {c:UInt8} (h:bd c false=true):One c:=by
 have hn:∀k,bd k false=false→c≠k:=fun k hk=>sf h hk
 refine FU ?_ (hn _ (by decide)) (hn _ (by decide)) (hn _ (by decide)) (hn _ (by decide)) (hn _ (by decide)) (hn _ (by decide)) (hn _ (by decide))
 unfold fX
 simp only[Bool.or_eq_false_iff,Jq]
 refine⟨⟨⟨⟨⟨⟨⟨?_,?_⟩,?_⟩,?_⟩,?_⟩,?_⟩,?_⟩,?_⟩<;>exact hn _ (by decide)
theorem oV:∀(s:LB) (n:Nat) (t:LB),(∀c∈s,One c)→bF (s.length+n) (s++t)=bF n t
 |[],n,t,_=>by rw[List.nil_append,Jn,Nat.zero_add]
 |c::s,n,t,h=>by
  have h1:=h c Jz
  rw[Jy,show(c::s).length+n=(s.length+n)+1 by simp;omega,so h1.2 (h1.1 _)]
  exact oV s n t (fun x hx=>h x (Qa _ hx))
theorem xj {s:LB} (h:dh s=true):∃c r,s=c::r∧bd c true=true∧∀x∈s,bd x false=true:=by
 unfold dh at h
 split at h
 ·cases h
 ·rename_i c r
  simp only[Jr,List.all_eq_true,decide_eq_true_eq] at h
  refine⟨c,r,rfl,h.1.1,fun x hx=>?_⟩
  rcases Jl.1 hx with rfl|hx
  ·exact km h.1.1
  ·exact h.1.2 x hx
theorem xD {c:UInt8} {r:LB} (h:bd c true=true):cb (c::r)=none:=by
 have he:=(nJ (km h)).2
 have h2:c≠50:=fun e=>by rw[e] at h;cases h
 unfold cb
 rw[List.find?_eq_none]
 intro o ho hx
 obtain⟨d,y2,e2,hd⟩:=A8 o ho
 rw[e2] at hx
 have hx':(c::r).take (y2.length+1)=d::y2:=by simpa using hx
 rw[List.take_succ_cons] at hx'
 have e1:=(List.cons.inj hx').1
 rcases hd with hd|⟨hd,_⟩
 ·rw[←e1,he] at hd;cases hd
 ·exact h2 (e1.trans hd)
theorem xm {c:UInt8} (h:bd c true=true):c≠35:=sf (km h) (by decide)
theorem Dt {s:LB} (h:dh s=true):pN (1,s):=by
 obtain⟨c,r,hs,hc,ha⟩:=xj h
 refine .inl ⟨rfl,⟨c,r,hs,xm hc⟩,?_,by show cb s=none;rw[hs];exact xD hc⟩
 show bF (s.length+1) s= .ok []
 have:=oV s 1 [] (fun x hx=>nJ (ha x hx))
 rw[List.append_nil] at this
 rw[this];rfl
def Shp (n:Nd):Prop:=∀m∈aK n,aV m=true
theorem rp:∀l:List Nd,aZ l=l.flatMap aK
 |[]=>by show aK.aZ []=_;rw[aK.aZ];rfl
 |n::l=>by show aK.aZ (n::l)=_;rw[aK.aZ,List.flatMap_cons];exact congrArg _ (rp l)
theorem qj (k:Int) (b:Bool) (s:LB) (a:List (LB×LP)) (w:List LP) (r:List (Int×LP)) (l:List Nd):aK (.mk k b s a w r l)= .mk k b s a w r l::l.flatMap aK:=by
 rw[aK];rw[←rp]
theorem AO {c:UInt8} (h:bd c false=true):okB c=true:=by
 unfold bd ze yS at h
 unfold okB
 simp only[Bool.or_eq_true,Jr,decide_eq_true_eq,Bool.not_false,Bool.true_and] at h
 simp only[Bool.not_eq_true',Bool.or_eq_false_iff,Bool.and_eq_false_iff,decide_eq_false_iff_not,Bool.not_eq_false',decide_eq_true_eq]
 omega
theorem Fh {s:LB} (h:dh s=true):Lo s [kwK s]:=by
 obtain⟨c,r,hs,hc,ha⟩:=xj h
 exact Lo.tok (k:=kwK s) (Dt h) (List.all_eq_true.2 fun x hx=>AO (ha x hx))
theorem Dp {s:LB} (h:s∈dH):Lo s [kwK s]:=by
 have key:∀s∈dH,(bC s).toOption.isSome=true:=by decide+kernel
 cases e:bC s with
 |error x=>have:=key s h;rw[e] at this;cases this
 |ok a=>have h1:=AN e;exact Lo.tok (k:=kwK s) h1.1 h1.2
theorem GH {k:Kt} (h:k∈[AE,Da,orK,vI]):Lo k.2 [k]:=by
 simp only[Jl,List.not_mem_nil,or_false] at h
 rcases h with rfl|rfl|rfl|rfl<;>exact Lo.tok (.inr ⟨by decide,by decide⟩) (by decide)
