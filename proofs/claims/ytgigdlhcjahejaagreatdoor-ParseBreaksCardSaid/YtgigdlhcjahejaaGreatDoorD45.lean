/- Of the proof of ParseBreaks: AgainQ, QuotesP, WordQP, Sync, Sync2, WAddsP. -/
import Derived.Test.YtgigdlhcjahejaaGreatDoorD44
import Derived.Test.YtgigdlhcjahejaaGreatDoorD13
import Derived.Lib.Replace
import Derived.Test.YtgigdlhcjahejaaGreatDoorD06
namespace Go.Proofs.YtgigdlhcjahejaaGreatDoor
open Go Go.RowKit Go.Lw
set_option linter.unusedVariables false
theorem wP {c:UInt8} {r:List UInt8} {m:Nat} (h:c=32∨c=9):dO (m+1) (c::r)=dO m r:=by
 conv=>lhs;unfold dO
 rw[if_pos h]
theorem Bq {c:UInt8} {r:List UInt8} {m:Nat} (h:¬(c=32∨c=9)) (h1:c=35):dO (m+1) (c::r)=dO m ((c::r).dropWhile (· !=10)):=by
 conv=>lhs;unfold dO
 rw[if_neg h,if_pos h1]
theorem rS {c:UInt8} {r:List UInt8} {m:Nat} {o:Kt} (h:¬(c=32∨c=9)) (h1:¬c=35) (h2:bM (c::r)=some o) (h3:o.1≠0):dO (m+1) (c::r)=(dO m ((c::r).drop o.2.length)).map (o::·):=by
 conv=>lhs;unfold dO
 rw[if_neg h,if_neg h1,h2]
 simp only
 rw[if_neg h3]
theorem Dy {c:UInt8} {r:List UInt8} {m:Nat} {o:Kt} (h:¬(c=32∨c=9)) (h1:¬c=35) (h2:bM (c::r)=some o) (h3:o.1=0):dO (m+1) (c::r)= .error 5:=by
 conv=>lhs;unfold dO
 rw[if_neg h,if_neg h1,h2]
 simp only
 rw[if_pos h3]
theorem vx {c:UInt8} {r r':List UInt8} {m:Nat} (h:¬(c=32∨c=9)) (h1:¬c=35) (h2:bM (c::r)=none) (h3:bD (r.length+2) (c::r)= .ok r'):dO (m+1) (c::r)=(dO m r').map ((1,(c::r).take (r.length+1 -r'.length))::·):=by
 conv=>lhs;unfold dO
 rw[if_neg h,if_neg h1,h2,h3]
theorem Ef {c:UInt8} {r:List UInt8} {m e:Nat} (h:¬(c=32∨c=9)) (h1:¬c=35) (h2:bM (c::r)=none) (h3:bD (r.length+2) (c::r)= .error e):dO (m+1) (c::r)= .error e:=by
 conv=>lhs;unfold dO
 rw[if_neg h,if_neg h1,h2,h3]
theorem Ag {c:UInt8} {r r':List UInt8} (h1:¬(c=32∨c=9)) (hop:bM (c::r)=none) (hw:bD (r.length+2) (c::r)= .ok r'):
  ∃j,j≤r.length∧r.drop j=r'∧(c::r).take (r.length+1 -r'.length)=c::r.take j∧bM (c::r.take j)=none∧pn (c::r.take j):=by
 have he:fh c=false:=by
  cases e:fh c with
  |false=>rfl
  |true=>exact absurd hop (lq e h1)
 obtain⟨j,hj,hd⟩:=gE hw he
 have hlen:r'.length=r.length -j:=by rw[←hd,List.length_drop]
 have hall:c::r=(c::r.take j)++r':=by rw[List.cons_append,←hd,List.take_append_drop]
 have hlj:(r.take j).length=j:=by rw[List.length_take];omega
 have hw':bD (r.length+2) (c::r.take j)= .ok []:=by
  rw[hall] at hw
  exact mK _ (y:=[]) hw
 refine⟨j,hj,hd,by rw[show r.length+1 -r'.length=j+1 by omega,List.take_succ_cons],qW (t:=r') (by rw[←hall];exact hop),?_⟩
 rw[show r.length+2=(j+2)+(r.length -j) by omega,iV _ _ _ (by simp[hlj])] at hw'
 unfold pn
 rw[List.length_cons,hlj]
 exact hw'
def j7 (k:Kt):Prop:=(k.1=1∧(∃c x,k.2=c::x∧c≠35)∧pn k.2∧bM k.2=none)∨(k∈opsL∧k.1≠0)
theorem ij:∀(n:Nat) (r:List UInt8) (l:List Kt),dO n r= .ok l→∀k∈l,j7 k
 |0,_,_,h=>by cases h
 |n+1,[],l,h=>by cases h;intro t ht;simp at ht
 |n+1,c::r,l,h=>by
  by_cases h1:c=32∨c=9
  ·rw[wP h1] at h;exact ij n r l h
  ·by_cases h2:c=35
   ·rw[Bq h1 h2] at h;exact ij n _ l h
   ·cases hop:bM (c::r) with
    |some o=>
     by_cases h3:o.1=0
     ·rw[Dy h1 h2 hop h3] at h;cases h
     ·rw[rS h1 h2 hop h3] at h
      cases hx:dO n ((c::r).drop o.2.length) with
      |error e=>rw[hx] at h;cases h
      |ok y=>
       rw[hx] at h
       cases h
       intro u hu
       rcases List.mem_cons.1 hu with rfl|hu
       ·exact .inr ⟨(lW hop).1,h3⟩
       ·exact ij n _ y hx u hu
    |none=>
     cases hw:bD (r.length+2) (c::r) with
     |error e=>rw[Ef h1 h2 hop hw] at h;cases h
     |ok r'=>
      rw[vx h1 h2 hop hw] at h
      obtain⟨j,hj,hd,ht,ho,hwt⟩:=Ag h1 hop hw
      cases hx:dO n r' with
      |error e=>rw[hx] at h;cases h
      |ok y=>
       rw[hx] at h
       cases h
       intro u hu
       rcases List.mem_cons.1 hu with rfl|hu
       ·rw[ht];exact .inl ⟨rfl,⟨c,r.take j,rfl,h2⟩,hwt,ho⟩
       ·exact ij n _ y hx u hu
theorem yF:∀o∈opsL,o.1≠0→bM o.2=some o:=by decide
theorem xZ:∀o∈opsL,∃c x,o.2=c::x∧¬(c=32∨c=9)∧¬c=35:=by
 intro o ho
 simp only[opsL,List.mem_cons,List.not_mem_nil,or_false] at ho
 rcases ho with rfl|rfl|rfl|rfl|rfl|rfl|rfl|rfl|rfl|rfl|rfl|rfl|rfl|rfl|rfl|rfl|rfl|rfl<;>exact⟨_,_,rfl,by decide,by decide⟩
theorem wR {k:Kt} {T:List UInt8} (h:j7 k) (hT:Sep T):cP (k.2++T)=(cP T).map (k::·):=by
 obtain⟨kd,tx⟩:=k
 rcases h with⟨h1,⟨c,x,h2,h3⟩,h4,h5⟩|⟨h1,h2⟩
 ·simp only at h1 h2 h4 h5
  subst h1;subst h2
  have he:=pq h4
  have hb:¬(c=32∨c=9):=fun h=>by rcases h with rfl|rfl<;>cases he
  have ho:bM (c::(x++T))=none:=by rw[←List.cons_append,qn hT];exact h5
  have hw:bD ((x++T).length+2) (c::(x++T))= .ok T:=by
   have h6:bD ((x.length+2)+T.length) (c::x)= .ok []:=by
    rw[iV _ _ _ (by simp)]
    exact h4
   have:=mG _ hT.E h6
   rw[List.length_append,show x.length+T.length+2=x.length+2+T.length by omega]
   exact this
  unfold cP
  rw[List.cons_append,List.length_cons,vx hb h3 ho hw]
  rw[show(c::(x++T)).take ((x++T).length+1 -T.length)=c::x by
   rw[List.length_append,show x.length+T.length+1 -T.length=x.length+1 by omega,List.take_succ_cons,List.take_left]]
  rw[jF (by rw[List.length_append];omega)]
  rfl
 ·simp only at h1 h2
  obtain⟨c,x,h3,h4,h5⟩:=xZ _ h1
  simp only at h3
  have ho:=yF _ h1 h2
  simp only at ho
  rw[h3] at ho⊢
  have ho2:bM (c::(x++T))=some (kd,c::x):=by rw[←List.cons_append,qn hT];rw[←h3] at ho⊢;exact ho
  show cP (c::x++T)=_
  unfold cP
  rw[List.cons_append,List.length_cons,rS h4 h5 ho2 h2]
  show Except.map _ (dO _ ((c::(x++T)).drop (x.length+1)))=_
  rw[List.drop_succ_cons,List.drop_left,jF (by rw[List.length_append];omega)]
  rfl
def jy:List Kt→List UInt8
 |[]=>[]
 |[k]=>k.2
 |k::k2::l=>k.2++32::jy (k2::l)
theorem vd {c:UInt8} {r:List UInt8} (h:c=32∨c=9):cP (c::r)=cP r:=by
 unfold cP
 rw[wP h]
 rfl
theorem qt {s:List UInt8} {l:List Kt} (h:cP s= .ok l):∀k∈l,j7 k:=ij _ _ _ h
theorem B0 {t:Tk} (h:Bi t):t.text≠[]:=fun e=>by
 have:=h.2.1
 rw[e] at this
 cases this
theorem sR {s:List UInt8} (hk:s.all okB=true):∀(l:List Tk) (a:Nat),pC s a l→(jy (l.map Tk.kt)).all okB=true
 |[],a,_=>rfl
 |[t],a,h=>by
  obtain⟨_,_,h3,_,_,_⟩:=h
  show t.text.all okB=true
  rw[←h3]
  exact List.all_eq_true.2 (fun x hx=>List.all_eq_true.1 hk x (List.mem_of_mem_drop (List.mem_of_mem_take hx)))
 |t::u::l,a,h=>by
  obtain⟨_,_,h3,_,_,h6⟩:=h
  have ih:=sR hk (u::l) _ h6
  show(t.text++32::jy ((u::l).map Tk.kt)).all okB=true
  rw[List.all_append,List.all_cons,ih,←h3]
  rw[List.all_eq_true.2 (fun x hx=>List.all_eq_true.1 hk x (List.mem_of_mem_drop (List.mem_of_mem_take hx)))]
  rfl
theorem xO {s:List UInt8} {l:List Tk} (h:cI s= .ok l):s.length≤2048∧s.all okB=true:=by
 unfold cI at h
 split at h
 ·cases h
 ·rename_i h1
  split at h
  ·cases h
  ·rename_i h2
   exact⟨by omega,by simpa using h2⟩
end Go.Proofs.YtgigdlhcjahejaaGreatDoor
namespace Go.Proofs.YtgigdlhcjahejaaGreatDoor
open Go Go.RowKit Go.Lw
set_option linter.unusedVariables false
set_option linter.unusedSimpArgs false
theorem oO:∀(n N:Nat) (r:List UInt8) (l:List Tk),dc n N r= .ok l→∀t∈l,t.text.length≤r.length
 |0,_,_,_,h=>by cases h
 |n+1,N,[],l,h=>by cases h;intro t ht;simp at ht
 |n+1,N,c::r,l,h=>by
  have up:∀{r1:List UInt8} {l1:List Tk},dc n N r1= .ok l1→r1.length≤(c::r).length→∀t∈l1,t.text.length≤(c::r).length:=fun h1 h2 t ht=>Nat.le_trans (oO n N _ _ h1 t ht) h2
  by_cases h1:c=32∨c=9
  ·rw[jN h1] at h;exact up h (by simp)
  ·by_cases h2:c=35
   ·rw[lI h1 h2] at h;exact up h (lZ _ _).len
   ·cases hop:bM (c::r) with
    |some o=>
     obtain⟨k,t⟩:=o
     rw[lU h1 h2 hop] at h
     split at h
     ·cases h
     ·cases hx:dc n N ((c::r).drop t.length) with
      |error e=>rw[hx] at h;cases h
      |ok y=>
       rw[hx] at h
       cases h
       intro u hu
       rcases List.mem_cons.1 hu with rfl|hu
       ·exact(j5 hop).2.1
       ·exact up hx (by rw[List.length_drop];omega) u hu
    |none=>
     cases hw:bD (r.length+2) (c::r) with
     |error e=>rw[nX h1 h2 hop hw] at h;cases h
     |ok r'=>
      rw[hU h1 h2 hop hw] at h
      cases hx:dc n N r' with
      |error e=>rw[hx] at h;cases h
      |ok y=>
       rw[hx] at h
       cases h
       intro u hu
       rcases List.mem_cons.1 hu with rfl|hu
       ·show((c::r).take _).length≤_
        rw[List.length_take];omega
       ·exact up hx (gK _ hw).len u hu
theorem Co:∀o∈opsL,o.1≠1:=by decide
end Go.Proofs.YtgigdlhcjahejaaGreatDoor
