/- Of the proof of ParseBreaks: WordP, WordM, PatStr. -/
import Derived.Test.YtgigdlhcjahejaaGreatDoorD05
import Derived.Test.YtgigdlhcjahejaaGreatDoorChecked
import Derived.Test.YtgigdlhcjahejaaGreatDoorD00
namespace Go.Proofs.YtgigdlhcjahejaaGreatDoor
open Go Go.RowKit Go.Lw
set_option linter.unusedVariables false
set_option linter.unusedSimpArgs false
inductive Prt where
 |mk (kind:Int) (text:List UInt8) (orw:List Prt) (quoted:Bool)
namespace Prt
def kind:Prt→Int|mk k _ _ _=>k
def text:Prt→List UInt8|mk _ t _ _=>t
def orw:Prt→List Prt|mk _ _ o _=>o
def quoted:Prt→Bool|mk _ _ _ q=>q
end Prt
def cG (w:List Prt) (p:Prt):List Prt:=match w.getLast? with
 |none=>[p]
 |some l=>if p.kind=1∧l.kind=1∧l.quoted=p.quoted then w.dropLast++[.mk l.kind (l.text++p.text) l.orw l.quoted] else w++[p]
inductive Lv where
 |bare
 |dbl
 |brc
deriving DecidableEq
def Lv.num:Lv→Int
 |bare=>0
 |dbl=>1
 |brc=>2
def Lv.ends:Lv→Option UInt8
 |bare=>none
 |dbl=>some 34
 |brc=>some 125
structure Rst where
 s:List UInt8
 bad:Bool
def bK:List UInt8→List UInt8
 |[]=>[]
 |c::r=>if bJ c true then(c::r.takeWhile (fun c=>bJ c false)).take 32 else[]
def cj:Nat→List UInt8→Option (List UInt8×List UInt8)
 |_,[]=>none
 |o,c::r=>
  if c=40 then(cj (o+1) r).map (fun x=>(c::x.1,x.2))
  else if c=41∧0<o then(cj (o -1) r).map (fun x=>(c::x.1,x.2))
  else if c=41∧r.take 1=[41] then some ([],r.drop 1)
  else(cj o r).map (fun x=>(c::x.1,x.2))
def dP (c:UInt8) (r:List UInt8):List UInt8×List UInt8:=(r.takeWhile (· !=c),(r.dropWhile (· !=c)).drop 1)
def ik (c:UInt8):Bool:=c==36||c==34||c==92||c==96
def dW (lv:Lv) (r:List UInt8):Prt×List UInt8:=
 (.mk 1 (if lv= .dbl∧(r.take 1).all ik=false then 92::r.take 1 else r.take 1) [] true,r.drop 1)
def fA (st:Rst):Rst:=if st.bad then st else if st.s.take 1=[125] then⟨st.s.drop 1,false⟩ else⟨st.s,true⟩
def aN (W:Rst→List Prt×Rst) (q:Bool) (r:List UInt8):Prt×Rst:=
 if r.take 2=[40,40] then
  match cj 0 (r.drop 2) with
  |some x=>(.mk 5 x.1 [] q,⟨x.2,false⟩)
  |none=>(.mk 5 [] [] q,⟨r.drop 2,true⟩)
 else if r.take 1=[123] then
  if bK (r.drop 1)=[] then(.mk 2 [] [] q,⟨r.drop 1,true⟩)
  else if((r.drop 1).drop (bK (r.drop 1)).length).take 2=[58,45] then
   (.mk 3 (bK (r.drop 1)) (W ⟨((r.drop 1).drop (bK (r.drop 1)).length).drop 2,false⟩).1 q,fA (W ⟨((r.drop 1).drop (bK (r.drop 1)).length).drop 2,false⟩).2)
  else(.mk 2 (bK (r.drop 1)) [] q,fA ⟨(r.drop 1).drop (bK (r.drop 1)).length,false⟩)
 else if r.take 1=[63] then(.mk 4 [] [] q,⟨r.drop 1,false⟩)
 else if bK r=[] then(.mk 1 [36] [] q,⟨r,false⟩)
 else(.mk 2 (bK r) [] q,⟨r.drop (bK r).length,false⟩)
def cE (l:List Prt):List Prt:=if l.isEmpty then[.mk 1 [] [] true] else l
def dK (s:List UInt8):List UInt8:=if s.take 1=[34] then s.drop 1 else s
def a6:Nat→Lv→Bool→List Prt→Rst→List Prt×Rst
 |0,_,_,acc,st=>(acc,st)
 |n+1,lv,q,acc,⟨s,bad⟩=>match s with
  |[]=>(acc,⟨s,bad⟩)
  |c::r=>
   if bad=true∨lv.ends=some c then(acc,⟨s,bad⟩)
   else if c=92 then a6 n lv q (cG acc (dW lv r).1) ⟨(dW lv r).2,false⟩
   else if c=36 then a6 n lv q (cG acc (aN (a6 n .brc q []) q r).1) (aN (a6 n .brc q []) q r).2
   else if c=39∧lv≠.dbl then a6 n lv q (cG acc (.mk 1 (dP 39 r).1 [] true)) ⟨(dP 39 r).2,false⟩
   else if c=34∧lv≠.dbl then
    a6 n lv q ((cE (a6 n .dbl true [] ⟨r,false⟩).1).foldl cG acc) ⟨dK (a6 n .dbl true [] ⟨r,false⟩).2.s,(a6 n .dbl true [] ⟨r,false⟩).2.bad⟩
   else a6 n lv q (cG acc (.mk 1 [c] [] q)) ⟨r,false⟩
def gh:Prt→Prt→Bool
 |.mk k t o q,.mk k' t' o' q'=>decide (k=k')&&decide (t=t')&&(q==q')&&sameL o o'
where sameL:List Prt→List Prt→Bool
 |[],[]=>true
 |[],_::_=>false
 |_::_,[]=>false
 |a::l,b::m=>gh a b&&sameL l m
abbrev cg:=gh.sameL
def ga (s:List UInt8):List UInt8:=
 if s.contains 39 then[34]++s.flatMap (fun c=>if ik c then[92,c] else[c])++[34] else[39]++s++[39]
def bE:Prt→List UInt8
 |.mk k t o q=>
  if k=1 then(if q then ga t else t)
  else
   let x:=if k=2 then[36,123]++t++[125] else if k=3 then[36,123]++t++[58,45]++textL o++[125] else if k=4 then[36,63] else if k=5 then[36,40,40]++t++[41,41] else t
   if q then[34]++x++[34] else x
where textL:List Prt→List UInt8
 |[]=>[]
 |p::l=>bE p++textL l
abbrev aA:=bE.textL
theorem gn (lv:Lv) (r:List UInt8):(dW lv r).2.length≤r.length:=by
 show(r.drop 1).length≤_
 rw[List.length_drop];omega
theorem iu (c:UInt8) (r:List UInt8):(dP c r).2.length≤r.length:=by
 show((r.dropWhile (· !=c)).drop 1).length≤_
 have:=dh (· !=c) r
 rw[List.length_drop];omega
theorem pG:∀(r:List UInt8) (o:Nat) {x:List UInt8×List UInt8},cj o r=some x→x.2.length≤r.length
 |[],o,x,h=>by cases h
 |c::r,o,x,h=>by
  have key:∀{o':Nat} {x:List UInt8×List UInt8},(cj o' r).map (fun x=>(c::x.1,x.2))=some x→x.2.length≤(c::r).length:=by
   intro o' x h
   cases hy:cj o' r with
   |none=>rw[hy] at h;cases h
   |some y=>
    rw[hy] at h;cases h
    have:=pG r o' hy
    simp;omega
  unfold cj at h
  split at h
  ·exact key h
  ·split at h
   ·exact key h
   ·split at h
    ·cases h;simp;omega
    ·exact key h
theorem eM (s:List UInt8):(dK s).length≤s.length:=by
 unfold dK
 split
 ·rw[List.length_drop];omega
 ·exact Nat.le_refl _
theorem fl (st:Rst):(fA st).s.length≤st.s.length:=by
 unfold fA
 split
 ·exact Nat.le_refl _
 ·split
  ·show(st.s.drop 1).length≤_
   rw[List.length_drop];omega
  ·exact Nat.le_refl _
theorem fS {W:Rst→List Prt×Rst} {q:Bool} {r:List UInt8} (hW:∀st,st.s.length≤r.length→(W st).2.s.length≤st.s.length):(aN W q r).2.s.length≤r.length:=by
 unfold aN
 split
 ·split
  ·rename_i x h
   have:=pG _ _ h
   show x.2.length≤_
   rw[List.length_drop] at this;omega
  ·show(r.drop 2).length≤_
   rw[List.length_drop];omega
 ·split
  ·split
   ·show(r.drop 1).length≤_
    rw[List.length_drop];omega
   ·split
    ·refine Nat.le_trans (fl _) (Nat.le_trans (hW _ ?_) ?_)<;>(simp only[List.length_drop];omega)
    ·refine Nat.le_trans (fl _) ?_
     simp only[List.length_drop];omega
  ·split
   ·show(r.drop 1).length≤_
    rw[List.length_drop];omega
   ·split
    ·exact Nat.le_refl _
    ·show(r.drop _).length≤_
     rw[List.length_drop];omega
theorem cR:∀(n:Nat) (lv:Lv) (q:Bool) (acc:List Prt) (st:Rst),(a6 n lv q acc st).2.s.length≤st.s.length
 |0,_,_,_,st=>Nat.le_refl _
 |n+1,lv,q,acc,⟨[],bad⟩=>Nat.le_refl _
 |n+1,lv,q,acc,⟨c::r,bad⟩=>by
  unfold a6
  simp only
  split
  ·exact Nat.le_refl _
  ·split
   ·refine Nat.le_trans (cR n _ _ _ _) ?_
    have:=gn lv r
    simp;omega
   ·split
    ·refine Nat.le_trans (cR n _ _ _ _) ?_
     have:=fS (q:=q) (r:=r) (W:=a6 n .brc q []) (fun st _=>cR n _ _ _ st)
     simp;omega
    ·split
     ·refine Nat.le_trans (cR n _ _ _ _) ?_
      have:=iu 39 r
      simp;omega
     ·split
      ·refine Nat.le_trans (cR n _ _ _ _) ?_
       refine Nat.le_trans (eM _) ?_
       have:=cR n .dbl true [] ⟨r,false⟩
       simp at this⊢;omega
      ·refine Nat.le_trans (cR n _ _ _ _) ?_
       simp
theorem oJ {W V:Rst→List Prt×Rst} {q:Bool} {r:List UInt8} (h:∀st,st.s.length≤r.length→W st=V st):aN W q r=aN V q r:=by
 unfold aN
 rw[h ⟨((r.drop 1).drop (bK (r.drop 1)).length).drop 2,false⟩ (by simp only[List.length_drop];omega)]
theorem dY:∀(n:Nat) (lv:Lv) (q:Bool) (acc:List Prt) (st:Rst),st.s.length<n→a6 (n+1) lv q acc st=a6 n lv q acc st
 |0,_,_,_,st,h=>by omega
 |n+1,lv,q,acc,⟨[],bad⟩,h=>rfl
 |n+1,lv,q,acc,⟨c::r,bad⟩,h=>by
  have hr:r.length<n:=by simp at h;omega
  have e1:aN (a6 (n+1) .brc q []) q r=aN (a6 n .brc q []) q r:=oJ fun st hst=>dY n _ _ _ st (by omega)
  have e2:a6 (n+1) .dbl true [] ⟨r,false⟩=a6 n .dbl true [] ⟨r,false⟩:=dY n _ _ _ _ hr
  conv=>lhs;unfold a6
  conv=>rhs;unfold a6
  simp only[e1,e2]
  rw[dY n lv q _ ⟨(dW lv r).2,false⟩ (by have:=gn lv r;simp only;omega),
   dY n lv q _ (aN (a6 n .brc q []) q r).2 (by have:=fS (q:=q) (r:=r) (W:=a6 n .brc q []) (fun st _=>cR n _ _ _ st);omega),
   dY n lv q _ ⟨(dP 39 r).2,false⟩ (by have:=iu 39 r;simp only;omega),
   dY n lv q _ ⟨dK (a6 n .dbl true [] ⟨r,false⟩).2.s,(a6 n .dbl true [] ⟨r,false⟩).2.bad⟩ (by have:=eM (a6 n .dbl true [] ⟨r,false⟩).2.s;have h2:=cR n .dbl true [] ⟨r,false⟩;simp only at h2⊢;omega),
   dY n lv q _ ⟨r,false⟩ hr]
theorem uK (n k:Nat) (lv:Lv) (q:Bool) (acc:List Prt) (st:Rst) (h:st.s.length<n):a6 (n+k) lv q acc st=a6 n lv q acc st:=by
 induction k with
 |zero=>rfl
 |succ k ih=>rw[←Nat.add_assoc,dY (n+k) lv q acc st (by omega),ih]
def aH (lv:Lv) (q:Bool) (acc:List Prt) (st:Rst):List Prt×Rst:=a6 (st.s.length+1) lv q acc st
theorem jP {n:Nat} {lv:Lv} {q:Bool} {acc:List Prt} {st:Rst} (h:st.s.length<n):a6 n lv q acc st=aH lv q acc st:=by
 obtain⟨k,rfl⟩:∃k,n=st.s.length+1+k:=⟨n -(st.s.length+1),by omega⟩
 exact uK _ _ _ _ _ _ (Nat.lt_succ_self _)
theorem jO (lv:Lv) (q:Bool) (acc:List Prt) (st:Rst):(aH lv q acc st).2.s.length≤st.s.length:=cR _ _ _ _ _
theorem yA (lv:Lv) (q:Bool) (acc:List Prt) (b:Bool):aH lv q acc ⟨[],b⟩=(acc,⟨[],b⟩):=rfl
theorem yv (lv:Lv) (q:Bool) (acc:List Prt) (s:List UInt8):aH lv q acc ⟨s,true⟩=(acc,⟨s,true⟩):=by
 cases s with
 |nil=>rfl
 |cons c r=>unfold aH a6;simp
theorem qC {lv:Lv} (q:Bool) (acc:List Prt) {c:UInt8} (r:List UInt8) (b:Bool) (h:lv.ends=some c):aH lv q acc ⟨c::r,b⟩=(acc,⟨c::r,b⟩):=by
 unfold aH a6;simp[h]
theorem Lv.En (lv:Lv):lv.ends≠some 92:=by cases lv<;>decide
theorem Lv.Eu (lv:Lv):lv.ends≠some 36:=by cases lv<;>decide
theorem Lv.Et (lv:Lv):lv.ends≠some 39:=by cases lv<;>decide
theorem Lv.Em {lv:Lv} (h:lv≠.dbl):lv.ends≠some 34:=by cases lv<;>first|decide|exact absurd rfl h
theorem uX (lv:Lv) (q:Bool) (acc:List Prt) (r:List UInt8):aH lv q acc ⟨92::r,false⟩=aH lv q (cG acc (dW lv r).1) ⟨(dW lv r).2,false⟩:=by
 conv=>lhs;unfold aH a6
 simp only[Bool.false_eq_true,false_or,if_neg lv.En,if_true]
 exact jP (by have:=gn lv r;simp;omega)
theorem uR {n:Nat} {q:Bool} {r:List UInt8} (h:r.length<n):aN (a6 n .brc q []) q r=aN (aH .brc q []) q r:=oJ fun st hst=>jP (by omega)
theorem nn (q:Bool) (r:List UInt8):(aN (aH .brc q []) q r).2.s.length≤r.length:=fS fun st _=>jO _ _ _ st
theorem sq (lv:Lv) (q:Bool) (acc:List Prt) (r:List UInt8):aH lv q acc ⟨36::r,false⟩=aH lv q (cG acc (aN (aH .brc q []) q r).1) (aN (aH .brc q []) q r).2:=by
 conv=>lhs;unfold aH a6
 simp only[Bool.false_eq_true,false_or,if_neg lv.Eu,if_true,show¬((36:UInt8)=92) by decide,if_false,List.length_cons]
 rw[uR (Nat.lt_succ_self _)]
 exact jP (by have:=nn q r;omega)
theorem r7 {lv:Lv} (q:Bool) (acc:List Prt) (r:List UInt8) (h:lv≠.dbl):aH lv q acc ⟨39::r,false⟩=aH lv q (cG acc (.mk 1 (dP 39 r).1 [] true)) ⟨(dP 39 r).2,false⟩:=by
 conv=>lhs;unfold aH a6
 simp only[Bool.false_eq_true,false_or,if_neg lv.Et,if_true,show¬((39:UInt8)=92) by decide,show¬((39:UInt8)=36) by decide,if_false,List.length_cons,true_and,if_pos h]
 exact jP (by have:=iu 39 r;simp;omega)
theorem sJ {lv:Lv} (q:Bool) (acc:List Prt) (r:List UInt8) (h:lv≠.dbl):aH lv q acc ⟨34::r,false⟩=aH lv q ((cE (aH .dbl true [] ⟨r,false⟩).1).foldl cG acc) ⟨dK (aH .dbl true [] ⟨r,false⟩).2.s,(aH .dbl true [] ⟨r,false⟩).2.bad⟩:=by
 conv=>lhs;unfold aH a6
 simp only[Bool.false_eq_true,false_or,if_neg (Lv.Em h),if_true,show¬((34:UInt8)=92) by decide,show¬((34:UInt8)=36) by decide,show¬((34:UInt8)=39) by decide,if_false,List.length_cons,true_and,false_and,if_pos h]
 rw[show a6 (r.length+1) .dbl true [] ⟨r,false⟩=aH .dbl true [] ⟨r,false⟩ from rfl]
 exact jP (by have h1:=eM (aH .dbl true [] ⟨r,false⟩).2.s;have h2:=jO .dbl true [] ⟨r,false⟩;simp only at h1 h2⊢;omega)
theorem rH {lv:Lv} (q:Bool) (acc:List Prt) {c:UInt8} (r:List UInt8) (h0:lv.ends≠some c) (h1:c≠92) (h2:c≠36) (h3:¬(c=39∧lv≠.dbl)) (h4:¬(c=34∧lv≠.dbl)):
  aH lv q acc ⟨c::r,false⟩=aH lv q (cG acc (.mk 1 [c] [] q)) ⟨r,false⟩:=by
 conv=>lhs;unfold aH a6
 simp only[Bool.false_eq_true,false_or,if_neg h0,if_neg h1,if_neg h2,if_neg h3,if_neg h4,List.length_cons]
 exact jP (by simp)
def bF (s:List UInt8):Except Nat (List Prt):=match cI s with
 |.error e=>.error e
 |.ok l=>if l.length=1∧l.map Tk.kind=[1]∧l.map Tk.text=[s] then
   (if(aH .bare false [] ⟨s,false⟩).2.bad then .error 5 else .ok (aH .bare false [] ⟨s,false⟩).1)
  else .error 5
def bU (l:List Prt):Nat:=(l.map fun p=>p.text.length).sum
theorem qJ (a b:List Prt):bU (a++b)=bU a+bU b:=by
 unfold bU;rw[List.map_append,List.sum_append]
theorem mP (p:Prt):bU [p]=p.text.length:=by unfold bU;simp
theorem qQ {l:List Prt} {p:Prt} (h:p∈l):p.text.length≤bU l:=by
 induction l with
 |nil=>cases h
 |cons x l ih=>
  have e:bU (x::l)=x.text.length+bU l:=rfl
  rcases List.mem_cons.1 h with rfl|h
  ·omega
  ·have:=ih h;omega
theorem gY (l:List Prt) (p:Prt):(cG l p).length≤l.length+1∧bU (cG l p)=bU l+p.text.length:=by
 rcases List.eq_nil_or_concat l with rfl|⟨l,x,rfl⟩
 ·exact⟨Nat.le_refl _,by show bU [p]=_;rw[mP];show _=0+_;omega⟩
 ·rw[List.concat_eq_append]
  unfold cG
  rw[List.getLast?_append]
  simp only[List.getLast?_singleton,Option.or_some,Option.some_or]
  split
  ·rw[List.dropLast_append_of_ne_nil (by simp)]
   simp only[List.dropLast_singleton,List.append_nil,qJ,mP,List.length_append]
   refine⟨by simp,?_⟩
   show bU l+(x.text++p.text).length=_
   rw[List.length_append];omega
  ·simp only[qJ,mP,List.length_append]
   exact⟨by simp,trivial⟩
theorem mQ:∀(m l:List Prt),(m.foldl cG l).length≤l.length+m.length∧bU (m.foldl cG l)=bU l+bU m
 |[],l=>⟨Nat.le_refl _,rfl⟩
 |p::m,l=>by
  have h:=mQ m (cG l p)
  have h2:=gY l p
  have e:bU (p::m)=p.text.length+bU m:=rfl
  rw[List.foldl_cons,List.length_cons,e]
  omega
theorem ml (l:List Prt):(cE l).length≤l.length+1∧bU (cE l)=bU l:=by
 cases l with
 |nil=>exact⟨Nat.le_refl _,rfl⟩
 |cons p l=>exact⟨by simp[cE],rfl⟩
theorem iS (s:List UInt8):(bK s).length≤s.length:=by
 cases s with
 |nil=>exact Nat.zero_le _
 |cons c r=>
  unfold bK
  simp only
  split
  ·have:=dh (fun c=>bJ c false) r
   rw[List.length_take,List.length_cons,List.length_cons]
   omega
  ·exact Nat.zero_le _
theorem jh:∀(r:List UInt8) (o:Nat) {x:List UInt8×List UInt8},cj o r=some x→x.1.length+x.2.length≤r.length
 |[],o,x,h=>by cases h
 |c::r,o,x,h=>by
  have key:∀{o':Nat} {x:List UInt8×List UInt8},(cj o' r).map (fun x=>(c::x.1,x.2))=some x→x.1.length+x.2.length≤(c::r).length:=by
   intro o' x h
   cases hy:cj o' r with
   |none=>rw[hy] at h;cases h
   |some y=>
    rw[hy] at h;cases h
    have:=jh r o' hy
    simp;omega
  unfold cj at h
  split at h
  ·exact key h
  ·split at h
   ·exact key h
   ·split at h
    ·cases h;simp;omega
    ·exact key h
theorem lO {W:Rst→List Prt×Rst} {q:Bool} {r:List UInt8} (hW:∀st,st.s.length≤r.length→(W st).2.s.length≤st.s.length):(aN W q r).1.text.length+(aN W q r).2.s.length≤r.length+1:=by
 have hn:=iS (r.drop 1)
 have hn2:=iS r
 have hl:=fS (q:=q) hW
 unfold aN at hl⊢
 split
 ·split
  ·rename_i x h
   have:=jh _ _ h
   show x.1.length+x.2.length≤_
   rw[List.length_drop] at this;omega
  ·show 0+(r.drop 2).length≤_
   rw[List.length_drop];omega
 ·rename_i h0
  rw[if_neg h0] at hl
  split
  ·rename_i h1
   rw[if_pos h1] at hl
   rw[List.length_drop] at hn
   split
   ·show 0+(r.drop 1).length≤_
    rw[List.length_drop];omega
   ·split
    ·show(bK (r.drop 1)).length+(fA (W _).2).s.length≤_
     have h3:=fl (W ⟨((r.drop 1).drop (bK (r.drop 1)).length).drop 2,false⟩).2
     have h4:=hW ⟨((r.drop 1).drop (bK (r.drop 1)).length).drop 2,false⟩ (by simp only[List.length_drop];omega)
     simp only[List.length_drop] at h4
     omega
    ·show(bK (r.drop 1)).length+(fA _).s.length≤_
     have h3:=fl ⟨(r.drop 1).drop (bK (r.drop 1)).length,false⟩
     simp only[List.length_drop] at h3
     omega
  ·rename_i h1
   rw[if_neg h1] at hl
   split
   ·show 0+(r.drop 1).length≤_
    rw[List.length_drop];omega
   ·split
    ·show 1+r.length≤_
     omega
    ·show(bK r).length+(r.drop _).length≤_
     rw[List.length_drop];omega
theorem kK (lv:Lv) (r:List UInt8):(dW lv r).1.text.length+(dW lv r).2.length≤r.length+1:=by
 show(if lv= .dbl∧(r.take 1).all ik=false then 92::r.take 1 else r.take 1).length+(r.drop 1).length≤_
 rw[List.length_drop]
 split
 ·rw[List.length_cons,List.length_take];omega
 ·rw[List.length_take];omega
theorem gq (c:UInt8) (r:List UInt8):(dP c r).1.length+(dP c r).2.length≤r.length:=by
 show(r.takeWhile (· !=c)).length+((r.dropWhile (· !=c)).drop 1).length≤_
 have:=dh (· !=c) r
 rw[List.length_drop];omega
theorem iO:∀(n:Nat) (lv:Lv) (q:Bool) (acc:List Prt) (st:Rst),(a6 n lv q acc st).1.length+(a6 n lv q acc st).2.s.length≤acc.length+st.s.length∧bU (a6 n lv q acc st).1+(a6 n lv q acc st).2.s.length≤bU acc+st.s.length
 |0,_,_,_,st=>⟨Nat.le_refl _,Nat.le_refl _⟩
 |n+1,lv,q,acc,⟨[],bad⟩=>⟨Nat.le_refl _,Nat.le_refl _⟩
 |n+1,lv,q,acc,⟨c::r,bad⟩=>by
  unfold a6
  simp only
  have key:∀(p:Prt) (st:Rst),p.text.length+st.s.length≤r.length+1→st.s.length≤r.length→(a6 n lv q (cG acc p) st).1.length+(a6 n lv q (cG acc p) st).2.s.length≤acc.length+(c::r).length∧bU (a6 n lv q (cG acc p) st).1+(a6 n lv q (cG acc p) st).2.s.length≤bU acc+(c::r).length:=by
   intro p st h1 h2
   have h:=iO n lv q (cG acc p) st
   have h3:=gY acc p
   rw[List.length_cons]
   omega
  split
  ·exact⟨Nat.le_refl _,Nat.le_refl _⟩
  ·split
   ·exact key _ _ (kK lv r) (gn lv r)
   ·split
    ·exact key _ _ (lO (fun st _=>cR n _ _ _ st)) (fS (fun st _=>cR n _ _ _ st))
    ·split
     ·exact key _ _ (by have:=gq 39 r;show(dP 39 r).1.length+(dP 39 r).2.length≤_;omega) (iu 39 r)
     ·split
      ·have h1:=iO n .dbl true [] ⟨r,false⟩
       have h2:=eM (a6 n .dbl true [] ⟨r,false⟩).2.s
       have h3:=ml (a6 n .dbl true [] ⟨r,false⟩).1
       have h4:=mQ (cE (a6 n .dbl true [] ⟨r,false⟩).1) acc
       have h5:=iO n lv q ((cE (a6 n .dbl true [] ⟨r,false⟩).1).foldl cG acc) ⟨dK (a6 n .dbl true [] ⟨r,false⟩).2.s,(a6 n .dbl true [] ⟨r,false⟩).2.bad⟩
       have h6:bU ([]:List Prt)=0:=rfl
       rw[List.length_cons]
       simp only[List.length_nil] at h1 h5
       omega
      ·exact key _ _ (by show 1+r.length≤_;omega) (Nat.le_refl _)
theorem vH (lv:Lv) (q:Bool) (acc:List Prt) (st:Rst):(aH lv q acc st).1.length+(aH lv q acc st).2.s.length≤acc.length+st.s.length∧bU (aH lv q acc st).1+(aH lv q acc st).2.s.length≤bU acc+st.s.length:=iO _ _ _ _ _
end Go.Proofs.YtgigdlhcjahejaaGreatDoor
namespace Go.Proofs.YtgigdlhcjahejaaGreatDoor
open Go Go.RowKit Go.Lw
set_option linter.unusedVariables false
set_option linter.unusedSimpArgs false
def PC (x:Prt×Value):List Value:=[.int .i64 x.1.kind,.string (BA x.1.text),x.2,.bool x.1.quoted]
inductive WAt (w:World) (F:Nat→Prop):Value→List Prt→Prop
 |mk (v:Value) (ps:List (Prt×Value)):Rd w 4 v ps.length (ps.flatMap PC)→(∀b,blk v b→F b∧b<w.heap.size)→(∀x∈ps,WAt w F x.2 x.1.orw)→WAt w F v (ps.map Prod.fst)
theorem WAt.open {w:World} {F:Nat→Prop} {v:Value} {l:List Prt} (h:WAt w F v l):
  ∃ps:List (Prt×Value),ps.map Prod.fst=l∧Rd w 4 v ps.length (ps.flatMap PC)∧(∀b,blk v b→F b∧b<w.heap.size)∧∀x∈ps,WAt w F x.2 x.1.orw:=by
 cases h with
 |mk _ ps h1 h2 h3=>exact⟨ps,rfl,h1,h2,h3⟩
theorem WAt.mono {w:World} {F G:Nat→Prop} {v:Value} {l:List Prt} (h:WAt w F v l) (hF:∀b,b<w.heap.size→F b→G b):WAt w G v l:=by
 induction h with
 |mk v ps h1 h2 h3 ih=>exact .mk v ps h1 (fun b hb=>⟨hF b (h2 b hb).2 (h2 b hb).1,(h2 b hb).2⟩) ih
theorem WAt.kept {w w':World} {S F:Nat→Prop} {v:Value} {l:List Prt} (h:WAt w F v l) (k:Kept S w w') (hS:∀b,F b→¬S b):WAt w' F v l:=by
 induction h with
 |mk v ps h1 h2 h3 ih=>exact .mk v ps (h1.kept k (fun b hb=>hS b (h2 b hb).1)) (fun b hb=>⟨(h2 b hb).1,Nat.lt_of_lt_of_le (h2 b hb).2 k.size⟩) ih
theorem WAt.nil (w:World) (F:Nat→Prop):WAt w F (.slice none 0 0) []:= .mk _ [] (Rd.nil w 4) (fun b hb=>by cases hb) (fun x hx=>by cases hx)
theorem WAt.slice {w:World} {F:Nat→Prop} {v:Value} {l:List Prt} (h:WAt w F v l):∃a n c,v= .slice a n c:=by
 obtain⟨ps,_,hr,_⟩:=h.open
 obtain⟨_,a,c,e,_⟩:=hr
 exact⟨a,_,c,e⟩
structure jg (w:World) (F:Nat→Prop) (lo:Nat) (v:Value) (ps:List (Prt×Value)):Prop where
 own:w.ownsRow 0 101 4 v ps.length (ps.flatMap PC)
 blk:∀b,Go.Lw.blk v b→lo≤b∧¬F b
 lt:∀b,F b→b<w.heap.size
 ors:∀x∈ps,WAt w F x.2 x.1.orw
theorem jg.kept {w w':World} {S F:Nat→Prop} {lo:Nat} {v:Value} {ps:List (Prt×Value)} (h:jg w F lo v ps) (k:Kept S w w') (hF:∀b,F b→¬S b) (hv:∀b,Go.Lw.blk v b→¬S b):jg w' F lo v ps:=
 ⟨bg k h.own hv,h.blk,fun b hb=>Nat.lt_of_lt_of_le (h.lt b hb) k.size,fun x hx=>(h.ors x hx).kept k hF⟩
theorem jg.mono {w:World} {F G:Nat→Prop} {lo:Nat} {v:Value} {ps:List (Prt×Value)} (h:jg w F lo v ps) (hF:∀b,F b→G b) (hv:∀b,Go.Lw.blk v b→¬G b) (hG:∀b,G b→b<w.heap.size):jg w G lo v ps:=
 ⟨h.own,fun b hb=>⟨(h.blk b hb).1,hv b hb⟩,hG,fun x hx=>(h.ors x hx).mono (fun b _ hb=>hF b hb)⟩
theorem jg.nil (w:World) (lo:Nat):jg w (fun _=>False) lo (.slice none 0 0) []:=
 ⟨World.ownsRow_nil _ _ _ _,fun b hb=>(by cases hb),fun b hb=>hb.elim,fun x hx=>(by cases hx)⟩
theorem jg.at {w:World} {F:Nat→Prop} {lo:Nat} {v:Value} {ps:List (Prt×Value)} (h:jg w F lo v ps):WAt w (fun b=>F b∨Go.Lw.blk v b) v (ps.map Prod.fst):=
 .mk v ps (Rd.own h.own) (fun b hb=>⟨.inr hb,cZ h.own b hb⟩) (fun x hx=>(h.ors x hx).mono (fun b _ hb=>.inl hb))
theorem xC (ps:List (Prt×Value)):(ps.flatMap PC).length=ps.length*4:=jz PC 4 ps (fun _ _=>rfl)
theorem Ca (qs:List (Prt×Value)) (x:Prt×Value) (j:Nat) (hj:j<4):((qs++[x]).flatMap PC)[qs.length*4+j]? =(PC x)[j]?:=by
 have h:=ju PC 4 (qs++[x]) (fun _ _=>rfl) qs.length (by simp) j hj
 rw[h]
 simp
theorem Dv (qs:List (Prt×Value)) (x y:Prt×Value) (u:Value) (h:(PC x).set 1 u=PC y):((qs++[x]).flatMap PC).set (qs.length*4+1) u=(qs++[y]).flatMap PC:=by
 rw[List.flatMap_append,List.flatMap_append,List.set_append_right _ _ (by rw[xC];omega),xC]
 rw[show qs.length*4+1 -qs.length*4=1 by omega]
 simp only[List.flatMap_cons,List.flatMap_nil,List.append_nil]
 rw[h]
theorem qD (l:List Prt) (x p:Prt):cG (l++[x]) p=if p.kind=1∧x.kind=1∧x.quoted=p.quoted then l++[.mk x.kind (x.text++p.text) x.orw x.quoted] else l++[x]++[p]:=by
 unfold cG
 rw[List.getLast?_append]
 simp
end Go.Proofs.YtgigdlhcjahejaaGreatDoor
namespace Go.Proofs.YtgigdlhcjahejaaGreatDoor
open Go Go.RowKit Go.Lw
set_option maxRecDepth 100000
set_option linter.unusedVariables false
attribute [local go_sem] av
set_option maxHeartbeats 1000000 in
theorem mS (w:World) (l p:List UInt8) (hl:l.length≤4000000000000000000) (hp:p.length≤4000000000000000000) (b:Bool) (hb:(l.take p.length==p)=b):
  Calls Tryz.prog 73 #[.string (BA l),.string (BA p)] w fun e w'=>e= .returned (.bool b)∧w=w':=by
 have h1:=ai l;have h2:=ai p
 have h3:=gN l p.length
 have HB:=jd hb
 obtain⟨n,hn⟩:∃n,l.length=n:=⟨_,rfl⟩
 obtain⟨m,hm⟩:∃m,p.length=m:=⟨_,rfl⟩
 have HN:=jd hn;have HM:=jd hm
 rw[hn] at h1 hl
 rw[hm] at h2 h3 hp
 clear hb hn hm
 by_cases hnm:m≤n
 ·go_enter Tryz.func73,Tryz.ntmps73
  go_wp2_with fail
  go_ret
  have h:=HB.o
  rw[HM.o] at h
  rw[h]
  exact⟨rfl,rfl⟩
 ·have hf:Hid (b=false):=jd (by
   rw[←HB.o]
   apply beq_eq_false_iff_ne.2
   intro h
   have:=congrArg List.length h
   rw[List.length_take,HM.o,HN.o] at this
   omega)
  go_enter Tryz.func73,Tryz.ntmps73
  go_wp2_with fail
  go_ret
  rw[hf.out]
  exact⟨rfl,rfl⟩
theorem lF (w:World) (l p:List UInt8) (hl:l.length≤4000000000000000000) (hp:p.length≤4000000000000000000) (b:Bool) (hb:(l.take p.length==p)=b):
  Calls Tryz.prog 47 #[.string (BA l),.string (BA p)] w fun e w'=>e= .returned (.bool b)∧w=w':=by
 have HB:=jd hb
 clear hb
 go_enter Tryz.func47,Tryz.ntmps47
 go_wp2_with fail
 refine(mS w l p hl hp b HB.o).mono ?_
 rintro e _ ⟨rfl,rfl⟩
 go_wp2_with fail
 go_ret
 exact⟨rfl,rfl⟩
def mX (l p:List UInt8):List UInt8×Bool:=if(l.take p.length==p)=true then(l.drop p.length,true) else(l,false)
theorem yB (w:World) (l p:List UInt8) (hl:l.length≤4000000000000000000) (hp:p.length≤4000000000000000000):
  Calls Tryz.prog 119 #[.string (BA l),.string (BA p)] w fun e w'=>e= .returned (.tuple #[.string (BA (mX l p).1),.bool (mX l p).2])∧w=w':=by
 have h1:=ai l;have h2:=ai p
 have h3:=eJ l p.length l.length rfl
 obtain⟨b,hb⟩:∃b,(l.take p.length==p)=b:=⟨_,rfl⟩
 have HB:=jd hb
 have hle:b=true→p.length≤l.length:=fun h=>by
  rw[h] at hb
  have:=congrArg List.length (eq_of_beq hb)
  rw[List.length_take] at this;omega
 clear hb
 cases b with
 |true=>
  have hc:Hid (mX l p=(l.drop p.length,true)):=jd (if_pos HB.o)
  have hle':=hle rfl
  have HP:=jd (mS w l p hl hp true HB.o)
  clear hle
  go_enter Tryz.func119,Tryz.ntmps119
  go_wp2_with fail
  refine HP.o.mono ?_
  rintro e _ ⟨rfl,rfl⟩
  go_wp2_with fail
  go_ret2
  rw[hc.out]
  exact⟨rfl,rfl⟩
 |false=>
  have hc:Hid (mX l p=(l,false)):=jd (if_neg (by rw[HB.o];simp))
  have HP:=jd (mS w l p hl hp false HB.o)
  clear hle
  go_enter Tryz.func119,Tryz.ntmps119
  go_wp2_with fail
  refine HP.o.mono ?_
  rintro e _ ⟨rfl,rfl⟩
  go_wp2_with fail
  go_ret2
  rw[hc.out]
  exact⟨rfl,rfl⟩
theorem tm (w:World) (l p:List UInt8) (hl:l.length≤4000000000000000000) (hp:p.length≤4000000000000000000):
  Calls Tryz.prog 116 #[.string (BA l),.string (BA p)] w fun e w'=>e= .returned (.tuple #[.string (BA (mX l p).1),.bool (mX l p).2])∧w=w':=by
 go_enter Tryz.func116,Tryz.ntmps116
 go_wp2_with fail
 refine(yB w l p hl hp).mono ?_
 rintro e _ ⟨rfl,rfl⟩
 go_wp2_with fail
 go_ret2
 exact⟨rfl,rfl⟩
end Go.Proofs.YtgigdlhcjahejaaGreatDoor
