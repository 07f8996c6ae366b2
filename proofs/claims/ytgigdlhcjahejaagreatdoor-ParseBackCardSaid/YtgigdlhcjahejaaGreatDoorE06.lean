/- Of the proof of ParseBack: WordP, WordM, PatStr. -/
import Derived.Test.YtgigdlhcjahejaaGreatDoorE05
import Derived.Test.YtgigdlhcjahejaaGreatDoorChecked
import Derived.Test.YtgigdlhcjahejaaGreatDoorE00
namespace Go.Proofs.YtgigdlhcjahejaaGreatDoor
open Go Go.RowKit Go.Lw
set_option linter.unusedVariables false
set_option linter.unusedSimpArgs false
inductive Prt where
 |mk (kind:Int) (text:LB) (orw:List Prt) (quoted:Bool)
abbrev LP:=List Prt
namespace Prt
def kind:Prt→Int|mk k _ _ _=>k
def text:Prt→LB|mk _ t _ _=>t
def orw:Prt→LP|mk _ _ o _=>o
def quoted:Prt→Bool|mk _ _ _ q=>q
end Prt
def cO (w:LP) (p:Prt):LP:=match w.getLast? with
 |none=>[p]
 |some l=>if p.kind=1∧l.kind=1∧l.quoted=p.quoted then w.dropLast++[.mk l.kind (l.text++p.text) l.orw l.quoted] else w++[p]
inductive Lv where
 |bare
 |dbl
 |brc
deriving DecidableEq
def Lv.num:Lv→Int
 |bare=>0
 |dbl=>1
 |brc=>2
def Lv.ends:Lv→Option UInt8
 |bare=>none
 |dbl=>some 34
 |brc=>some 125
structure Rst where
 s:LB
 bad:Bool
def bT:LB→LB
 |[]=>[]
 |c::r=>if aY c true then(c::r.takeWhile (fun c=>aY c false)).take 32 else[]
def cx:Nat→LB→Option (LB×LB)
 |_,[]=>none
 |o,c::r=>
  if c=40 then(cx (o+1) r).map (fun x=>(c::x.1,x.2))
  else if c=41∧0<o then(cx (o -1) r).map (fun x=>(c::x.1,x.2))
  else if c=41∧r.take 1=[41] then some ([],r.drop 1)
  else(cx o r).map (fun x=>(c::x.1,x.2))
def dO (c:UInt8) (r:LB):LB×LB:=(r.takeWhile (· !=c),(r.dropWhile (· !=c)).drop 1)
def iT (c:UInt8):Bool:=c==36||c==34||c==92||c==96
def ew (lv:Lv) (r:LB):Prt×LB:=
 (.mk 1 (if lv= .dbl∧(r.take 1).all iT=false then 92::r.take 1 else r.take 1) [] true,r.drop 1)
def fV (st:Rst):Rst:=if st.bad then st else if st.s.take 1=[125] then⟨st.s.drop 1,false⟩ else⟨st.s,true⟩
def aN (W:Rst→LP×Rst) (q:Bool) (r:LB):Prt×Rst:=
 if r.take 2=[40,40] then
  match cx 0 (r.drop 2) with
  |some x=>(.mk 5 x.1 [] q,⟨x.2,false⟩)
  |none=>(.mk 5 [] [] q,⟨r.drop 2,true⟩)
 else if r.take 1=[123] then
  if bT (r.drop 1)=[] then(.mk 2 [] [] q,⟨r.drop 1,true⟩)
  else if((r.drop 1).drop (bT (r.drop 1)).length).take 2=[58,45] then
   (.mk 3 (bT (r.drop 1)) (W ⟨((r.drop 1).drop (bT (r.drop 1)).length).drop 2,false⟩).1 q,fV (W ⟨((r.drop 1).drop (bT (r.drop 1)).length).drop 2,false⟩).2)
  else(.mk 2 (bT (r.drop 1)) [] q,fV ⟨(r.drop 1).drop (bT (r.drop 1)).length,false⟩)
 else if r.take 1=[63] then(.mk 4 [] [] q,⟨r.drop 1,false⟩)
 else if bT r=[] then(.mk 1 [36] [] q,⟨r,false⟩)
 else(.mk 2 (bT r) [] q,⟨r.drop (bT r).length,false⟩)
def cL (l:LP):LP:=if l.isEmpty then[.mk 1 [] [] true] else l
def eh (s:LB):LB:=if s.take 1=[34] then s.drop 1 else s
def a8:Nat→Lv→Bool→LP→Rst→LP×Rst
 |0,_,_,acc,st=>(acc,st)
 |n+1,lv,q,acc,⟨s,bad⟩=>match s with
  |[]=>(acc,⟨s,bad⟩)
  |c::r=>
   if bad=true∨lv.ends=some c then(acc,⟨s,bad⟩)
   else if c=92 then a8 n lv q (cO acc (ew lv r).1) ⟨(ew lv r).2,false⟩
   else if c=36 then a8 n lv q (cO acc (aN (a8 n .brc q []) q r).1) (aN (a8 n .brc q []) q r).2
   else if c=39∧lv≠.dbl then a8 n lv q (cO acc (.mk 1 (dO 39 r).1 [] true)) ⟨(dO 39 r).2,false⟩
   else if c=34∧lv≠.dbl then
    a8 n lv q ((cL (a8 n .dbl true [] ⟨r,false⟩).1).foldl cO acc) ⟨eh (a8 n .dbl true [] ⟨r,false⟩).2.s,(a8 n .dbl true [] ⟨r,false⟩).2.bad⟩
   else a8 n lv q (cO acc (.mk 1 [c] [] q)) ⟨r,false⟩
def gT:Prt→Prt→Bool
 |.mk k t o q,.mk k' t' o' q'=>decide (k=k')&&decide (t=t')&&(q==q')&&sameL o o'
where sameL:LP→LP→Bool
 |[],[]=>true
 |[],_::_=>false
 |_::_,[]=>false
 |a::l,b::m=>gT a b&&sameL l m
abbrev ct:=gT.sameL
def gS (s:LB):LB:=
 if s.contains 39 then[34]++s.flatMap (fun c=>if iT c then[92,c] else[c])++[34] else[39]++s++[39]
def bu:Prt→LB
 |.mk k t o q=>
  if k=1 then(if q then gS t else t)
  else
   let x:=if k=2 then[36,123]++t++[125] else if k=3 then[36,123]++t++[58,45]++textL o++[125] else if k=4 then[36,63] else if k=5 then[36,40,40]++t++[41,41] else t
   if q then[34]++x++[34] else x
where textL:LP→LB
 |[]=>[]
 |p::l=>bu p++textL l
abbrev af:=bu.textL
theorem gZ (lv:Lv) (r:LB):(ew lv r).2.length≤r.length:=by
 show(r.drop 1).length≤_
 rw[List.length_drop];omega
theorem jn (c:UInt8) (r:LB):(dO c r).2.length≤r.length:=by
 show((r.dropWhile (· !=c)).drop 1).length≤_
 have:=dV (· !=c) r
 rw[List.length_drop];omega
theorem rf:∀(r:LB) (o:Nat) {x:LB×LB},cx o r=some x→x.2.length≤r.length
 |[],o,x,h=>by cases h
 |c::r,o,x,h=>by
  have key:∀{o':Nat} {x:LB×LB},(cx o' r).map (fun x=>(c::x.1,x.2))=some x→x.2.length≤(c::r).length:=by
   intro o' x h
   cases hy:cx o' r with
   |none=>rw[hy] at h;cases h
   |some y=>
    rw[hy] at h;cases h
    have:=rf r o' hy
    simp;omega
  unfold cx at h
  split at h
  ·exact key h
  ·split at h
   ·exact key h
   ·split at h
    ·cases h;simp;omega
    ·exact key h
theorem fu (s:LB):(eh s).length≤s.length:=by
 unfold eh
 split
 ·rw[List.length_drop];omega
 ·exact Jb _
theorem gq (st:Rst):(fV st).s.length≤st.s.length:=by
 unfold fV
 split
 ·exact Jb _
 ·split
  ·show(st.s.drop 1).length≤_
   rw[List.length_drop];omega
  ·exact Jb _
theorem gN {W:Rst→LP×Rst} {q:Bool} {r:LB} (hW:∀st,st.s.length≤r.length→(W st).2.s.length≤st.s.length):(aN W q r).2.s.length≤r.length:=by
 unfold aN
 split
 ·split
  ·rename_i x h
   have:=rf _ _ h
   show x.2.length≤_
   rw[List.length_drop] at this;omega
  ·show(r.drop 2).length≤_
   rw[List.length_drop];omega
 ·split
  ·split
   ·show(r.drop 1).length≤_
    rw[List.length_drop];omega
   ·split
    ·refine lt9 (gq _) (lt9 (hW _ ?_) ?_)<;>(simp only[List.length_drop];omega)
    ·refine lt9 (gq _) ?_
     simp only[List.length_drop];omega
  ·split
   ·show(r.drop 1).length≤_
    rw[List.length_drop];omega
   ·split
    ·exact Jb _
    ·show(r.drop _).length≤_
     rw[List.length_drop];omega
theorem dc:∀(n:Nat) (lv:Lv) (q:Bool) (acc:LP) (st:Rst),(a8 n lv q acc st).2.s.length≤st.s.length
 |0,_,_,_,st=>Jb _
 |n+1,lv,q,acc,⟨[],bad⟩=>Jb _
 |n+1,lv,q,acc,⟨c::r,bad⟩=>by
  unfold a8
  simp only
  split
  ·exact Jb _
  ·split
   ·refine lt9 (dc n _ _ _ _) ?_
    have:=gZ lv r
    simp;omega
   ·split
    ·refine lt9 (dc n _ _ _ _) ?_
     have:=gN (q:=q) (r:=r) (W:=a8 n .brc q []) (fun st _=>dc n _ _ _ st)
     simp;omega
    ·split
     ·refine lt9 (dc n _ _ _ _) ?_
      have:=jn 39 r
      simp;omega
     ·split
      ·refine lt9 (dc n _ _ _ _) ?_
       refine lt9 (fu _) ?_
       have:=dc n .dbl true [] ⟨r,false⟩
       simp at this⊢;omega
      ·refine lt9 (dc n _ _ _ _) ?_
       simp
theorem pY {W V:Rst→LP×Rst} {q:Bool} {r:LB} (h:∀st,st.s.length≤r.length→W st=V st):aN W q r=aN V q r:=by
 unfold aN
 rw[h ⟨((r.drop 1).drop (bT (r.drop 1)).length).drop 2,false⟩ (by simp only[List.length_drop];omega)]
theorem eo:∀(n:Nat) (lv:Lv) (q:Bool) (acc:LP) (st:Rst),st.s.length<n→a8 (n+1) lv q acc st=a8 n lv q acc st
 |0,_,_,_,st,h=>by omega
 |n+1,lv,q,acc,⟨[],bad⟩,h=>rfl
 |n+1,lv,q,acc,⟨c::r,bad⟩,h=>by
  have hr:r.length<n:=by simp at h;omega
  have e1:aN (a8 (n+1) .brc q []) q r=aN (a8 n .brc q []) q r:=pY fun st hst=>eo n _ _ _ st (by omega)
  have e2:a8 (n+1) .dbl true [] ⟨r,false⟩=a8 n .dbl true [] ⟨r,false⟩:=eo n _ _ _ _ hr
  conv=>lhs;unfold a8
  conv=>rhs;unfold a8
  simp only[e1,e2]
  rw[eo n lv q _ ⟨(ew lv r).2,false⟩ (by have:=gZ lv r;simp only;omega),
   eo n lv q _ (aN (a8 n .brc q []) q r).2 (by have:=gN (q:=q) (r:=r) (W:=a8 n .brc q []) (fun st _=>dc n _ _ _ st);omega),
   eo n lv q _ ⟨(dO 39 r).2,false⟩ (by have:=jn 39 r;simp only;omega),
   eo n lv q _ ⟨eh (a8 n .dbl true [] ⟨r,false⟩).2.s,(a8 n .dbl true [] ⟨r,false⟩).2.bad⟩ (by have:=fu (a8 n .dbl true [] ⟨r,false⟩).2.s;have h2:=dc n .dbl true [] ⟨r,false⟩;simp only at h2⊢;omega),
   eo n lv q _ ⟨r,false⟩ hr]
theorem xR (n k:Nat) (lv:Lv) (q:Bool) (acc:LP) (st:Rst) (h:st.s.length<n):a8 (n+k) lv q acc st=a8 n lv q acc st:=by
 induction k with
 |zero=>rfl
 |succ k ih=>rw[←Nat.add_assoc,eo (n+k) lv q acc st (by omega),ih]
def aH (lv:Lv) (q:Bool) (acc:LP) (st:Rst):LP×Rst:=a8 (st.s.length+1) lv q acc st
theorem kP {n:Nat} {lv:Lv} {q:Bool} {acc:LP} {st:Rst} (h:st.s.length<n):a8 n lv q acc st=aH lv q acc st:=by
 obtain⟨k,rfl⟩:∃k,n=st.s.length+1+k:=⟨n -(st.s.length+1),by omega⟩
 exact xR _ _ _ _ _ _ (Nat.lt_succ_self _)
theorem lz (lv:Lv) (q:Bool) (acc:LP) (st:Rst):(aH lv q acc st).2.s.length≤st.s.length:=dc _ _ _ _ _
theorem AF (lv:Lv) (q:Bool) (acc:LP) (b:Bool):aH lv q acc ⟨[],b⟩=(acc,⟨[],b⟩):=rfl
theorem z7 (lv:Lv) (q:Bool) (acc:LP) (s:LB):aH lv q acc ⟨s,true⟩=(acc,⟨s,true⟩):=by
 cases s with
 |nil=>rfl
 |cons c r=>unfold aH a8;simp
theorem sD {lv:Lv} (q:Bool) (acc:LP) {c:UInt8} (r:LB) (b:Bool) (h:lv.ends=some c):aH lv q acc ⟨c::r,b⟩=(acc,⟨c::r,b⟩):=by
 unfold aH a8;simp[h]
theorem Lv.Gq (lv:Lv):lv.ends≠some 92:=by cases lv<;>decide
theorem Lv.Gv (lv:Lv):lv.ends≠some 36:=by cases lv<;>decide
theorem Lv.Gn (lv:Lv):lv.ends≠some 39:=by cases lv<;>decide
theorem Lv.Gr {lv:Lv} (h:lv≠.dbl):lv.ends≠some 34:=by cases lv<;>first|decide|exact absurd rfl h
theorem xQ (lv:Lv) (q:Bool) (acc:LP) (r:LB):aH lv q acc ⟨92::r,false⟩=aH lv q (cO acc (ew lv r).1) ⟨(ew lv r).2,false⟩:=by
 conv=>lhs;unfold aH a8
 simp only[Bool.false_eq_true,false_or,if_neg lv.Gq,if_true]
 exact kP (by have:=gZ lv r;simp;omega)
theorem xV {n:Nat} {q:Bool} {r:LB} (h:r.length<n):aN (a8 n .brc q []) q r=aN (aH .brc q []) q r:=pY fun st hst=>kP (by omega)
theorem oQ (q:Bool) (r:LB):(aN (aH .brc q []) q r).2.s.length≤r.length:=gN fun st _=>lz _ _ _ st
theorem tR (lv:Lv) (q:Bool) (acc:LP) (r:LB):aH lv q acc ⟨36::r,false⟩=aH lv q (cO acc (aN (aH .brc q []) q r).1) (aN (aH .brc q []) q r).2:=by
 conv=>lhs;unfold aH a8
 simp only[Bool.false_eq_true,false_or,if_neg lv.Gv,if_true,show¬((36:UInt8)=92) by decide,if_false,Jg]
 rw[xV (Nat.lt_succ_self _)]
 exact kP (by have:=oQ q r;omega)
theorem tW {lv:Lv} (q:Bool) (acc:LP) (r:LB) (h:lv≠.dbl):aH lv q acc ⟨39::r,false⟩=aH lv q (cO acc (.mk 1 (dO 39 r).1 [] true)) ⟨(dO 39 r).2,false⟩:=by
 conv=>lhs;unfold aH a8
 simp only[Bool.false_eq_true,false_or,if_neg lv.Gn,if_true,show¬((39:UInt8)=92) by decide,show¬((39:UInt8)=36) by decide,if_false,Jg,true_and,if_pos h]
 exact kP (by have:=jn 39 r;simp;omega)
theorem tG {lv:Lv} (q:Bool) (acc:LP) (r:LB) (h:lv≠.dbl):aH lv q acc ⟨34::r,false⟩=aH lv q ((cL (aH .dbl true [] ⟨r,false⟩).1).foldl cO acc) ⟨eh (aH .dbl true [] ⟨r,false⟩).2.s,(aH .dbl true [] ⟨r,false⟩).2.bad⟩:=by
 conv=>lhs;unfold aH a8
 simp only[Bool.false_eq_true,false_or,if_neg (Lv.Gr h),if_true,show¬((34:UInt8)=92) by decide,show¬((34:UInt8)=36) by decide,show¬((34:UInt8)=39) by decide,if_false,Jg,true_and,false_and,if_pos h]
 rw[show a8 (r.length+1) .dbl true [] ⟨r,false⟩=aH .dbl true [] ⟨r,false⟩ from rfl]
 exact kP (by have h1:=fu (aH .dbl true [] ⟨r,false⟩).2.s;have h2:=lz .dbl true [] ⟨r,false⟩;simp only at h1 h2⊢;omega)
theorem sB {lv:Lv} (q:Bool) (acc:LP) {c:UInt8} (r:LB) (h0:lv.ends≠some c) (h1:c≠92) (h2:c≠36) (h3:¬(c=39∧lv≠.dbl)) (h4:¬(c=34∧lv≠.dbl)):
  aH lv q acc ⟨c::r,false⟩=aH lv q (cO acc (.mk 1 [c] [] q)) ⟨r,false⟩:=by
 conv=>lhs;unfold aH a8
 simp only[Bool.false_eq_true,false_or,if_neg h0,if_neg h1,if_neg h2,if_neg h3,if_neg h4,Jg]
 exact kP (by simp)
def bs (s:LB):Except Nat LP:=match dG s with
 |.error e=>.error e
 |.ok l=>if l.length=1∧l.map Tk.kind=[1]∧l.map Tk.text=[s] then
   (if(aH .bare false [] ⟨s,false⟩).2.bad then .error 5 else .ok (aH .bare false [] ⟨s,false⟩).1)
  else .error 5
def b8 (l:LP):Nat:=(l.map fun p=>p.text.length).sum
theorem sf (a b:LP):b8 (a++b)=b8 a+b8 b:=by
 unfold b8;rw[List.map_append,List.sum_append]
theorem n8 (p:Prt):b8 [p]=p.text.length:=by unfold b8;simp
theorem sw {l:LP} {p:Prt} (h:p∈l):p.text.length≤b8 l:=by
 induction l with
 |nil=>cases h
 |cons x l ih=>
  have e:b8 (x::l)=x.text.length+b8 l:=rfl
  rcases Jl.1 h with rfl|h
  ·omega
  ·have:=ih h;omega
theorem js (l:LP) (p:Prt):(cO l p).length≤l.length+1∧b8 (cO l p)=b8 l+p.text.length:=by
 rcases List.eq_nil_or_concat l with rfl|⟨l,x,rfl⟩
 ·exact⟨Jb _,by show b8 [p]=_;rw[n8];show _=0+_;omega⟩
 ·rw[List.concat_eq_append]
  unfold cO
  rw[List.getLast?_append]
  simp only[List.getLast?_singleton,Option.or_some,Option.some_or]
  split
  ·rw[List.dropLast_append_of_ne_nil (by simp)]
   simp only[List.dropLast_singleton,List.append_nil,sf,n8,Jf]
   refine⟨by simp,?_⟩
   show b8 l+(x.text++p.text).length=_
   rw[Jf];omega
  ·simp only[sf,n8,Jf]
   exact⟨by simp,trivial⟩
theorem ou:∀(m l:LP),(m.foldl cO l).length≤l.length+m.length∧b8 (m.foldl cO l)=b8 l+b8 m
 |[],l=>⟨Jb _,rfl⟩
 |p::m,l=>by
  have h:=ou m (cO l p)
  have h2:=js l p
  have e:b8 (p::m)=p.text.length+b8 m:=rfl
  rw[List.foldl_cons,Jg,e]
  omega
theorem nJ (l:LP):(cL l).length≤l.length+1∧b8 (cL l)=b8 l:=by
 cases l with
 |nil=>exact⟨Jb _,rfl⟩
 |cons p l=>exact⟨by simp[cL],rfl⟩
theorem jG (s:LB):(bT s).length≤s.length:=by
 cases s with
 |nil=>exact Nat.zero_le _
 |cons c r=>
  unfold bT
  simp only
  split
  ·have:=dV (fun c=>aY c false) r
   rw[List.length_take,Jg,Jg]
   omega
  ·exact Nat.zero_le _
theorem kJ:∀(r:LB) (o:Nat) {x:LB×LB},cx o r=some x→x.1.length+x.2.length≤r.length
 |[],o,x,h=>by cases h
 |c::r,o,x,h=>by
  have key:∀{o':Nat} {x:LB×LB},(cx o' r).map (fun x=>(c::x.1,x.2))=some x→x.1.length+x.2.length≤(c::r).length:=by
   intro o' x h
   cases hy:cx o' r with
   |none=>rw[hy] at h;cases h
   |some y=>
    rw[hy] at h;cases h
    have:=kJ r o' hy
    simp;omega
  unfold cx at h
  split at h
  ·exact key h
  ·split at h
   ·exact key h
   ·split at h
    ·cases h;simp;omega
    ·exact key h
theorem na {W:Rst→LP×Rst} {q:Bool} {r:LB} (hW:∀st,st.s.length≤r.length→(W st).2.s.length≤st.s.length):(aN W q r).1.text.length+(aN W q r).2.s.length≤r.length+1:=by
 have hn:=jG (r.drop 1)
 have hn2:=jG r
 have hl:=gN (q:=q) hW
 unfold aN at hl⊢
 split
 ·split
  ·rename_i x h
   have:=kJ _ _ h
   show x.1.length+x.2.length≤_
   rw[List.length_drop] at this;omega
  ·show 0+(r.drop 2).length≤_
   rw[List.length_drop];omega
 ·rename_i h0
  rw[if_neg h0] at hl
  split
  ·rename_i h1
   rw[if_pos h1] at hl
   rw[List.length_drop] at hn
   split
   ·show 0+(r.drop 1).length≤_
    rw[List.length_drop];omega
   ·split
    ·show(bT (r.drop 1)).length+(fV (W _).2).s.length≤_
     have h3:=gq (W ⟨((r.drop 1).drop (bT (r.drop 1)).length).drop 2,false⟩).2
     have h4:=hW ⟨((r.drop 1).drop (bT (r.drop 1)).length).drop 2,false⟩ (by simp only[List.length_drop];omega)
     simp only[List.length_drop] at h4
     omega
    ·show(bT (r.drop 1)).length+(fV _).s.length≤_
     have h3:=gq ⟨(r.drop 1).drop (bT (r.drop 1)).length,false⟩
     simp only[List.length_drop] at h3
     omega
  ·rename_i h1
   rw[if_neg h1] at hl
   split
   ·show 0+(r.drop 1).length≤_
    rw[List.length_drop];omega
   ·split
    ·show 1+r.length≤_
     omega
    ·show(bT r).length+(r.drop _).length≤_
     rw[List.length_drop];omega
theorem mA (lv:Lv) (r:LB):(ew lv r).1.text.length+(ew lv r).2.length≤r.length+1:=by
 show(if lv= .dbl∧(r.take 1).all iT=false then 92::r.take 1 else r.take 1).length+(r.drop 1).length≤_
 rw[List.length_drop]
 split
 ·rw[Jg,List.length_take];omega
 ·rw[List.length_take];omega
theorem hH (c:UInt8) (r:LB):(dO c r).1.length+(dO c r).2.length≤r.length:=by
 show(r.takeWhile (· !=c)).length+((r.dropWhile (· !=c)).drop 1).length≤_
 have:=dV (· !=c) r
 rw[List.length_drop];omega
theorem jw:∀(n:Nat) (lv:Lv) (q:Bool) (acc:LP) (st:Rst),(a8 n lv q acc st).1.length+(a8 n lv q acc st).2.s.length≤acc.length+st.s.length∧b8 (a8 n lv q acc st).1+(a8 n lv q acc st).2.s.length≤b8 acc+st.s.length
 |0,_,_,_,st=>⟨Jb _,Jb _⟩
 |n+1,lv,q,acc,⟨[],bad⟩=>⟨Jb _,Jb _⟩
 |n+1,lv,q,acc,⟨c::r,bad⟩=>by
  unfold a8
  simp only
  have key:∀(p:Prt) (st:Rst),p.text.length+st.s.length≤r.length+1→st.s.length≤r.length→(a8 n lv q (cO acc p) st).1.length+(a8 n lv q (cO acc p) st).2.s.length≤acc.length+(c::r).length∧b8 (a8 n lv q (cO acc p) st).1+(a8 n lv q (cO acc p) st).2.s.length≤b8 acc+(c::r).length:=by
   intro p st h1 h2
   have h:=jw n lv q (cO acc p) st
   have h3:=js acc p
   rw[Jg]
   omega
  split
  ·exact⟨Jb _,Jb _⟩
  ·split
   ·exact key _ _ (mA lv r) (gZ lv r)
   ·split
    ·exact key _ _ (na (fun st _=>dc n _ _ _ st)) (gN (fun st _=>dc n _ _ _ st))
    ·split
     ·exact key _ _ (by have:=hH 39 r;show(dO 39 r).1.length+(dO 39 r).2.length≤_;omega) (jn 39 r)
     ·split
      ·have h1:=jw n .dbl true [] ⟨r,false⟩
       have h2:=fu (a8 n .dbl true [] ⟨r,false⟩).2.s
       have h3:=nJ (a8 n .dbl true [] ⟨r,false⟩).1
       have h4:=ou (cL (a8 n .dbl true [] ⟨r,false⟩).1) acc
       have h5:=jw n lv q ((cL (a8 n .dbl true [] ⟨r,false⟩).1).foldl cO acc) ⟨eh (a8 n .dbl true [] ⟨r,false⟩).2.s,(a8 n .dbl true [] ⟨r,false⟩).2.bad⟩
       have h6:b8 ([]:LP)=0:=rfl
       rw[Jg]
       simp only[List.length_nil] at h1 h5
       omega
      ·exact key _ _ (by show 1+r.length≤_;omega) (Jb _)
theorem ye (lv:Lv) (q:Bool) (acc:LP) (st:Rst):(aH lv q acc st).1.length+(aH lv q acc st).2.s.length≤acc.length+st.s.length∧b8 (aH lv q acc st).1+(aH lv q acc st).2.s.length≤b8 acc+st.s.length:=jw _ _ _ _ _
def PC (x:Prt×Value):List Value:=[.int .i64 x.1.kind,.string (BA x.1.text),x.2,.bool x.1.quoted]
inductive WAt (w:World) (F:Nat→Prop):Value→LP→Prop
 |mk (v:Value) (ps:List (Prt×Value)):Rd w 4 v ps.length (ps.flatMap PC)→(∀b,blk v b→F b∧b<w.heap.size)→(∀x∈ps,WAt w F x.2 x.1.orw)→WAt w F v (ps.map Prod.fst)
theorem WAt.open {w:World} {F:Nat→Prop} {v:Value} {l:LP} (h:WAt w F v l):
  ∃ps:List (Prt×Value),ps.map Prod.fst=l∧Rd w 4 v ps.length (ps.flatMap PC)∧(∀b,blk v b→F b∧b<w.heap.size)∧∀x∈ps,WAt w F x.2 x.1.orw:=by
 cases h with
 |mk _ ps h1 h2 h3=>exact⟨ps,rfl,h1,h2,h3⟩
theorem WAt.mono {w:World} {F G:Nat→Prop} {v:Value} {l:LP} (h:WAt w F v l) (hF:∀b,b<w.heap.size→F b→G b):WAt w G v l:=by
 induction h with
 |mk v ps h1 h2 h3 ih=>exact .mk v ps h1 (fun b hb=>⟨hF b (h2 b hb).2 (h2 b hb).1,(h2 b hb).2⟩) ih
theorem WAt.kept {w w':World} {S F:Nat→Prop} {v:Value} {l:LP} (h:WAt w F v l) (k:Kept S w w') (hS:∀b,F b→¬S b):WAt w' F v l:=by
 induction h with
 |mk v ps h1 h2 h3 ih=>exact .mk v ps (h1.kept k (fun b hb=>hS b (h2 b hb).1)) (fun b hb=>⟨(h2 b hb).1,Nat.lt_of_lt_of_le (h2 b hb).2 k.size⟩) ih
theorem WAt.nil (w:World) (F:Nat→Prop):WAt w F (.slice none 0 0) []:= .mk _ [] (Rd.nil w 4) (fun b hb=>by cases hb) (fun x hx=>by cases hx)
theorem WAt.slice {w:World} {F:Nat→Prop} {v:Value} {l:LP} (h:WAt w F v l):∃a n c,v= .slice a n c:=by
 obtain⟨ps,_,hr,_⟩:=h.open
 obtain⟨_,a,c,e,_⟩:=hr
 exact⟨a,_,c,e⟩
structure i6 (w:World) (F:Nat→Prop) (lo:Nat) (v:Value) (ps:List (Prt×Value)):Prop where
 own:w.ownsRow 0 101 4 v ps.length (ps.flatMap PC)
 blk:∀b,Go.Lw.blk v b→lo≤b∧¬F b
 lt:∀b,F b→b<w.heap.size
 ors:∀x∈ps,WAt w F x.2 x.1.orw
theorem i6.kept {w w':World} {S F:Nat→Prop} {lo:Nat} {v:Value} {ps:List (Prt×Value)} (h:i6 w F lo v ps) (k:Kept S w w') (hF:∀b,F b→¬S b) (hv:∀b,Go.Lw.blk v b→¬S b):i6 w' F lo v ps:=
 ⟨bt k h.own hv,h.blk,fun b hb=>Nat.lt_of_lt_of_le (h.lt b hb) k.size,fun x hx=>(h.ors x hx).kept k hF⟩
theorem i6.mono {w:World} {F G:Nat→Prop} {lo:Nat} {v:Value} {ps:List (Prt×Value)} (h:i6 w F lo v ps) (hF:∀b,F b→G b) (hv:∀b,Go.Lw.blk v b→¬G b) (hG:∀b,G b→b<w.heap.size):i6 w G lo v ps:=
 ⟨h.own,fun b hb=>⟨(h.blk b hb).1,hv b hb⟩,hG,fun x hx=>(h.ors x hx).mono (fun b _ hb=>hF b hb)⟩
theorem i6.nil (w:World) (lo:Nat):i6 w (fun _=>False) lo (.slice none 0 0) []:=
 ⟨World.ownsRow_nil _ _ _ _,fun b hb=>(by cases hb),fun b hb=>hb.elim,fun x hx=>(by cases hx)⟩
theorem i6.at {w:World} {F:Nat→Prop} {lo:Nat} {v:Value} {ps:List (Prt×Value)} (h:i6 w F lo v ps):WAt w (fun b=>F b∨Go.Lw.blk v b) v (ps.map Prod.fst):=
 .mk v ps (Rd.own h.own) (fun b hb=>⟨.inr hb,cP h.own b hb⟩) (fun x hx=>(h.ors x hx).mono (fun b _ hb=>.inl hb))
theorem zK (ps:List (Prt×Value)):(ps.flatMap PC).length=ps.length*4:=j8 PC 4 ps (fun _ _=>rfl)
theorem DT (qs:List (Prt×Value)) (x:Prt×Value) (j:Nat) (hj:j<4):((qs++[x]).flatMap PC)[qs.length*4+j]? =(PC x)[j]?:=by
 have h:=km PC 4 (qs++[x]) (fun _ _=>rfl) qs.length (by simp) j hj
 rw[h]
 simp
theorem EW (qs:List (Prt×Value)) (x y:Prt×Value) (u:Value) (h:(PC x).set 1 u=PC y):((qs++[x]).flatMap PC).set (qs.length*4+1) u=(qs++[y]).flatMap PC:=by
 rw[List.flatMap_append,List.flatMap_append,List.set_append_right _ _ (by rw[zK];omega),zK]
 rw[show qs.length*4+1 -qs.length*4=1 by omega]
 simp only[List.flatMap_cons,List.flatMap_nil,List.append_nil]
 rw[h]
theorem sA (l:LP) (x p:Prt):cO (l++[x]) p=if p.kind=1∧x.kind=1∧x.quoted=p.quoted then l++[.mk x.kind (x.text++p.text) x.orw x.quoted] else l++[x]++[p]:=by
 unfold cO
 rw[List.getLast?_append]
 simp
set_option maxRecDepth 100000
attribute [local go_sem] au
set_option maxHeartbeats 1000000 in
theorem nZ (w:World) (l p:LB) (hl:l.length≤4000000000000000000) (hp:p.length≤4000000000000000000) (b:Bool) (hb:(l.take p.length==p)=b):
  Calls Tryz.prog 73 #[.string (BA l),.string (BA p)] w fun e w'=>e= .returned (.bool b)∧w=w':=by
 have h1:=ah l;have h2:=ah p
 have h3:=gv l p.length
 have HB:=jd hb
 obtain⟨n,hn⟩:∃n,l.length=n:=⟨_,rfl⟩
 obtain⟨m,hm⟩:∃m,p.length=m:=⟨_,rfl⟩
 have HN:=jd hn;have HM:=jd hm
 rw[hn] at h1 hl
 rw[hm] at h2 h3 hp
 clear hb hn hm
 by_cases hnm:m≤n
 ·go_enter Tryz.func73,Tryz.ntmps73
  go_wp2_with fail
  go_ret
  have h:=HB.o
  rw[HM.o] at h
  rw[h]
  exact⟨rfl,rfl⟩
 ·have hf:Hid (b=false):=jd (by
   rw[←HB.o]
   apply beq_eq_false_iff_ne.2
   intro h
   have:=congrArg List.length h
   rw[List.length_take,HM.o,HN.o] at this
   omega)
  go_enter Tryz.func73,Tryz.ntmps73
  go_wp2_with fail
  go_ret
  rw[hf.out]
  exact⟨rfl,rfl⟩
theorem mW (w:World) (l p:LB) (hl:l.length≤4000000000000000000) (hp:p.length≤4000000000000000000) (b:Bool) (hb:(l.take p.length==p)=b):
  Calls Tryz.prog 47 #[.string (BA l),.string (BA p)] w fun e w'=>e= .returned (.bool b)∧w=w':=by
 have HB:=jd hb
 clear hb
 go_enter Tryz.func47,Tryz.ntmps47
 go_wp2_with fail
 refine(nZ w l p hl hp b HB.o).mono ?_
 rintro e _ ⟨rfl,rfl⟩
 go_wp2_with fail
 go_ret
 exact⟨rfl,rfl⟩
def oD (l p:LB):LB×Bool:=if(l.take p.length==p)=true then(l.drop p.length,true) else(l,false)
theorem A8 (w:World) (l p:LB) (hl:l.length≤4000000000000000000) (hp:p.length≤4000000000000000000):
  Calls Tryz.prog 119 #[.string (BA l),.string (BA p)] w fun e w'=>e= .returned (.tuple #[.string (BA (oD l p).1),.bool (oD l p).2])∧w=w':=by
 have h1:=ah l;have h2:=ah p
 have h3:=fb l p.length l.length rfl
 obtain⟨b,hb⟩:∃b,(l.take p.length==p)=b:=⟨_,rfl⟩
 have HB:=jd hb
 have hle:b=true→p.length≤l.length:=fun h=>by
  rw[h] at hb
  have:=congrArg List.length (eq_of_beq hb)
  rw[List.length_take] at this;omega
 clear hb
 cases b with
 |true=>
  have hc:Hid (oD l p=(l.drop p.length,true)):=jd (if_pos HB.o)
  have hle':=hle rfl
  have HP:=jd (nZ w l p hl hp true HB.o)
  clear hle
  go_enter Tryz.func119,Tryz.ntmps119
  go_wp2_with fail
  refine HP.o.mono ?_
  rintro e _ ⟨rfl,rfl⟩
  go_wp2_with fail
  go_ret2
  rw[hc.out]
  exact⟨rfl,rfl⟩
 |false=>
  have hc:Hid (oD l p=(l,false)):=jd (if_neg (by rw[HB.o];simp))
  have HP:=jd (nZ w l p hl hp false HB.o)
  clear hle
  go_enter Tryz.func119,Tryz.ntmps119
  go_wp2_with fail
  refine HP.o.mono ?_
  rintro e _ ⟨rfl,rfl⟩
  go_wp2_with fail
  go_ret2
  rw[hc.out]
  exact⟨rfl,rfl⟩
theorem wk (w:World) (l p:LB) (hl:l.length≤4000000000000000000) (hp:p.length≤4000000000000000000):
  Calls Tryz.prog 116 #[.string (BA l),.string (BA p)] w fun e w'=>e= .returned (.tuple #[.string (BA (oD l p).1),.bool (oD l p).2])∧w=w':=by
 go_enter Tryz.func116,Tryz.ntmps116
 go_wp2_with fail
 refine(A8 w l p hl hp).mono ?_
 rintro e _ ⟨rfl,rfl⟩
 go_wp2_with fail
 go_ret2
 exact⟨rfl,rfl⟩
end Go.Proofs.YtgigdlhcjahejaaGreatDoor
