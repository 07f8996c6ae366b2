import Derived.Test.YtgigdlhcjahejaaGreatDoorF05
import Derived.Test.YtgigdlhcjahejaaGreatDoorChecked
import Derived.Test.YtgigdlhcjahejaaGreatDoorF00
set_option maxHeartbeats 400000000
namespace Go.Proofs.YtgigdlhcjahejaaGreatDoor
open Go Go.RowKit Go.Lw
set_option linter.all false
inductive Prt where
 |mk (kind:Int) (text:LB) (orw:List Prt) (quoted:Bool)
abbrev LP:=List Prt
namespace Prt
def kind:Prt→Int|mk k _ _ _=>k
def text:Prt→LB|mk _ t _ _=>t
def orw:Prt→LP|mk _ _ o _=>o
def quoted:Prt→Bool|mk _ _ _ q=>q
end Prt
def cC (w:LP) (p:Prt):LP:=match w.getLast? with
 |none=>[p]
 |some l=>if p.kind=1∧l.kind=1∧l.quoted=p.quoted then w.dropLast++[.mk l.kind (l.text++p.text) l.orw l.quoted] else w++[p]
inductive Lv where
 |bare
 |dbl
 |brc
deriving DecidableEq
def Lv.num:Lv→Int
 |bare=>0
 |dbl=>1
 |brc=>2
def Lv.ends:Lv→Option UInt8
 |bare=>none
 |dbl=>some 34
 |brc=>some 125
structure Rst where
 s:LB
 bad:Bool
def bB:LB→LB
 |[]=>[]
 |c::r=>if bd c true then(c::r.takeWhile (fun c=>bd c false)).take 32 else[]
def cD:Nat→LB→Option (LB×LB)
 |_,[]=>none
 |o,c::r=>
  if c=40 then(cD (o+1) r).map (fun x=>(c::x.1,x.2))
  else if c=41∧0<o then(cD (o -1) r).map (fun x=>(c::x.1,x.2))
  else if c=41∧r.take 1=[41] then some ([],r.drop 1)
  else(cD o r).map (fun x=>(c::x.1,x.2))
def dR (c:UInt8) (r:LB):LB×LB:=(r.takeWhile (· !=c),(r.dropWhile (· !=c)).drop 1)
def iX (c:UInt8):Bool:=c==36||c==34||c==92||c==96
def ez (lv:Lv) (r:LB):Prt×LB:=
 (.mk 1 (if lv= .dbl∧(r.take 1).all iX=false then 92::r.take 1 else r.take 1) [] true,r.drop 1)
def fu (st:Rst):Rst:=if st.bad then st else if st.s.take 1=[125] then⟨st.s.drop 1,false⟩ else⟨st.s,true⟩
def aQ (W:Rst→LP×Rst) (q:Bool) (r:LB):Prt×Rst:=
 if r.take 2=[40,40] then
  match cD 0 (r.drop 2) with
  |some x=>(.mk 5 x.1 [] q,⟨x.2,false⟩)
  |none=>(.mk 5 [] [] q,⟨r.drop 2,true⟩)
 else if r.take 1=[123] then
  if bB (r.drop 1)=[] then(.mk 2 [] [] q,⟨r.drop 1,true⟩)
  else if((r.drop 1).drop (bB (r.drop 1)).length).take 2=[58,45] then
   (.mk 3 (bB (r.drop 1)) (W ⟨((r.drop 1).drop (bB (r.drop 1)).length).drop 2,false⟩).1 q,fu (W ⟨((r.drop 1).drop (bB (r.drop 1)).length).drop 2,false⟩).2)
  else(.mk 2 (bB (r.drop 1)) [] q,fu ⟨(r.drop 1).drop (bB (r.drop 1)).length,false⟩)
 else if r.take 1=[63] then(.mk 4 [] [] q,⟨r.drop 1,false⟩)
 else if bB r=[] then(.mk 1 [36] [] q,⟨r,false⟩)
 else(.mk 2 (bB r) [] q,⟨r.drop (bB r).length,false⟩)
def cz (l:LP):LP:=if l.isEmpty then[.mk 1 [] [] true] else l
def et (s:LB):LB:=if s.take 1=[34] then s.drop 1 else s
def a7:Nat→Lv→Bool→LP→Rst→LP×Rst
 |0,_,_,acc,st=>(acc,st)
 |n+1,lv,q,acc,⟨s,bad⟩=>match s with
  |[]=>(acc,⟨s,bad⟩)
  |c::r=>
   if bad=true∨lv.ends=some c then(acc,⟨s,bad⟩)
   else if c=92 then a7 n lv q (cC acc (ez lv r).1) ⟨(ez lv r).2,false⟩
   else if c=36 then a7 n lv q (cC acc (aQ (a7 n .brc q []) q r).1) (aQ (a7 n .brc q []) q r).2
   else if c=39∧lv≠.dbl then a7 n lv q (cC acc (.mk 1 (dR 39 r).1 [] true)) ⟨(dR 39 r).2,false⟩
   else if c=34∧lv≠.dbl then
    a7 n lv q ((cz (a7 n .dbl true [] ⟨r,false⟩).1).foldl cC acc) ⟨et (a7 n .dbl true [] ⟨r,false⟩).2.s,(a7 n .dbl true [] ⟨r,false⟩).2.bad⟩
   else a7 n lv q (cC acc (.mk 1 [c] [] q)) ⟨r,false⟩
def gS:Prt→Prt→Bool
 |.mk k t o q,.mk k' t' o' q'=>decide (k=k')&&decide (t=t')&&(q==q')&&sameL o o'
where sameL:LP→LP→Bool
 |[],[]=>true
 |[],_::_=>false
 |_::_,[]=>false
 |a::l,b::m=>gS a b&&sameL l m
abbrev cy:=gS.sameL
def gO (s:LB):LB:=
 if s.contains 39 then[34]++s.flatMap (fun c=>if iX c then[92,c] else[c])++[34] else[39]++s++[39]
def bM:Prt→LB
 |.mk k t o q=>
  if k=1 then(if q then gO t else t)
  else
   let x:=if k=2 then[36,123]++t++[125] else if k=3 then[36,123]++t++[58,45]++textL o++[125] else if k=4 then[36,63] else if k=5 then[36,40,40]++t++[41,41] else t
   if q then[34]++x++[34] else x
where textL:LP→LB
 |[]=>[]
 |p::l=>bM p++textL l
abbrev aC:=bM.textL
theorem hU (lv:Lv) (r:LB):(ez lv r).2.length≤r.length:=by
 show(r.drop 1).length≤_
 rw[Jo];omega
theorem jw (c:UInt8) (r:LB):(dR c r).2.length≤r.length:=by
 show((r.dropWhile (· !=c)).drop 1).length≤_
 have:=dj (· !=c) r
 rw[Jo];omega
theorem qp:∀(r:LB) (o:Nat) {x:LB×LB},cD o r=some x→x.2.length≤r.length
 |[],o,x,h=>by cases h
 |c::r,o,x,h=>by
  have key:∀{o':Nat} {x:LB×LB},(cD o' r).map (fun x=>(c::x.1,x.2))=some x→x.2.length≤(c::r).length:=by
   intro o' x h
   cases hy:cD o' r with
   |none=>rw[hy] at h;cases h
   |some y=>
    rw[hy] at h;cases h
    have:=qp r o' hy
    simp;omega
  unfold cD at h
  split at h
  ·exact key h
  ·split at h
   ·exact key h
   ·split at h
    ·cases h;simp;omega
    ·exact key h
theorem eU (s:LB):(et s).length≤s.length:=by
 unfold et
 split
 ·rw[Jo];omega
 ·exact Jb _
theorem eQ (st:Rst):(fu st).s.length≤st.s.length:=by
 unfold fu
 split
 ·exact Jb _
 ·split
  ·show(st.s.drop 1).length≤_
   rw[Jo];omega
  ·exact Jb _
theorem gG {W:Rst→LP×Rst} {q:Bool} {r:LB} (hW:∀st,st.s.length≤r.length→(W st).2.s.length≤st.s.length):(aQ W q r).2.s.length≤r.length:=by
 unfold aQ
 split
 ·split
  ·rename_i x h
   have:=qp _ _ h
   show x.2.length≤_
   rw[Jo] at this;omega
  ·show(r.drop 2).length≤_
   rw[Jo];omega
 ·split
  ·split
   ·show(r.drop 1).length≤_
    rw[Jo];omega
   ·split
    ·refine lt9 (eQ _) (lt9 (hW _ ?_) ?_)<;>(simp only[Jo];omega)
    ·refine lt9 (eQ _) ?_
     simp only[Jo];omega
  ·split
   ·show(r.drop 1).length≤_
    rw[Jo];omega
   ·split
    ·exact Jb _
    ·show(r.drop _).length≤_
     rw[Jo];omega
theorem cV:∀(n:Nat) (lv:Lv) (q:Bool) (acc:LP) (st:Rst),(a7 n lv q acc st).2.s.length≤st.s.length
 |0,_,_,_,st=>Jb _
 |n+1,lv,q,acc,⟨[],bad⟩=>Jb _
 |n+1,lv,q,acc,⟨c::r,bad⟩=>by
  unfold a7
  simp only
  split
  ·exact Jb _
  ·split
   ·refine lt9 (cV n _ _ _ _) ?_
    have:=hU lv r
    simp;omega
   ·split
    ·refine lt9 (cV n _ _ _ _) ?_
     have:=gG (q:=q) (r:=r) (W:=a7 n .brc q []) (fun st _=>cV n _ _ _ st)
     simp;omega
    ·split
     ·refine lt9 (cV n _ _ _ _) ?_
      have:=jw 39 r
      simp;omega
     ·split
      ·refine lt9 (cV n _ _ _ _) ?_
       refine lt9 (eU _) ?_
       have:=cV n .dbl true [] ⟨r,false⟩
       simp at this⊢;omega
      ·refine lt9 (cV n _ _ _ _) ?_
       simp
theorem rL {W V:Rst→LP×Rst} {q:Bool} {r:LB} (h:∀st,st.s.length≤r.length→W st=V st):aQ W q r=aQ V q r:=by
 unfold aQ
 rw[h ⟨((r.drop 1).drop (bB (r.drop 1)).length).drop 2,false⟩ (by simp only[Jo];omega)]
theorem eN:∀(n:Nat) (lv:Lv) (q:Bool) (acc:LP) (st:Rst),st.s.length<n→a7 (n+1) lv q acc st=a7 n lv q acc st
 |0,_,_,_,st,h=>by omega
 |n+1,lv,q,acc,⟨[],bad⟩,h=>rfl
 |n+1,lv,q,acc,⟨c::r,bad⟩,h=>by
  have hr:r.length<n:=by simp at h;omega
  have e1:aQ (a7 (n+1) .brc q []) q r=aQ (a7 n .brc q []) q r:=rL fun st hst=>eN n _ _ _ st (by omega)
  have e2:a7 (n+1) .dbl true [] ⟨r,false⟩=a7 n .dbl true [] ⟨r,false⟩:=eN n _ _ _ _ hr
  conv=>lhs;unfold a7
  conv=>rhs;unfold a7
  simp only[e1,e2]
  rw[eN n lv q _ ⟨(ez lv r).2,false⟩ (by have:=hU lv r;simp only;omega),
   eN n lv q _ (aQ (a7 n .brc q []) q r).2 (by have:=gG (q:=q) (r:=r) (W:=a7 n .brc q []) (fun st _=>cV n _ _ _ st);omega),
   eN n lv q _ ⟨(dR 39 r).2,false⟩ (by have:=jw 39 r;simp only;omega),
   eN n lv q _ ⟨et (a7 n .dbl true [] ⟨r,false⟩).2.s,(a7 n .dbl true [] ⟨r,false⟩).2.bad⟩ (by have:=eU (a7 n .dbl true [] ⟨r,false⟩).2.s;have h2:=cV n .dbl true [] ⟨r,false⟩;simp only at h2⊢;omega),
   eN n lv q _ ⟨r,false⟩ hr]
theorem zg (n k:Nat) (lv:Lv) (q:Bool) (acc:LP) (st:Rst) (h:st.s.length<n):a7 (n+k) lv q acc st=a7 n lv q acc st:=by
 induction k with
 |zero=>rfl
 |succ k ih=>rw[←Nat.add_assoc,eN (n+k) lv q acc st (by omega),ih]
def aO (lv:Lv) (q:Bool) (acc:LP) (st:Rst):LP×Rst:=a7 (st.s.length+1) lv q acc st
theorem lN {n:Nat} {lv:Lv} {q:Bool} {acc:LP} {st:Rst} (h:st.s.length<n):a7 n lv q acc st=aO lv q acc st:=by
 obtain⟨k,rfl⟩:∃k,n=st.s.length+1+k:=⟨n -(st.s.length+1),by omega⟩
 exact zg _ _ _ _ _ _ (Nat.lt_succ_self _)
theorem lC (lv:Lv) (q:Bool) (acc:LP) (st:Rst):(aO lv q acc st).2.s.length≤st.s.length:=cV _ _ _ _ _
theorem BJ (lv:Lv) (q:Bool) (acc:LP) (b:Bool):aO lv q acc ⟨[],b⟩=(acc,⟨[],b⟩):=rfl
theorem A7 (lv:Lv) (q:Bool) (acc:LP) (s:LB):aO lv q acc ⟨s,true⟩=(acc,⟨s,true⟩):=by
 cases s with
 |nil=>rfl
 |cons c r=>unfold aO a7;simp
theorem tF {lv:Lv} (q:Bool) (acc:LP) {c:UInt8} (r:LB) (b:Bool) (h:lv.ends=some c):aO lv q acc ⟨c::r,b⟩=(acc,⟨c::r,b⟩):=by
 unfold aO a7;simp[h]
theorem Lv.GQ (lv:Lv):lv.ends≠some 92:=by cases lv<;>decide
theorem Lv.GY (lv:Lv):lv.ends≠some 36:=by cases lv<;>decide
theorem Lv.GU (lv:Lv):lv.ends≠some 39:=by cases lv<;>decide
theorem Lv.Hb {lv:Lv} (h:lv≠.dbl):lv.ends≠some 34:=by cases lv<;>first|decide|exact absurd rfl h
theorem yA (lv:Lv) (q:Bool) (acc:LP) (r:LB):aO lv q acc ⟨92::r,false⟩=aO lv q (cC acc (ez lv r).1) ⟨(ez lv r).2,false⟩:=by
 conv=>lhs;unfold aO a7
 simp only[Bool.false_eq_true,false_or,Js lv.GQ,if_true]
 exact lN (by have:=hU lv r;simp;omega)
theorem yI {n:Nat} {q:Bool} {r:LB} (h:r.length<n):aQ (a7 n .brc q []) q r=aQ (aO .brc q []) q r:=rL fun st hst=>lN (by omega)
theorem oW (q:Bool) (r:LB):(aQ (aO .brc q []) q r).2.s.length≤r.length:=gG fun st _=>lC _ _ _ st
theorem ue (lv:Lv) (q:Bool) (acc:LP) (r:LB):aO lv q acc ⟨36::r,false⟩=aO lv q (cC acc (aQ (aO .brc q []) q r).1) (aQ (aO .brc q []) q r).2:=by
 conv=>lhs;unfold aO a7
 simp only[Bool.false_eq_true,false_or,Js lv.GY,if_true,show¬((36:UInt8)=92) by decide,if_false,Jg]
 rw[yI (Nat.lt_succ_self _)]
 exact lN (by have:=oW q r;omega)
theorem tK {lv:Lv} (q:Bool) (acc:LP) (r:LB) (h:lv≠.dbl):aO lv q acc ⟨39::r,false⟩=aO lv q (cC acc (.mk 1 (dR 39 r).1 [] true)) ⟨(dR 39 r).2,false⟩:=by
 conv=>lhs;unfold aO a7
 simp only[Bool.false_eq_true,false_or,Js lv.GU,if_true,show¬((39:UInt8)=92) by decide,show¬((39:UInt8)=36) by decide,if_false,Jg,true_and,Jt h]
 exact lN (by have:=jw 39 r;simp;omega)
theorem uE {lv:Lv} (q:Bool) (acc:LP) (r:LB) (h:lv≠.dbl):aO lv q acc ⟨34::r,false⟩=aO lv q ((cz (aO .dbl true [] ⟨r,false⟩).1).foldl cC acc) ⟨et (aO .dbl true [] ⟨r,false⟩).2.s,(aO .dbl true [] ⟨r,false⟩).2.bad⟩:=by
 conv=>lhs;unfold aO a7
 simp only[Bool.false_eq_true,false_or,Js (Lv.Hb h),if_true,show¬((34:UInt8)=92) by decide,show¬((34:UInt8)=36) by decide,show¬((34:UInt8)=39) by decide,if_false,Jg,true_and,false_and,Jt h]
 rw[show a7 (r.length+1) .dbl true [] ⟨r,false⟩=aO .dbl true [] ⟨r,false⟩ from rfl]
 exact lN (by have h1:=eU (aO .dbl true [] ⟨r,false⟩).2.s;have h2:=lC .dbl true [] ⟨r,false⟩;simp only at h1 h2⊢;omega)
theorem sx {lv:Lv} (q:Bool) (acc:LP) {c:UInt8} (r:LB) (h0:lv.ends≠some c) (h1:c≠92) (h2:c≠36) (h3:¬(c=39∧lv≠.dbl)) (h4:¬(c=34∧lv≠.dbl)):
  aO lv q acc ⟨c::r,false⟩=aO lv q (cC acc (.mk 1 [c] [] q)) ⟨r,false⟩:=by
 conv=>lhs;unfold aO a7
 simp only[Bool.false_eq_true,false_or,Js h0,Js h1,Js h2,Js h3,Js h4,Jg]
 exact lN (by simp)
def bC (s:LB):Except Nat LP:=match dB s with
 |.error e=>.error e
 |.ok l=>if l.length=1∧l.map Tk.kind=[1]∧l.map Tk.text=[s] then
   (if(aO .bare false [] ⟨s,false⟩).2.bad then .error 5 else .ok (aO .bare false [] ⟨s,false⟩).1)
  else .error 5
def cd (l:LP):Nat:=(l.map fun p=>p.text.length).sum
theorem sq (a b:LP):cd (a++b)=cd a+cd b:=by
 unfold cd;rw[List.map_append,List.sum_append]
theorem nP (p:Prt):cd [p]=p.text.length:=by unfold cd;simp
theorem sC {l:LP} {p:Prt} (h:p∈l):p.text.length≤cd l:=by
 induction l with
 |nil=>cases h
 |cons x l ih=>
  have e:cd (x::l)=x.text.length+cd l:=rfl
  rcases Jl.1 h with rfl|h
  ·omega
  ·have:=ih h;omega
theorem jo (l:LP) (p:Prt):(cC l p).length≤l.length+1∧cd (cC l p)=cd l+p.text.length:=by
 rcases List.eq_nil_or_concat l with rfl|⟨l,x,rfl⟩
 ·exact⟨Jb _,by show cd [p]=_;rw[nP];show _=0+_;omega⟩
 ·rw[List.concat_eq_append]
  unfold cC
  rw[List.getLast?_append]
  simp only[List.getLast?_singleton,Option.or_some,Option.some_or]
  split
  ·rw[List.dropLast_append_of_ne_nil (by simp)]
   simp only[List.dropLast_singleton,List.append_nil,sq,nP,Jf]
   refine⟨by simp,?_⟩
   show cd l+(x.text++p.text).length=_
   rw[Jf];omega
  ·simp only[sq,nP,Jf]
   exact⟨by simp,trivial⟩
theorem nZ:∀(m l:LP),(m.foldl cC l).length≤l.length+m.length∧cd (m.foldl cC l)=cd l+cd m
 |[],l=>⟨Jb _,rfl⟩
 |p::m,l=>by
  have h:=nZ m (cC l p)
  have h2:=jo l p
  have e:cd (p::m)=p.text.length+cd m:=rfl
  rw[List.foldl_cons,Jg,e]
  omega
theorem mS (l:LP):(cz l).length≤l.length+1∧cd (cz l)=cd l:=by
 cases l with
 |nil=>exact⟨Jb _,rfl⟩
 |cons p l=>exact⟨by simp[cz],rfl⟩
theorem gr (s:LB):(bB s).length≤s.length:=by
 cases s with
 |nil=>exact Ju _
 |cons c r=>
  unfold bB
  simp only
  split
  ·have:=dj (fun c=>bd c false) r
   rw[Jp,Jg,Jg]
   omega
  ·exact Ju _
theorem iR:∀(r:LB) (o:Nat) {x:LB×LB},cD o r=some x→x.1.length+x.2.length≤r.length
 |[],o,x,h=>by cases h
 |c::r,o,x,h=>by
  have key:∀{o':Nat} {x:LB×LB},(cD o' r).map (fun x=>(c::x.1,x.2))=some x→x.1.length+x.2.length≤(c::r).length:=by
   intro o' x h
   cases hy:cD o' r with
   |none=>rw[hy] at h;cases h
   |some y=>
    rw[hy] at h;cases h
    have:=iR r o' hy
    simp;omega
  unfold cD at h
  split at h
  ·exact key h
  ·split at h
   ·exact key h
   ·split at h
    ·cases h;simp;omega
    ·exact key h
theorem ny {W:Rst→LP×Rst} {q:Bool} {r:LB} (hW:∀st,st.s.length≤r.length→(W st).2.s.length≤st.s.length):(aQ W q r).1.text.length+(aQ W q r).2.s.length≤r.length+1:=by
 have hn:=gr (r.drop 1)
 have hn2:=gr r
 have hl:=gG (q:=q) hW
 unfold aQ at hl⊢
 split
 ·split
  ·rename_i x h
   have:=iR _ _ h
   show x.1.length+x.2.length≤_
   rw[Jo] at this;omega
  ·show 0+(r.drop 2).length≤_
   rw[Jo];omega
 ·rename_i h0
  rw[Js h0] at hl
  split
  ·rename_i h1
   rw[Jt h1] at hl
   rw[Jo] at hn
   split
   ·show 0+(r.drop 1).length≤_
    rw[Jo];omega
   ·split
    ·show(bB (r.drop 1)).length+(fu (W _).2).s.length≤_
     have h3:=eQ (W ⟨((r.drop 1).drop (bB (r.drop 1)).length).drop 2,false⟩).2
     have h4:=hW ⟨((r.drop 1).drop (bB (r.drop 1)).length).drop 2,false⟩ (by simp only[Jo];omega)
     simp only[Jo] at h4
     omega
    ·show(bB (r.drop 1)).length+(fu _).s.length≤_
     have h3:=eQ ⟨(r.drop 1).drop (bB (r.drop 1)).length,false⟩
     simp only[Jo] at h3
     omega
  ·rename_i h1
   rw[Js h1] at hl
   split
   ·show 0+(r.drop 1).length≤_
    rw[Jo];omega
   ·split
    ·show 1+r.length≤_
     omega
    ·show(bB r).length+(r.drop _).length≤_
     rw[Jo];omega
theorem ml (lv:Lv) (r:LB):(ez lv r).1.text.length+(ez lv r).2.length≤r.length+1:=by
 show(if lv= .dbl∧(r.take 1).all iX=false then 92::r.take 1 else r.take 1).length+(r.drop 1).length≤_
 rw[Jo]
 split
 ·rw[Jg,Jp];omega
 ·rw[Jp];omega
theorem gg (c:UInt8) (r:LB):(dR c r).1.length+(dR c r).2.length≤r.length:=by
 show(r.takeWhile (· !=c)).length+((r.dropWhile (· !=c)).drop 1).length≤_
 have:=dj (· !=c) r
 rw[Jo];omega
theorem jN:∀(n:Nat) (lv:Lv) (q:Bool) (acc:LP) (st:Rst),(a7 n lv q acc st).1.length+(a7 n lv q acc st).2.s.length≤acc.length+st.s.length∧cd (a7 n lv q acc st).1+(a7 n lv q acc st).2.s.length≤cd acc+st.s.length
 |0,_,_,_,st=>⟨Jb _,Jb _⟩
 |n+1,lv,q,acc,⟨[],bad⟩=>⟨Jb _,Jb _⟩
 |n+1,lv,q,acc,⟨c::r,bad⟩=>by
  unfold a7
  simp only
  have key:∀(p:Prt) (st:Rst),p.text.length+st.s.length≤r.length+1→st.s.length≤r.length→(a7 n lv q (cC acc p) st).1.length+(a7 n lv q (cC acc p) st).2.s.length≤acc.length+(c::r).length∧cd (a7 n lv q (cC acc p) st).1+(a7 n lv q (cC acc p) st).2.s.length≤cd acc+(c::r).length:=by
   intro p st h1 h2
   have h:=jN n lv q (cC acc p) st
   have h3:=jo acc p
   rw[Jg]
   omega
  split
  ·exact⟨Jb _,Jb _⟩
  ·split
   ·exact key _ _ (ml lv r) (hU lv r)
   ·split
    ·exact key _ _ (ny (fun st _=>cV n _ _ _ st)) (gG (fun st _=>cV n _ _ _ st))
    ·split
     ·exact key _ _ (by have:=gg 39 r;show(dR 39 r).1.length+(dR 39 r).2.length≤_;omega) (jw 39 r)
     ·split
      ·have h1:=jN n .dbl true [] ⟨r,false⟩
       have h2:=eU (a7 n .dbl true [] ⟨r,false⟩).2.s
       have h3:=mS (a7 n .dbl true [] ⟨r,false⟩).1
       have h4:=nZ (cz (a7 n .dbl true [] ⟨r,false⟩).1) acc
       have h5:=jN n lv q ((cz (a7 n .dbl true [] ⟨r,false⟩).1).foldl cC acc) ⟨et (a7 n .dbl true [] ⟨r,false⟩).2.s,(a7 n .dbl true [] ⟨r,false⟩).2.bad⟩
       have h6:cd ([]:LP)=0:=rfl
       rw[Jg]
       simp only[Jn] at h1 h5
       omega
      ·exact key _ _ (by show 1+r.length≤_;omega) (Jb _)
theorem zi (lv:Lv) (q:Bool) (acc:LP) (st:Rst):(aO lv q acc st).1.length+(aO lv q acc st).2.s.length≤acc.length+st.s.length∧cd (aO lv q acc st).1+(aO lv q acc st).2.s.length≤cd acc+st.s.length:=jN _ _ _ _ _
def PC (x:Prt×Value):List Value:=[.int .i64 x.1.kind,.string (BA x.1.text),x.2,.bool x.1.quoted]
inductive WAt (w:World) (F:Nat→Prop):Value→LP→Prop
 |mk (v:Value) (ps:List (Prt×Value)):Rd w 4 v ps.length (ps.flatMap PC)→(∀b,blk v b→F b∧b<w.heap.size)→(∀x∈ps,WAt w F x.2 x.1.orw)→WAt w F v (ps.map Prod.fst)
theorem WAt.open {w:World} {F:Nat→Prop} {v:Value} {l:LP} (h:WAt w F v l):
  ∃ps:List (Prt×Value),ps.map Prod.fst=l∧Rd w 4 v ps.length (ps.flatMap PC)∧(∀b,blk v b→F b∧b<w.heap.size)∧∀x∈ps,WAt w F x.2 x.1.orw:=by
 cases h with
 |mk _ ps h1 h2 h3=>exact⟨ps,rfl,h1,h2,h3⟩
theorem WAt.mono {w:World} {F G:Nat→Prop} {v:Value} {l:LP} (h:WAt w F v l) (hF:∀b,b<w.heap.size→F b→G b):WAt w G v l:=by
 induction h with
 |mk v ps h1 h2 h3 ih=>exact .mk v ps h1 (fun b hb=>⟨hF b (h2 b hb).2 (h2 b hb).1,(h2 b hb).2⟩) ih
theorem WAt.kept {w w':World} {S F:Nat→Prop} {v:Value} {l:LP} (h:WAt w F v l) (k:Kept S w w') (hS:∀b,F b→¬S b):WAt w' F v l:=by
 induction h with
 |mk v ps h1 h2 h3 ih=>exact .mk v ps (h1.kept k (fun b hb=>hS b (h2 b hb).1)) (fun b hb=>⟨(h2 b hb).1,Jv (h2 b hb).2 k.size⟩) ih
theorem WAt.nil (w:World) (F:Nat→Prop):WAt w F (.slice none 0 0) []:= .mk _ [] (Rd.nil w 4) (fun b hb=>by cases hb) (fun x hx=>by cases hx)
theorem WAt.slice {w:World} {F:Nat→Prop} {v:Value} {l:LP} (h:WAt w F v l):∃a n c,v= .slice a n c:=by
 obtain⟨ps,_,hr,_⟩:=h.open
 obtain⟨_,a,c,e,_⟩:=hr
 exact⟨a,_,c,e⟩
structure jU (w:World) (F:Nat→Prop) (lo:Nat) (v:Value) (ps:List (Prt×Value)):Prop where
 own:w.ownsRow 0 101 4 v ps.length (ps.flatMap PC)
 blk:∀b,Go.Lw.blk v b→lo≤b∧¬F b
 lt:∀b,F b→b<w.heap.size
 ors:∀x∈ps,WAt w F x.2 x.1.orw
theorem jU.kept {w w':World} {S F:Nat→Prop} {lo:Nat} {v:Value} {ps:List (Prt×Value)} (h:jU w F lo v ps) (k:Kept S w w') (hF:∀b,F b→¬S b) (hv:∀b,Go.Lw.blk v b→¬S b):jU w' F lo v ps:=
 ⟨bH k h.own hv,h.blk,fun b hb=>Jv (h.lt b hb) k.size,fun x hx=>(h.ors x hx).kept k hF⟩
theorem jU.mono {w:World} {F G:Nat→Prop} {lo:Nat} {v:Value} {ps:List (Prt×Value)} (h:jU w F lo v ps) (hF:∀b,F b→G b) (hv:∀b,Go.Lw.blk v b→¬G b) (hG:∀b,G b→b<w.heap.size):jU w G lo v ps:=
 ⟨h.own,fun b hb=>⟨(h.blk b hb).1,hv b hb⟩,hG,fun x hx=>(h.ors x hx).mono (fun b _ hb=>hF b hb)⟩
theorem jU.nil (w:World) (lo:Nat):jU w (fun _=>False) lo (.slice none 0 0) []:=
 ⟨World.ownsRow_nil _ _ _ _,fun b hb=>(by cases hb),fun b hb=>hb.elim,fun x hx=>(by cases hx)⟩
theorem jU.at {w:World} {F:Nat→Prop} {lo:Nat} {v:Value} {ps:List (Prt×Value)} (h:jU w F lo v ps):WAt w (fun b=>F b∨Go.Lw.blk v b) v (ps.map Prod.fst):=
 .mk v ps (Rd.own h.own) (fun b hb=>⟨.inr hb,df h.own b hb⟩) (fun x hx=>(h.ors x hx).mono (fun b _ hb=>.inl hb))
theorem Ao (ps:List (Prt×Value)):(ps.flatMap PC).length=ps.length*4:=kL PC 4 ps (fun _ _=>rfl)
theorem Ey (qs:List (Prt×Value)) (x:Prt×Value) (j:Nat) (hj:j<4):((qs++[x]).flatMap PC)[qs.length*4+j]? =(PC x)[j]?:=by
 have h:=j8 PC 4 (qs++[x]) (fun _ _=>rfl) qs.length (by simp) j hj
 rw[h]
 simp
theorem FQ (qs:List (Prt×Value)) (x y:Prt×Value) (u:Value) (h:(PC x).set 1 u=PC y):((qs++[x]).flatMap PC).set (qs.length*4+1) u=(qs++[y]).flatMap PC:=by
 rw[List.flatMap_append,List.flatMap_append,List.set_append_right _ _ (by rw[Ao];omega),Ao]
 rw[show qs.length*4+1 -qs.length*4=1 by omega]
 simp only[List.flatMap_cons,List.flatMap_nil,List.append_nil]
 rw[h]
theorem nS (l:LP) (x p:Prt):cC (l++[x]) p=if p.kind=1∧x.kind=1∧x.quoted=p.quoted then l++[.mk x.kind (x.text++p.text) x.orw x.quoted] else l++[x]++[p]:=by
 unfold cC
 rw[List.getLast?_append]
 simp
set_option maxRecDepth 100000
attribute [local go_sem] aA
theorem og (w:World) (l p:LB) (hl:l.length≤4000000000000000000) (hp:p.length≤4000000000000000000) (b:Bool) (hb:(l.take p.length==p)=b):
  Calls Tryz.prog 73 #[.string (BA l),.string (BA p)] w fun e w'=>e= .returned (.bool b)∧w=w':=by
 have h1:=aq l;have h2:=aq p
 have h3:=iN l p.length
 have HB:=jd hb
 obtain⟨n,hn⟩:∃n,l.length=n:=⟨_,rfl⟩
 obtain⟨m,hm⟩:∃m,p.length=m:=⟨_,rfl⟩
 have HN:=jd hn;have HM:=jd hm
 rw[hn] at h1 hl
 rw[hm] at h2 h3 hp
 clear hb hn hm
 by_cases hnm:m≤n
 ·go_enter Tryz.func73,Tryz.ntmps73
  go_wp2_with fail
  go_ret
  have h:=HB.o
  rw[HM.o] at h
  rw[h]
  exact⟨rfl,rfl⟩
 ·have hf:Hid (b=false):=jd (by
   rw[←HB.o]
   apply Jq.2
   intro h
   have:=congrArg List.length h
   rw[Jp,HM.o,HN.o] at this
   omega)
  go_enter Tryz.func73,Tryz.ntmps73
  go_wp2_with fail
  go_ret
  rw[hf.out]
  exact⟨rfl,rfl⟩
theorem nD (w:World) (l p:LB) (hl:l.length≤4000000000000000000) (hp:p.length≤4000000000000000000) (b:Bool) (hb:(l.take p.length==p)=b):
  Calls Tryz.prog 47 #[.string (BA l),.string (BA p)] w fun e w'=>e= .returned (.bool b)∧w=w':=by
 have HB:=jd hb
 clear hb
 go_enter Tryz.func47,Tryz.ntmps47
 go_wp2_with fail
 refine(og w l p hl hp b HB.o).mono ?_
 rintro e _ ⟨rfl,rfl⟩
 go_wp2_with fail
 go_ret
 exact⟨rfl,rfl⟩
def oM (l p:LB):LB×Bool:=if(l.take p.length==p)=true then(l.drop p.length,true) else(l,false)
theorem Bn (w:World) (l p:LB) (hl:l.length≤4000000000000000000) (hp:p.length≤4000000000000000000):
  Calls Tryz.prog 119 #[.string (BA l),.string (BA p)] w fun e w'=>e= .returned (.tuple #[.string (BA (oM l p).1),.bool (oM l p).2])∧w=w':=by
 have h1:=aq l;have h2:=aq p
 have h3:=fq l p.length l.length rfl
 obtain⟨b,hb⟩:∃b,(l.take p.length==p)=b:=⟨_,rfl⟩
 have HB:=jd hb
 have hle:b=true→p.length≤l.length:=fun h=>by
  rw[h] at hb
  have:=congrArg List.length (eq_of_beq hb)
  rw[Jp] at this;omega
 clear hb
 cases b with
 |true=>
  have hc:Hid (oM l p=(l.drop p.length,true)):=jd (Jt HB.o)
  have hle':=hle rfl
  have HP:=jd (og w l p hl hp true HB.o)
  clear hle
  go_enter Tryz.func119,Tryz.ntmps119
  go_wp2_with fail
  refine HP.o.mono ?_
  rintro e _ ⟨rfl,rfl⟩
  go_wp2_with fail
  go_ret2
  rw[hc.out]
  exact⟨rfl,rfl⟩
 |false=>
  have hc:Hid (oM l p=(l,false)):=jd (Js (by rw[HB.o];simp))
  have HP:=jd (og w l p hl hp false HB.o)
  clear hle
  go_enter Tryz.func119,Tryz.ntmps119
  go_wp2_with fail
  refine HP.o.mono ?_
  rintro e _ ⟨rfl,rfl⟩
  go_wp2_with fail
  go_ret2
  rw[hc.out]
  exact⟨rfl,rfl⟩
theorem vK (w:World) (l p:LB) (hl:l.length≤4000000000000000000) (hp:p.length≤4000000000000000000):
  Calls Tryz.prog 116 #[.string (BA l),.string (BA p)] w fun e w'=>e= .returned (.tuple #[.string (BA (oM l p).1),.bool (oM l p).2])∧w=w':=by
 go_enter Tryz.func116,Tryz.ntmps116
 go_wp2_with fail
 refine(Bn w l p hl hp).mono ?_
 rintro e _ ⟨rfl,rfl⟩
 go_wp2_with fail
 go_ret2
 exact⟨rfl,rfl⟩
