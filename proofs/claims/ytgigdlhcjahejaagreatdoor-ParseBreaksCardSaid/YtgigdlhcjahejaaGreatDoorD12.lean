/- Of the proof of ParseBreaks: WordT. -/
import Derived.Test.YtgigdlhcjahejaaGreatDoorD10
import Derived.Test.YtgigdlhcjahejaaGreatDoorD11
namespace Go.Proofs.YtgigdlhcjahejaaGreatDoor
open Go Go.RowKit Go.Lw
set_option maxRecDepth 100000
set_option linter.unusedVariables false
set_option linter.unusedSimpArgs false
attribute [local go_sem] av
theorem AA (w:World) (c:UInt8):Calls Tryz.prog 41 #[.string ⟨#[36,34,92,96]⟩,.int .u8 (c.toNat:Int)] w fun e w'=>(∃i:Int,e= .returned (.int .i64 i)∧decide (0≤i)=ik c)∧w'=w:=by
 refine(dB [36,34,92,96] c _ rfl w).mono ?_
 rintro e w' ⟨rfl,hw⟩
 refine⟨⟨_,rfl,?_⟩,hw⟩
 have h:=me [c] (Nat.le_refl _)
 unfold Lib.contains at h
 rw[Lib.index_one] at h
 rw[h]
 show(ik c&&true)=_
 rw[Bool.and_true]
theorem lG (s:List UInt8) (c:UInt8):decide (0≤Lib.indexByte s c)=s.contains c:=by
 induction s with
 |nil=>rfl
 |cons b l ih=>
  unfold Lib.indexByte
  by_cases h:b=c
  ·subst h;simp
  ·have hb:(b==c)=false:=beq_eq_false_iff_ne.2 h
   have hge:=Lib.indexByte_ge l c
   rw[hb]
   simp only[Bool.false_eq_true,if_false]
   have hc:(b::l).contains c=l.contains c:=by
    rw[List.contains_cons]
    have:(c==b)=false:=beq_eq_false_iff_ne.2 (fun e=>h e.symm)
    rw[this,Bool.false_or]
   rw[hc,←ih]
   by_cases h2:Lib.indexByte l c=-1
   ·rw[h2];rfl
   ·have h3:(Lib.indexByte l c==-1)=false:=beq_eq_false_iff_ne.2 h2
    rw[h3]
    simp only[Bool.false_eq_true,if_false]
    rw[decide_eq_true (by omega),decide_eq_true (by omega)]
def nC (l:List UInt8):List UInt8:=l.flatMap fun c=>if ik c then[92,c] else[c]
theorem Av {k:Nat} {p:List UInt8} {c:UInt8} (h:p[k]? =some c):nC (p.take (k+1))=nC (p.take k)++(if ik c then[92,c] else[c]):=by
 unfold nC;rw[List.take_add_one,h,List.flatMap_append];simp
theorem CV (s:List UInt8):(nC s).length≤2*s.length:=by
 induction s with
 |nil=>exact Nat.le_refl _
 |cons c s ih=>
  show((if ik c then[92,c] else[c])++nC s).length≤_
  rw[List.length_append,List.length_cons]
  split<;>(simp;omega)
set_option maxHeartbeats 8000000 in
theorem wb (w:World) (s:List UInt8) (hs9:s.length≤1000000000):
  Calls Tryz.prog 90 #[.string (BA s)] w fun x w'=>x= .returned (.string (BA (ga s)))∧w'=w:=by
 have hC:=Tryz.strings_Contains_one (BA s) 39 w
 rw[eG,lG] at hC
 have hs:=ai s
 obtain⟨N,hN⟩:∃N,s.length=N:=⟨_,rfl⟩
 have HN:=jd hN
 rw[hN] at hs hs9
 clear hN
 cases hc:s.contains 39 with
 |false=>
  rw[hc] at hC
  have HC:=jd hC
  have HQ:Hid (ga s=39::s++[39]):=jd (by unfold ga;rw[hc];rfl)
  have a1:(⟨#[39]⟩:ByteArray)++BA s=BA (39::s):=aq [39] s
  have a2:BA (39::s)++(⟨#[39]⟩:ByteArray)=BA (39::s++[39]):=aq (39::s) [39]
  have z1:(BA (39::s)).size=N+1:=by rw[ai,List.length_cons,HN.o]
  clear hC hc
  go_enter Tryz.func90,Tryz.ntmps90
  go_wp2_with fail
  refine HC.o.mono ?_
  rintro x _ ⟨rfl,rfl⟩
  go_wp2_with fail
  go_ret
  rw[HQ.o]
  exact⟨rfl,rfl⟩
 |true=>
  rw[hc] at hC
  have HC:=jd hC
  have HQ:Hid (ga s=34::nC s++[34]):=jd (by unfold ga;rw[hc];rfl)
  clear hC hc
  go_enter Tryz.func90,Tryz.ntmps90
  go_wp2_with fail
  refine HC.o.mono ?_
  rintro x wa ⟨rfl,rfl⟩
  go_wp2_with fail
  go_loopg [3,13] N (fun gk s3 s13 wx=>∃j:Nat,gk=N -j∧j≤N∧s3= .string (BA (34::nC (s.take j)))∧s13= .int .i64 (j:Int)∧wx=wa)
  case atStart=>exact⟨0,rfl,Nat.zero_le _,rfl,rfl,rfl⟩
  case round=>
   obtain⟨j,rfl,hj,rfl,rfl,rfl⟩:=hrel
   have zd:=CV (s.take j)
   have zD:(BA (34::nC (s.take j))).size≤2*N+1:=by rw[ai,List.length_cons];rw[List.length_take] at zd;omega
   clear zd
   by_cases hlt:j<N
   ·obtain⟨c,hc⟩:∃c,s[j]? =some c:=⟨_,List.getElem?_eq_getElem (by rw[HN.o];exact hlt)⟩
    have g0:=fp hc
    have eX:(BA s).extract j (j+1)=BA [c]:=by
     rw[fx]
     congr 1
     have hjl:j<s.length:=by rw[HN.o];exact hlt
     rw[List.getElem?_eq_getElem hjl] at hc
     rw[jW s j hjl,Option.some.inj hc,List.drop_append_of_le_length (by rw[List.length_take];omega),List.drop_eq_nil_of_le (by rw[List.length_take];omega)]
     rfl
    have hc9:=c.toNat_lt
    have HDN:=jd (Av hc)
    clear hc
    obtain⟨D,hD⟩:∃q,nC (s.take j)=q:=⟨_,rfl⟩
    rw[hD] at HDN zD⊢
    clear hD
    have zc:(BA [c]).size=1:=ai _
    have b1:BA (34::D)++(⟨#[92]⟩:ByteArray)=BA (34::(D++[92])):=aq (34::D) [92]
    have b2:BA (34::(D++[92]))++BA [c]=BA (34::(D++[92,c])):=(aq (34::D++[92]) [c]).trans (by simp)
    have b3:BA (34::D)++BA [c]=BA (34::(D++[c])):=aq (34::D) [c]
    have zm:(BA (34::(D++[92]))).size≤2*N+2:=by rw[ai] at zD⊢;simp at zD⊢;omega
    have hodd:=AA wr c
    cases ho:ik c with
    |true=>
     rw[ho] at HDN hodd
     have HO:=jd hodd
     clear hodd ho
     go_wp2_with fail
     refine HO.o.mono ?_
     rintro x w3 ⟨⟨i,rfl,hi⟩,rfl⟩
     go_wp2_with fail
     go_roundg (N -(j+1))
     case measure=>omega
     case rel=>exact⟨j+1,rfl,hlt,by rw[HDN.o];rfl,by go_num,rfl⟩
    |false=>
     rw[ho] at HDN hodd
     have HO:=jd hodd
     clear hodd ho
     go_wp2_with fail
     refine HO.o.mono ?_
     rintro x w3 ⟨⟨i,rfl,hi⟩,rfl⟩
     go_wp2_with fail
     go_roundg (N -(j+1))
     case measure=>omega
     case rel=>exact⟨j+1,rfl,hlt,by rw[HDN.o];rfl,by go_num,rfl⟩
   ·obtain rfl:j=N:=by omega
    have htk:s.take j=s:=List.take_of_length_le (by rw[HN.o];exact Nat.le_refl _)
    rw[htk] at zD⊢
    have b1:BA (34::nC s)++(⟨#[34]⟩:ByteArray)=BA (34::nC s++[34]):=aq (34::nC s) [34]
    go_wp2_with fail
    go_ret
    rw[HQ.o]
    exact⟨rfl,rfl⟩
def gy (n:Nat):Prop:=∀(w:World) (F:Nat→Prop) (v:Value) (l:List Prt),szL l≤n→(aA l).length≤1000000000→WAt w F v l→
 Calls Tryz.prog 75 #[v] w fun x w'=>x= .returned (.string (BA (aA l)))∧Kept (fun _=>False) w w'
theorem fE (p:Prt) (l:List Prt):aA (p::l)=bE p++aA l:=by show bE.textL _=_;rw[bE.textL]
theorem eR:aA []=[]:=by show bE.textL _=_;rw[bE.textL]
theorem vZ (t:List UInt8):t.length+2≤(ga t).length:=by
 have key:∀t:List UInt8,t.length≤(t.flatMap (fun c=>if ik c then[92,c] else[c])).length:=by
  intro t
  induction t with
  |nil=>exact Nat.le_refl _
  |cons c s ih=>
   rw[List.flatMap_cons,List.length_append,List.length_cons]
   have:1≤(if ik c then[92,c] else[c]:List UInt8).length:=by split<;>simp
   omega
 unfold ga
 split
 ·have:=key t;simp only[List.length_append,List.length_cons,List.length_nil];omega
 ·simp only[List.length_append,List.length_cons,List.length_nil];omega
def kg (k:Int) (t:List UInt8) (o:List Prt):List UInt8:=if k=2 then[36,123]++t++[125] else if k=3 then[36,123]++t++[58,45]++aA o++[125] else if k=4 then[36,63] else if k=5 then[36,40,40]++t++[41,41] else t
theorem dq (k:Int) (t:List UInt8) (o:List Prt) (q:Bool):bE (.mk k t o q)=if k=1 then(if q then ga t else t) else if q then[34]++kg k t o++[34] else kg k t o:=by
 rw[bE];rfl
set_option maxHeartbeats 8000000 in
theorem nH (n:Nat) (HT:Hid (gy n)) (w:World) (F:Nat→Prop) (t:List UInt8) (o:List Prt) (oa:Option Addr) (on oc:Nat) (hn:szL o≤n) (hl:(bE (.mk 1 t o true)).length≤1000000000) (ho:WAt w F (.slice oa on oc) o):
  Calls Tryz.prog 84 #[.agg #[.int .i64 1,.string (BA t),.slice oa on oc,.bool true]] w fun x w'=>x= .returned (.string (BA (bE (.mk 1 t o true))))∧Kept (fun _=>False) w w':=by
 have HK:Hid (Kept (fun _=>False) w (w.alloc (.cells #[.int .i64 1,.string (BA t),.slice oa on oc,.bool true] 101))):=jd ((Kept.refl _ w).alloc _)
 have HX:Hid (bE (.mk 1 t o true)=ga t):=jd (by rw[dq];rfl)
 rw[HX.o] at hl⊢
 have htl:t.length≤1000000000:=by have:=vZ t;omega
 clear hl ho hn
 go_enter Tryz.func84,Tryz.ntmps84
 go_wp2_with fail
 refine(wb _ t htl).mono ?_
 rintro x _ ⟨rfl,rfl⟩
 go_wp2_with fail
 go_ret
 exact⟨rfl,HK.o⟩
set_option maxHeartbeats 8000000 in
theorem mF (n:Nat) (HT:Hid (gy n)) (w:World) (F:Nat→Prop) (t:List UInt8) (o:List Prt) (oa:Option Addr) (on oc:Nat) (hn:szL o≤n) (hl:(bE (.mk 1 t o false)).length≤1000000000) (ho:WAt w F (.slice oa on oc) o):
  Calls Tryz.prog 84 #[.agg #[.int .i64 1,.string (BA t),.slice oa on oc,.bool false]] w fun x w'=>x= .returned (.string (BA (bE (.mk 1 t o false))))∧Kept (fun _=>False) w w':=by
 have HK:Hid (Kept (fun _=>False) w (w.alloc (.cells #[.int .i64 1,.string (BA t),.slice oa on oc,.bool false] 101))):=jd ((Kept.refl _ w).alloc _)
 have HX:Hid (bE (.mk 1 t o false)=t):=jd (by rw[dq];rfl)
 rw[HX.o] at hl⊢
 clear hl ho hn
 go_enter Tryz.func84,Tryz.ntmps84
 go_wp2_with fail
 go_ret
 exact⟨rfl,HK.o⟩
set_option maxHeartbeats 8000000 in
theorem pJ (n:Nat) (HT:Hid (gy n)) (w:World) (F:Nat→Prop) (t:List UInt8) (o:List Prt) (oa:Option Addr) (on oc:Nat) (hn:szL o≤n) (hl:(bE (.mk 2 t o true)).length≤1000000000) (ho:WAt w F (.slice oa on oc) o):
  Calls Tryz.prog 84 #[.agg #[.int .i64 2,.string (BA t),.slice oa on oc,.bool true]] w fun x w'=>x= .returned (.string (BA (bE (.mk 2 t o true))))∧Kept (fun _=>False) w w':=by
 have HK:Hid (Kept (fun _=>False) w (w.alloc (.cells #[.int .i64 2,.string (BA t),.slice oa on oc,.bool true] 101))):=jd ((Kept.refl _ w).alloc _)
 have HX:Hid (bE (.mk 2 t o true)=[34]++([36,123]++t++[125])++[34]):=jd (by rw[dq];unfold kg;rfl)
 rw[HX.o] at hl⊢
 have zt:(BA t).size≤1000000000:=by rw[ai];first|omega|(simp only[List.length_append,List.length_cons,List.length_nil] at hl;omega)
 have a1:(⟨#[36,123]⟩:ByteArray)++BA t=BA ([36,123]++t):=aq [36,123] t
 have a2:BA ([36,123]++t)++(⟨#[125]⟩:ByteArray)=BA ([36,123]++t++[125]):=aq _ [125]
 have z1:(BA ([36,123]++t)).size≤1000000002:=by rw[ai];simp only[List.length_append,List.length_cons,List.length_nil] at hl⊢;omega
 have y1:(⟨#[34]⟩:ByteArray)++BA ([36,123]++t++[125])=BA ([34]++([36,123]++t++[125])):=aq [34] _
 have y2:BA ([34]++([36,123]++t++[125]))++(⟨#[34]⟩:ByteArray)=BA ([34]++([36,123]++t++[125])++[34]):=aq _ [34]
 have zy:(BA ([36,123]++t++[125])).size≤1000000000:=by rw[ai];first|(simp only[List.length_append,List.length_cons,List.length_nil] at hl⊢;omega)|(simp only[List.length_append,List.length_cons,List.length_nil] at hl;omega)|simp
 have zz:(BA ([34]++([36,123]++t++[125]))).size≤1000000001:=by rw[ai];first|(simp only[List.length_append,List.length_cons,List.length_nil] at hl⊢;omega)|simp
 clear hl ho hn HX
 generalize BA ([36,123]++t)=S0 at*
 generalize BA ([36,123]++t++[125])=SC at*
 generalize BA ([34]++([36,123]++t++[125]))=SD at*
 generalize BA ([34]++([36,123]++t++[125])++[34])=SE at*
 go_enter Tryz.func84,Tryz.ntmps84
 go_wp2_with fail
 go_ret
 exact⟨rfl,HK.o⟩
set_option maxHeartbeats 8000000 in
theorem nD (n:Nat) (HT:Hid (gy n)) (w:World) (F:Nat→Prop) (t:List UInt8) (o:List Prt) (oa:Option Addr) (on oc:Nat) (hn:szL o≤n) (hl:(bE (.mk 2 t o false)).length≤1000000000) (ho:WAt w F (.slice oa on oc) o):
  Calls Tryz.prog 84 #[.agg #[.int .i64 2,.string (BA t),.slice oa on oc,.bool false]] w fun x w'=>x= .returned (.string (BA (bE (.mk 2 t o false))))∧Kept (fun _=>False) w w':=by
 have HK:Hid (Kept (fun _=>False) w (w.alloc (.cells #[.int .i64 2,.string (BA t),.slice oa on oc,.bool false] 101))):=jd ((Kept.refl _ w).alloc _)
 have HX:Hid (bE (.mk 2 t o false)=[36,123]++t++[125]):=jd (by rw[dq];unfold kg;rfl)
 rw[HX.o] at hl⊢
 have zt:(BA t).size≤1000000000:=by rw[ai];first|omega|(simp only[List.length_append,List.length_cons,List.length_nil] at hl;omega)
 have a1:(⟨#[36,123]⟩:ByteArray)++BA t=BA ([36,123]++t):=aq [36,123] t
 have a2:BA ([36,123]++t)++(⟨#[125]⟩:ByteArray)=BA ([36,123]++t++[125]):=aq _ [125]
 have z1:(BA ([36,123]++t)).size≤1000000002:=by rw[ai];simp only[List.length_append,List.length_cons,List.length_nil] at hl⊢;omega
 clear hl ho hn HX
 generalize BA ([36,123]++t)=S0 at*
 generalize BA ([36,123]++t++[125])=SC at*
 go_enter Tryz.func84,Tryz.ntmps84
 go_wp2_with fail
 go_ret
 exact⟨rfl,HK.o⟩
set_option maxHeartbeats 8000000 in
theorem mO (n:Nat) (HT:Hid (gy n)) (w:World) (F:Nat→Prop) (t:List UInt8) (o:List Prt) (oa:Option Addr) (on oc:Nat) (hn:szL o≤n) (hl:(bE (.mk 4 t o true)).length≤1000000000) (ho:WAt w F (.slice oa on oc) o):
  Calls Tryz.prog 84 #[.agg #[.int .i64 4,.string (BA t),.slice oa on oc,.bool true]] w fun x w'=>x= .returned (.string (BA (bE (.mk 4 t o true))))∧Kept (fun _=>False) w w':=by
 have HK:Hid (Kept (fun _=>False) w (w.alloc (.cells #[.int .i64 4,.string (BA t),.slice oa on oc,.bool true] 101))):=jd ((Kept.refl _ w).alloc _)
 have HX:Hid (bE (.mk 4 t o true)=[34,36,63,34]):=jd (by rw[dq];rfl)
 rw[HX.o]
 clear hl ho hn HX
 go_enter Tryz.func84,Tryz.ntmps84
 go_wp2_with fail
 go_ret
 exact⟨rfl,HK.o⟩
set_option maxHeartbeats 8000000 in
theorem mn (n:Nat) (HT:Hid (gy n)) (w:World) (F:Nat→Prop) (t:List UInt8) (o:List Prt) (oa:Option Addr) (on oc:Nat) (hn:szL o≤n) (hl:(bE (.mk 4 t o false)).length≤1000000000) (ho:WAt w F (.slice oa on oc) o):
  Calls Tryz.prog 84 #[.agg #[.int .i64 4,.string (BA t),.slice oa on oc,.bool false]] w fun x w'=>x= .returned (.string (BA (bE (.mk 4 t o false))))∧Kept (fun _=>False) w w':=by
 have HK:Hid (Kept (fun _=>False) w (w.alloc (.cells #[.int .i64 4,.string (BA t),.slice oa on oc,.bool false] 101))):=jd ((Kept.refl _ w).alloc _)
 have HX:Hid (bE (.mk 4 t o false)=[36,63]):=jd (by rw[dq];rfl)
 rw[HX.o]
 clear hl ho hn HX
 go_enter Tryz.func84,Tryz.ntmps84
 go_wp2_with fail
 go_ret
 exact⟨rfl,HK.o⟩
set_option maxHeartbeats 8000000 in
theorem nI (n:Nat) (HT:Hid (gy n)) (w:World) (F:Nat→Prop) (t:List UInt8) (o:List Prt) (oa:Option Addr) (on oc:Nat) (hn:szL o≤n) (hl:(bE (.mk 5 t o true)).length≤1000000000) (ho:WAt w F (.slice oa on oc) o):
  Calls Tryz.prog 84 #[.agg #[.int .i64 5,.string (BA t),.slice oa on oc,.bool true]] w fun x w'=>x= .returned (.string (BA (bE (.mk 5 t o true))))∧Kept (fun _=>False) w w':=by
 have HK:Hid (Kept (fun _=>False) w (w.alloc (.cells #[.int .i64 5,.string (BA t),.slice oa on oc,.bool true] 101))):=jd ((Kept.refl _ w).alloc _)
 have HX:Hid (bE (.mk 5 t o true)=[34]++([36,40,40]++t++[41,41])++[34]):=jd (by rw[dq];unfold kg;rfl)
 rw[HX.o] at hl⊢
 have zt:(BA t).size≤1000000000:=by rw[ai];first|omega|(simp only[List.length_append,List.length_cons,List.length_nil] at hl;omega)
 have a1:(⟨#[36,40,40]⟩:ByteArray)++BA t=BA ([36,40,40]++t):=aq [36,40,40] t
 have a2:BA ([36,40,40]++t)++(⟨#[41,41]⟩:ByteArray)=BA ([36,40,40]++t++[41,41]):=aq _ [41,41]
 have z1:(BA ([36,40,40]++t)).size≤1000000003:=by rw[ai];simp only[List.length_append,List.length_cons,List.length_nil] at hl⊢;omega
 have y1:(⟨#[34]⟩:ByteArray)++BA ([36,40,40]++t++[41,41])=BA ([34]++([36,40,40]++t++[41,41])):=aq [34] _
 have y2:BA ([34]++([36,40,40]++t++[41,41]))++(⟨#[34]⟩:ByteArray)=BA ([34]++([36,40,40]++t++[41,41])++[34]):=aq _ [34]
 have zy:(BA ([36,40,40]++t++[41,41])).size≤1000000000:=by rw[ai];first|(simp only[List.length_append,List.length_cons,List.length_nil] at hl⊢;omega)|(simp only[List.length_append,List.length_cons,List.length_nil] at hl;omega)|simp
 have zz:(BA ([34]++([36,40,40]++t++[41,41]))).size≤1000000001:=by rw[ai];first|(simp only[List.length_append,List.length_cons,List.length_nil] at hl⊢;omega)|simp
 clear hl ho hn HX
 generalize BA ([36,40,40]++t)=S0 at*
 generalize BA ([36,40,40]++t++[41,41])=SC at*
 generalize BA ([34]++([36,40,40]++t++[41,41]))=SD at*
 generalize BA ([34]++([36,40,40]++t++[41,41])++[34])=SE at*
 go_enter Tryz.func84,Tryz.ntmps84
 go_wp2_with fail
 go_ret
 exact⟨rfl,HK.o⟩
set_option maxHeartbeats 8000000 in
theorem mE (n:Nat) (HT:Hid (gy n)) (w:World) (F:Nat→Prop) (t:List UInt8) (o:List Prt) (oa:Option Addr) (on oc:Nat) (hn:szL o≤n) (hl:(bE (.mk 5 t o false)).length≤1000000000) (ho:WAt w F (.slice oa on oc) o):
  Calls Tryz.prog 84 #[.agg #[.int .i64 5,.string (BA t),.slice oa on oc,.bool false]] w fun x w'=>x= .returned (.string (BA (bE (.mk 5 t o false))))∧Kept (fun _=>False) w w':=by
 have HK:Hid (Kept (fun _=>False) w (w.alloc (.cells #[.int .i64 5,.string (BA t),.slice oa on oc,.bool false] 101))):=jd ((Kept.refl _ w).alloc _)
 have HX:Hid (bE (.mk 5 t o false)=[36,40,40]++t++[41,41]):=jd (by rw[dq];unfold kg;rfl)
 rw[HX.o] at hl⊢
 have zt:(BA t).size≤1000000000:=by rw[ai];first|omega|(simp only[List.length_append,List.length_cons,List.length_nil] at hl;omega)
 have a1:(⟨#[36,40,40]⟩:ByteArray)++BA t=BA ([36,40,40]++t):=aq [36,40,40] t
 have a2:BA ([36,40,40]++t)++(⟨#[41,41]⟩:ByteArray)=BA ([36,40,40]++t++[41,41]):=aq _ [41,41]
 have z1:(BA ([36,40,40]++t)).size≤1000000003:=by rw[ai];simp only[List.length_append,List.length_cons,List.length_nil] at hl⊢;omega
 clear hl ho hn HX
 generalize BA ([36,40,40]++t)=S0 at*
 generalize BA ([36,40,40]++t++[41,41])=SC at*
 go_enter Tryz.func84,Tryz.ntmps84
 go_wp2_with fail
 go_ret
 exact⟨rfl,HK.o⟩
set_option maxHeartbeats 8000000 in
theorem nJ (n:Nat) (HT:Hid (gy n)) (w:World) (F:Nat→Prop) (k:Int) (t:List UInt8) (o:List Prt) (oa:Option Addr) (on oc:Nat) (hk:k≠1∧k≠2∧k≠3∧k≠4∧k≠5) (hn:szL o≤n) (hl:(bE (.mk k t o true)).length≤1000000000) (ho:WAt w F (.slice oa on oc) o):
  Calls Tryz.prog 84 #[.agg #[.int .i64 k,.string (BA t),.slice oa on oc,.bool true]] w fun x w'=>x= .returned (.string (BA (bE (.mk k t o true))))∧Kept (fun _=>False) w w':=by
 have HK:Hid (Kept (fun _=>False) w (w.alloc (.cells #[.int .i64 k,.string (BA t),.slice oa on oc,.bool true] 101))):=jd ((Kept.refl _ w).alloc _)
 have HX:Hid (bE (.mk k t o true)=[34]++(t)++[34]):=jd (by rw[dq];unfold kg;simp[hk])
 rw[HX.o] at hl⊢
 have zt:(BA t).size≤1000000000:=by rw[ai];first|omega|(simp only[List.length_append,List.length_cons,List.length_nil] at hl;omega)
 obtain⟨h1,h2,h3,h4,h5⟩:=hk
 have b1:(k==1)=false:=by simpa using h1
 have b2:(k==2)=false:=by simpa using h2
 have b3:(k==3)=false:=by simpa using h3
 have b4:(k==4)=false:=by simpa using h4
 have b5:(k==5)=false:=by simpa using h5
 clear h1 h2 h3 h4 h5
 have y1:(⟨#[34]⟩:ByteArray)++BA (t)=BA ([34]++(t)):=aq [34] _
 have y2:BA ([34]++(t))++(⟨#[34]⟩:ByteArray)=BA ([34]++(t)++[34]):=aq _ [34]
 have zy:(BA (t)).size≤1000000000:=by rw[ai];first|(simp only[List.length_append,List.length_cons,List.length_nil] at hl⊢;omega)|(simp only[List.length_append,List.length_cons,List.length_nil] at hl;omega)|simp
 have zz:(BA ([34]++(t))).size≤1000000001:=by rw[ai];first|(simp only[List.length_append,List.length_cons,List.length_nil] at hl⊢;omega)|simp
 clear hl ho hn HX
 generalize BA ([34]++t)=SD at*
 generalize BA ([34]++t++[34])=SE at*
 go_enter Tryz.func84,Tryz.ntmps84
 go_wp2_with fail
 go_ret
 exact⟨rfl,HK.o⟩
set_option maxHeartbeats 8000000 in
theorem mv (n:Nat) (HT:Hid (gy n)) (w:World) (F:Nat→Prop) (k:Int) (t:List UInt8) (o:List Prt) (oa:Option Addr) (on oc:Nat) (hk:k≠1∧k≠2∧k≠3∧k≠4∧k≠5) (hn:szL o≤n) (hl:(bE (.mk k t o false)).length≤1000000000) (ho:WAt w F (.slice oa on oc) o):
  Calls Tryz.prog 84 #[.agg #[.int .i64 k,.string (BA t),.slice oa on oc,.bool false]] w fun x w'=>x= .returned (.string (BA (bE (.mk k t o false))))∧Kept (fun _=>False) w w':=by
 have HK:Hid (Kept (fun _=>False) w (w.alloc (.cells #[.int .i64 k,.string (BA t),.slice oa on oc,.bool false] 101))):=jd ((Kept.refl _ w).alloc _)
 have HX:Hid (bE (.mk k t o false)=t):=jd (by rw[dq];unfold kg;simp[hk])
 rw[HX.o] at hl⊢
 have zt:(BA t).size≤1000000000:=by rw[ai];first|omega|(simp only[List.length_append,List.length_cons,List.length_nil] at hl;omega)
 obtain⟨h1,h2,h3,h4,h5⟩:=hk
 have b1:(k==1)=false:=by simpa using h1
 have b2:(k==2)=false:=by simpa using h2
 have b3:(k==3)=false:=by simpa using h3
 have b4:(k==4)=false:=by simpa using h4
 have b5:(k==5)=false:=by simpa using h5
 clear h1 h2 h3 h4 h5
 clear hl ho hn HX
 go_enter Tryz.func84,Tryz.ntmps84
 go_wp2_with fail
 go_ret
 exact⟨rfl,HK.o⟩
set_option maxHeartbeats 8000000 in
theorem lx (n:Nat) (HT:Hid (gy n)) (w:World) (F:Nat→Prop) (t:List UInt8) (o:List Prt) (oa:Option Addr) (on oc:Nat) (hn:szL o≤n) (hl:(bE (.mk 3 t o true)).length≤1000000000) (ho:WAt w F (.slice oa on oc) o):
  Calls Tryz.prog 84 #[.agg #[.int .i64 3,.string (BA t),.slice oa on oc,.bool true]] w fun x w'=>x= .returned (.string (BA (bE (.mk 3 t o true))))∧Kept (fun _=>False) w w':=by
 have HK:Hid (Kept (fun _=>False) w (w.alloc (.cells #[.int .i64 3,.string (BA t),.slice oa on oc,.bool true] 101))):=jd ((Kept.refl _ w).alloc _)
 have HX:Hid (bE (.mk 3 t o true)=[34]++([36,123]++t++[58,45]++aA o++[125])++[34]):=jd (by rw[dq];rfl)
 rw[HX.o] at hl⊢
 have zt:(BA t).size≤1000000000:=by rw[ai];first|omega|(simp only[List.length_append,List.length_cons,List.length_nil] at hl;omega)
 have htx:(aA o).length≤1000000000:=by simp only[List.length_append,List.length_cons,List.length_nil] at hl;omega
 have a1:(⟨#[36,123]⟩:ByteArray)++BA t=BA ([36,123]++t):=aq [36,123] t
 have a2:BA ([36,123]++t)++(⟨#[58,45]⟩:ByteArray)=BA ([36,123]++t++[58,45]):=aq _ [58,45]
 have a3:BA ([36,123]++t++[58,45])++BA (aA o)=BA ([36,123]++t++[58,45]++aA o):=aq _ _
 have a4:BA ([36,123]++t++[58,45]++aA o)++(⟨#[125]⟩:ByteArray)=BA ([36,123]++t++[58,45]++aA o++[125]):=aq _ [125]
 have z1:(BA ([36,123]++t)).size≤1000000002:=by rw[ai];simp only[List.length_append,List.length_cons,List.length_nil] at hl⊢;omega
 have z2:(BA ([36,123]++t++[58,45])).size≤1000000004:=by rw[ai];simp only[List.length_append,List.length_cons,List.length_nil] at hl⊢;omega
 have z3:(BA ([36,123]++t++[58,45]++aA o)).size≤1000000004:=by rw[ai];simp only[List.length_append,List.length_cons,List.length_nil] at hl⊢;omega
 have z4:(BA (aA o)).size≤1000000000:=by rw[ai];exact htx
 have y1:(⟨#[34]⟩:ByteArray)++BA ([36,123]++t++[58,45]++aA o++[125])=BA ([34]++([36,123]++t++[58,45]++aA o++[125])):=aq [34] _
 have y2:BA ([34]++([36,123]++t++[58,45]++aA o++[125]))++(⟨#[34]⟩:ByteArray)=BA ([34]++([36,123]++t++[58,45]++aA o++[125])++[34]):=aq _ [34]
 have zy:(BA ([36,123]++t++[58,45]++aA o++[125])).size≤1000000000:=by rw[ai];first|(simp only[List.length_append,List.length_cons,List.length_nil] at hl⊢;omega)|(simp only[List.length_append,List.length_cons,List.length_nil] at hl;omega)|simp
 have zz:(BA ([34]++([36,123]++t++[58,45]++aA o++[125]))).size≤1000000001:=by rw[ai];first|(simp only[List.length_append,List.length_cons,List.length_nil] at hl⊢;omega)|simp
 have HP:Hid (PAt (w.alloc (.cells #[.int .i64 3,.string (BA t),.slice oa on oc,.bool true] 101)) w.heap.size 3 t (.slice oa on oc) true):=jd (heap_alloc w _)
 have HW:Hid (WAt (w.alloc (.cells #[.int .i64 3,.string (BA t),.slice oa on oc,.bool true] 101)) F (.slice oa on oc) o):=jd (ho.kept HK.o (fun _ _ h=>h))
 clear hl ho HX
 generalize BA ([36,123]++t)=S0 at*
 generalize BA ([36,123]++t++[58,45])=S1 at*
 generalize BA ([36,123]++t++[58,45]++aA o)=S2 at*
 generalize BA ([36,123]++t++[58,45]++aA o++[125])=SC at*
 generalize BA ([34]++([36,123]++t++[58,45]++aA o++[125]))=SD at*
 generalize BA ([34]++([36,123]++t++[58,45]++aA o++[125])++[34])=SE at*
 go_enter Tryz.func84,Tryz.ntmps84
 go_wp2_with fail
 generalize(w.alloc (.cells #[.int .i64 3,.string (BA t),.slice oa on oc,.bool true] 101))=w1 at*
 obtain⟨rb,hrb⟩:∃rb,w.heap.size=rb:=⟨_,rfl⟩
 rw[hrb] at HP⊢
 clear hrb
 refine cU 9 [stV (.pointer (some ⟨rb,1,none⟩)),stV (.string (BA t)),stV (.string S0),stV (.string S1),stV (.pointer (some ⟨rb,2,none⟩)),stV (.slice oa on oc),stV (.string (BA (aA o))),stV (.string S2),stV (.string SC)] (by kernel_rfl) (by kernel_rfl) ?_ ?_
 ·iterate 6
   refine ag (fun a' w' hI hag hf K hK=>?_) ?_
   ·obtain⟨⟨_,h0,rfl⟩,-⟩:=hf
    have s1:=hag.same 1 (by decide)
    clear hag
    have hh:PAt w' rb 3 t (.slice oa on oc) true:=hI.heap HP.o (fun h=>h)
    obtain⟨⟨p0,p1,p2,p3⟩,-⟩:=PAt.cells hh
    clear hh
    go_wp2_with fail
    exact hK _ _ hI (Kept.refl _ _) rfl
  refine ag (fun a' w' hI hag hf K hK=>?_) ?_
  ·obtain⟨⟨_,h5,rfl⟩,-⟩:aB _ _ a' w' [5]:=hf
   clear hag
   go_wp2_with fail
   refine(HT.o _ F (.slice oa on oc) o hn htx (HW.o.kept hI (fun _ _ h=>h))).mono ?_
   rintro e wn ⟨rfl,hkn⟩
   go_wp2_with fail
   exact hK _ _ (hI.trans hkn (fun _ _ h=>h)) hkn rfl
  iterate 2
   refine ag (fun a' w' hI hag hf K hK=>?_) ?_
   ·obtain⟨⟨_,h0,rfl⟩,⟨_,h1,rfl⟩,-⟩:=hf
    clear hag
    go_wp2_with fail
    exact hK _ _ hI (Kept.refl _ _) rfl
  exact trivial
 ·intro vs w' hI hvs
  simp only[pzz,aS,Act.put,Nat.reduceAdd,spv (hvs 0 _ _ rfl rfl) rfl,spv (hvs 1 _ _ rfl rfl) rfl,spv (hvs 2 _ _ rfl rfl) rfl,spv (hvs 3 _ _ rfl rfl) rfl,spv (hvs 4 _ _ rfl rfl) rfl,spv (hvs 5 _ _ rfl rfl) rfl,spv (hvs 6 _ _ rfl rfl) rfl,spv (hvs 7 _ _ rfl rfl) rfl,spv (hvs 8 _ _ rfl rfl) rfl]
  clear hvs
  have KX:=jd (HK.o.trans hI (fun _ _ h=>h))
  have hh:=hI.heap HP.o (fun h=>h)
  obtain⟨⟨p0,p1,p2,p3⟩,-⟩:=PAt.cells hh
  clear hh
  go_wp2_with fail
  go_ret
  exact⟨rfl,KX.o⟩
set_option maxHeartbeats 8000000 in
theorem km (n:Nat) (HT:Hid (gy n)) (w:World) (F:Nat→Prop) (t:List UInt8) (o:List Prt) (oa:Option Addr) (on oc:Nat) (hn:szL o≤n) (hl:(bE (.mk 3 t o false)).length≤1000000000) (ho:WAt w F (.slice oa on oc) o):
  Calls Tryz.prog 84 #[.agg #[.int .i64 3,.string (BA t),.slice oa on oc,.bool false]] w fun x w'=>x= .returned (.string (BA (bE (.mk 3 t o false))))∧Kept (fun _=>False) w w':=by
 have HK:Hid (Kept (fun _=>False) w (w.alloc (.cells #[.int .i64 3,.string (BA t),.slice oa on oc,.bool false] 101))):=jd ((Kept.refl _ w).alloc _)
 have HX:Hid (bE (.mk 3 t o false)=[36,123]++t++[58,45]++aA o++[125]):=jd (by rw[dq];rfl)
 rw[HX.o] at hl⊢
 have zt:(BA t).size≤1000000000:=by rw[ai];first|omega|(simp only[List.length_append,List.length_cons,List.length_nil] at hl;omega)
 have htx:(aA o).length≤1000000000:=by simp only[List.length_append,List.length_cons,List.length_nil] at hl;omega
 have a1:(⟨#[36,123]⟩:ByteArray)++BA t=BA ([36,123]++t):=aq [36,123] t
 have a2:BA ([36,123]++t)++(⟨#[58,45]⟩:ByteArray)=BA ([36,123]++t++[58,45]):=aq _ [58,45]
 have a3:BA ([36,123]++t++[58,45])++BA (aA o)=BA ([36,123]++t++[58,45]++aA o):=aq _ _
 have a4:BA ([36,123]++t++[58,45]++aA o)++(⟨#[125]⟩:ByteArray)=BA ([36,123]++t++[58,45]++aA o++[125]):=aq _ [125]
 have z1:(BA ([36,123]++t)).size≤1000000002:=by rw[ai];simp only[List.length_append,List.length_cons,List.length_nil] at hl⊢;omega
 have z2:(BA ([36,123]++t++[58,45])).size≤1000000004:=by rw[ai];simp only[List.length_append,List.length_cons,List.length_nil] at hl⊢;omega
 have z3:(BA ([36,123]++t++[58,45]++aA o)).size≤1000000004:=by rw[ai];simp only[List.length_append,List.length_cons,List.length_nil] at hl⊢;omega
 have z4:(BA (aA o)).size≤1000000000:=by rw[ai];exact htx
 have HP:Hid (PAt (w.alloc (.cells #[.int .i64 3,.string (BA t),.slice oa on oc,.bool false] 101)) w.heap.size 3 t (.slice oa on oc) false):=jd (heap_alloc w _)
 have HW:Hid (WAt (w.alloc (.cells #[.int .i64 3,.string (BA t),.slice oa on oc,.bool false] 101)) F (.slice oa on oc) o):=jd (ho.kept HK.o (fun _ _ h=>h))
 clear hl ho HX
 generalize BA ([36,123]++t)=S0 at*
 generalize BA ([36,123]++t++[58,45])=S1 at*
 generalize BA ([36,123]++t++[58,45]++aA o)=S2 at*
 generalize BA ([36,123]++t++[58,45]++aA o++[125])=SC at*
 go_enter Tryz.func84,Tryz.ntmps84
 go_wp2_with fail
 generalize(w.alloc (.cells #[.int .i64 3,.string (BA t),.slice oa on oc,.bool false] 101))=w1 at*
 obtain⟨rb,hrb⟩:∃rb,w.heap.size=rb:=⟨_,rfl⟩
 rw[hrb] at HP⊢
 clear hrb
 refine cU 9 [stV (.pointer (some ⟨rb,1,none⟩)),stV (.string (BA t)),stV (.string S0),stV (.string S1),stV (.pointer (some ⟨rb,2,none⟩)),stV (.slice oa on oc),stV (.string (BA (aA o))),stV (.string S2),stV (.string SC)] (by kernel_rfl) (by kernel_rfl) ?_ ?_
 ·iterate 6
   refine ag (fun a' w' hI hag hf K hK=>?_) ?_
   ·obtain⟨⟨_,h0,rfl⟩,-⟩:=hf
    have s1:=hag.same 1 (by decide)
    clear hag
    have hh:PAt w' rb 3 t (.slice oa on oc) false:=hI.heap HP.o (fun h=>h)
    obtain⟨⟨p0,p1,p2,p3⟩,-⟩:=PAt.cells hh
    clear hh
    go_wp2_with fail
    exact hK _ _ hI (Kept.refl _ _) rfl
  refine ag (fun a' w' hI hag hf K hK=>?_) ?_
  ·obtain⟨⟨_,h5,rfl⟩,-⟩:aB _ _ a' w' [5]:=hf
   clear hag
   go_wp2_with fail
   refine(HT.o _ F (.slice oa on oc) o hn htx (HW.o.kept hI (fun _ _ h=>h))).mono ?_
   rintro e wn ⟨rfl,hkn⟩
   go_wp2_with fail
   exact hK _ _ (hI.trans hkn (fun _ _ h=>h)) hkn rfl
  iterate 2
   refine ag (fun a' w' hI hag hf K hK=>?_) ?_
   ·obtain⟨⟨_,h0,rfl⟩,⟨_,h1,rfl⟩,-⟩:=hf
    clear hag
    go_wp2_with fail
    exact hK _ _ hI (Kept.refl _ _) rfl
  exact trivial
 ·intro vs w' hI hvs
  simp only[pzz,aS,Act.put,Nat.reduceAdd,spv (hvs 0 _ _ rfl rfl) rfl,spv (hvs 1 _ _ rfl rfl) rfl,spv (hvs 2 _ _ rfl rfl) rfl,spv (hvs 3 _ _ rfl rfl) rfl,spv (hvs 4 _ _ rfl rfl) rfl,spv (hvs 5 _ _ rfl rfl) rfl,spv (hvs 6 _ _ rfl rfl) rfl,spv (hvs 7 _ _ rfl rfl) rfl,spv (hvs 8 _ _ rfl rfl) rfl]
  clear hvs
  have KX:=jd (HK.o.trans hI (fun _ _ h=>h))
  have hh:=hI.heap HP.o (fun h=>h)
  obtain⟨⟨p0,p1,p2,p3⟩,-⟩:=PAt.cells hh
  clear hh
  go_wp2_with fail
  go_ret
  exact⟨rfl,KX.o⟩
theorem sd (n:Nat) (HT:Hid (gy n)) (w:World) (F:Nat→Prop) (p:Prt) (oa:Option Addr) (on oc:Nat) (hn:szL p.orw≤n) (hl:(bE p).length≤1000000000) (ho:WAt w F (.slice oa on oc) p.orw):
  Calls Tryz.prog 84 #[.agg #[.int .i64 p.kind,.string (BA p.text),.slice oa on oc,.bool p.quoted]] w fun x w'=>x= .returned (.string (BA (bE p)))∧Kept (fun _=>False) w w':=by
 obtain⟨k,t,o,q⟩:=p
 by_cases h1:k=1
 ·subst h1;cases q
  ·exact mF n HT w F t o oa on oc hn hl ho
  ·exact nH n HT w F t o oa on oc hn hl ho
 by_cases h2:k=2
 ·subst h2;cases q
  ·exact nD n HT w F t o oa on oc hn hl ho
  ·exact pJ n HT w F t o oa on oc hn hl ho
 by_cases h3:k=3
 ·subst h3;cases q
  ·exact km n HT w F t o oa on oc hn hl ho
  ·exact lx n HT w F t o oa on oc hn hl ho
 by_cases h4:k=4
 ·subst h4;cases q
  ·exact mn n HT w F t o oa on oc hn hl ho
  ·exact mO n HT w F t o oa on oc hn hl ho
 by_cases h5:k=5
 ·subst h5;cases q
  ·exact mE n HT w F t o oa on oc hn hl ho
  ·exact nI n HT w F t o oa on oc hn hl ho
 cases q
 ·exact mv n HT w F k t o oa on oc ⟨h1,h2,h3,h4,h5⟩ hn hl ho
 ·exact nJ n HT w F k t o oa on oc ⟨h1,h2,h3,h4,h5⟩ hn hl ho
theorem uV {l:List Prt} {k:Nat} {p:Prt} (h:l[k]? =some p):aA (l.take (k+1))=aA (l.take k)++bE p:=by
 induction l generalizing k with
 |nil=>simp at h
 |cons x l ih=>
  cases k with
  |zero=>
   simp at h;subst h
   rw[List.take_succ_cons,List.take_zero,List.take_zero,fE,eR,List.append_nil,List.nil_append]
  |succ k=>
   rw[List.take_succ_cons,List.take_succ_cons,fE,fE,ih (by simpa using h),List.append_assoc]
theorem rl:∀(a b:List Prt),aA (a++b)=aA a++aA b
 |[],b=>by rw[eR];rfl
 |p::a,b=>by rw[List.cons_append,fE,fE,rl a b,List.append_assoc]
theorem AU (l:List Prt) (k:Nat):(aA (l.take k)).length≤(aA l).length:=by
 conv=>rhs;rw[←List.take_append_drop k l,rl,List.length_append]
 omega
set_option maxHeartbeats 8000000 in
theorem Ah (n:Nat):gy n:=by
 induction n using Nat.strongRecOn with
 |ind n ih=>
  intro w F v l hn htl hv
  obtain⟨a,N,c,rfl⟩:=hv.slice
  have hN:=hv.elem.1
  have hn9:=hv.max
  have HV:=jd hv;have HN:=jd hN;have HTL:=jd htl;have HSZ:=jd hn
  have HT:Hid (gy (n -1)):=jd (ih (n -1) (by have:=eu l;omega))
  clear ih hv hN htl hn
  go_enter Tryz.func75,Tryz.ntmps75
  go_wp2_with fail
  go_loopg [3,8] N (fun gk s3 s8 wx=>∃k:Nat,gk=N -k∧k≤N∧s3= .string (BA (aA (l.take k)))∧s8= .int .i64 (k:Int)∧Kept (fun _=>False) w wx)
  case atStart=>exact⟨0,rfl,Nat.zero_le _,by rw[List.take_zero,eR];rfl,rfl,Kept.refl _ _⟩
  case round=>
   obtain⟨k,rfl,hk,rfl,rfl,hkk⟩:=hrel
   have HKK:=jd hkk
   clear hkk
   by_cases hlt:k<N
   ·obtain⟨p,hp⟩:∃p,l[k]? =some p:=⟨_,List.getElem?_eq_getElem (by rw[←HN.o];exact hlt)⟩
    have hpm:p∈l:=List.mem_of_getElem? hp
    have hps:szL p.orw≤n -1:=by
     have h1:szP p<szL l:=ss hpm
     have h2:=iQ p
     have h3:=HSZ.o
     omega
    have hnx:=uV hp
    have hle1:=AU l (k+1)
    rw[hnx,List.length_append] at hle1
    have hpt:(bE p).length≤1000000000:=by have:=HTL.o;omega
    have zA:(BA (aA (l.take k))).size≤1000000000:=by rw[ai];have:=HTL.o;omega
    have zB:(BA (bE p)).size≤1000000000:=by rw[ai];exact hpt
    have bA:=aq (aA (l.take k)) (bE p)
    rw[←hnx] at bA
    obtain⟨b1,o1,oa,on,oc,e1,p0,p1,p2,p3,hao⟩:=(HV.o.kept HKK.o (fun _ _ h=>h)).elem.2 k p hp
    subst e1
    have HAO:=jd (hao.kept ((Kept.refl (fun _=>False) wr).alloc (.cells #[.int .i64 p.kind,.string (BA p.text),.slice oa on oc,.bool p.quoted] 101)) (fun _ _ h=>h))
    have hbl:b1<wr.heap.size:=World.block_lt_of_cell? wr _ p0
    have HC:=jd (sd (n -1) HT _ F p oa on oc hps hpt HAO.o)
    have K2:=jd (HKK.o.alloc (.cells #[.int .i64 p.kind,.string (BA p.text),.slice oa on oc,.bool p.quoted] 101))
    clear hp hpm hps hnx hle1 hpt hao
    go_wp2_with fail
    refine HC.o.mono ?_
    rintro x w4 ⟨rfl,k4⟩
    have K4:=jd (K2.o.trans k4 (fun _ _ h=>h))
    clear k4
    go_wp2_with fail
    go_roundg (N -(k+1))
    case measure=>omega
    case rel=>exact⟨k+1,rfl,hlt,rfl,by go_num,K4.o⟩
   ·obtain rfl:k=N:=by omega
    have htk:l.take k=l:=List.take_of_length_le (by rw[←HN.o];exact Nat.le_refl _)
    rw[htk]
    go_wp2_with fail
    go_ret
    exact⟨rfl,HKK.o⟩
theorem jn {w:World} {F:Nat→Prop} {v:Value} {l:List Prt} (hl:(aA l).length≤1000000000) (hv:WAt w F v l):
  Calls Tryz.prog 75 #[v] w fun x w'=>x= .returned (.string (BA (aA l)))∧Kept (fun _=>False) w w':=Ah (szL l) w F v l (Nat.le_refl _) hl hv
end Go.Proofs.YtgigdlhcjahejaaGreatDoor
