/- Of the proof of ParseBack: WordT, Lex3. -/
import Derived.Test.YtgigdlhcjahejaaGreatDoorE10
import Derived.Test.YtgigdlhcjahejaaGreatDoorE05
import Derived.ChangeMaps5
namespace Go.Proofs.YtgigdlhcjahejaaGreatDoor
open Go Go.RowKit Go.Lw
set_option maxRecDepth 100000
set_option linter.unusedVariables false
set_option linter.unusedSimpArgs false
attribute [local go_sem] au
theorem BD (w:World) (c:UInt8):Calls Tryz.prog 41 #[.string ⟨#[36,34,92,96]⟩,.int .u8 (c.toNat:Int)] w fun e w'=>(∃i:Int,e= .returned (.int .i64 i)∧decide (0≤i)=iT c)∧w'=w:=by
 refine(dP [36,34,92,96] c _ rfl w).mono ?_
 rintro e w' ⟨rfl,hw⟩
 refine⟨⟨_,rfl,?_⟩,hw⟩
 have h:=mD [c] (Jb _)
 unfold Lib.contains at h
 rw[Lib.index_one] at h
 rw[h]
 show(iT c&&true)=_
 rw[Bool.and_true]
theorem mK (s:LB) (c:UInt8):decide (0≤Lib.indexByte s c)=s.contains c:=by
 induction s with
 |nil=>rfl
 |cons b l ih=>
  unfold Lib.indexByte
  by_cases h:b=c
  ·subst h;simp
  ·have hb:(b==c)=false:=beq_eq_false_iff_ne.2 h
   have hge:=Lib.indexByte_ge l c
   rw[hb]
   simp only[Bool.false_eq_true,if_false]
   have hc:(b::l).contains c=l.contains c:=by
    rw[List.contains_cons]
    have:(c==b)=false:=beq_eq_false_iff_ne.2 (fun e=>h e.symm)
    rw[this,Bool.false_or]
   rw[hc,←ih]
   by_cases h2:Lib.indexByte l c=-1
   ·rw[h2];rfl
   ·have h3:(Lib.indexByte l c==-1)=false:=beq_eq_false_iff_ne.2 h2
    rw[h3]
    simp only[Bool.false_eq_true,if_false]
    rw[Jc (by omega),Jc (by omega)]
def pg (l:LB):LB:=l.flatMap fun c=>if iT c then[92,c] else[c]
theorem Ds {k:Nat} {p:LB} {c:UInt8} (h:p[k]? =some c):pg (p.take (k+1))=pg (p.take k)++(if iT c then[92,c] else[c]):=by
 unfold pg;rw[List.take_add_one,h,List.flatMap_append];simp
theorem D6 (s:LB):(pg s).length≤2*s.length:=by
 induction s with
 |nil=>exact Jb _
 |cons c s ih=>
  show((if iT c then[92,c] else[c])++pg s).length≤_
  rw[Jf,Jg]
  split<;>(simp;omega)
set_option maxHeartbeats 8000000 in
theorem yc (w:World) (s:LB) (hs9:s.length≤1000000000):
  Calls Tryz.prog 90 #[.string (BA s)] w fun x w'=>x= .returned (.string (BA (gS s)))∧w'=w:=by
 have hC:=Tryz.strings_Contains_one (BA s) 39 w
 rw[fg,mK] at hC
 have hs:=ah s
 obtain⟨N,hN⟩:∃N,s.length=N:=⟨_,rfl⟩
 have HN:=jd hN
 rw[hN] at hs hs9
 clear hN
 cases hc:s.contains 39 with
 |false=>
  rw[hc] at hC
  have HC:=jd hC
  have HQ:Hid (gS s=39::s++[39]):=jd (by unfold gS;rw[hc];rfl)
  have a1:(⟨#[39]⟩:ByteArray)++BA s=BA (39::s):=av [39] s
  have a2:BA (39::s)++(⟨#[39]⟩:ByteArray)=BA (39::s++[39]):=av (39::s) [39]
  have z1:(BA (39::s)).size=N+1:=by rw[ah,Jg,HN.o]
  clear hC hc
  go_enter Tryz.func90,Tryz.ntmps90
  go_wp2_with fail
  refine HC.o.mono ?_
  rintro x _ ⟨rfl,rfl⟩
  go_wp2_with fail
  go_ret
  rw[HQ.o]
  exact⟨rfl,rfl⟩
 |true=>
  rw[hc] at hC
  have HC:=jd hC
  have HQ:Hid (gS s=34::pg s++[34]):=jd (by unfold gS;rw[hc];rfl)
  clear hC hc
  go_enter Tryz.func90,Tryz.ntmps90
  go_wp2_with fail
  refine HC.o.mono ?_
  rintro x wa ⟨rfl,rfl⟩
  go_wp2_with fail
  go_loopg [3,13] N (fun gk s3 s13 wx=>∃j:Nat,gk=N -j∧j≤N∧s3= .string (BA (34::pg (s.take j)))∧s13= .int .i64 (j:Int)∧wx=wa)
  case atStart=>exact⟨0,rfl,Nat.zero_le _,rfl,rfl,rfl⟩
  case round=>
   obtain⟨j,rfl,hj,rfl,rfl,rfl⟩:=hrel
   have zd:=D6 (s.take j)
   have zD:(BA (34::pg (s.take j))).size≤2*N+1:=by rw[ah,Jg];rw[List.length_take] at zd;omega
   clear zd
   by_cases hlt:j<N
   ·obtain⟨c,hc⟩:∃c,s[j]? =some c:=⟨_,Je (by rw[HN.o];exact hlt)⟩
    have g0:=fW hc
    have eX:(BA s).extract j (j+1)=BA [c]:=by
     rw[fO]
     congr 1
     have hjl:j<s.length:=by rw[HN.o];exact hlt
     rw[Je hjl] at hc
     rw[lI s j hjl,Option.some.inj hc,List.drop_append_of_le_length (by rw[List.length_take];omega),List.drop_eq_nil_of_le (by rw[List.length_take];omega)]
     rfl
    have hc9:=c.toNat_lt
    have HDN:=jd (Ds hc)
    clear hc
    obtain⟨D,hD⟩:∃q,pg (s.take j)=q:=⟨_,rfl⟩
    rw[hD] at HDN zD⊢
    clear hD
    have zc:(BA [c]).size=1:=ah _
    have b1:BA (34::D)++(⟨#[92]⟩:ByteArray)=BA (34::(D++[92])):=av (34::D) [92]
    have b2:BA (34::(D++[92]))++BA [c]=BA (34::(D++[92,c])):=(av (34::D++[92]) [c]).trans (by simp)
    have b3:BA (34::D)++BA [c]=BA (34::(D++[c])):=av (34::D) [c]
    have zm:(BA (34::(D++[92]))).size≤2*N+2:=by rw[ah] at zD⊢;simp at zD⊢;omega
    have hodd:=BD wr c
    cases ho:iT c with
    |true=>
     rw[ho] at HDN hodd
     have HO:=jd hodd
     clear hodd ho
     go_wp2_with fail
     refine HO.o.mono ?_
     rintro x w3 ⟨⟨i,rfl,hi⟩,rfl⟩
     go_wp2_with fail
     go_roundg (N -(j+1))
     case measure=>omega
     case rel=>exact⟨j+1,rfl,hlt,by rw[HDN.o];rfl,by go_num,rfl⟩
    |false=>
     rw[ho] at HDN hodd
     have HO:=jd hodd
     clear hodd ho
     go_wp2_with fail
     refine HO.o.mono ?_
     rintro x w3 ⟨⟨i,rfl,hi⟩,rfl⟩
     go_wp2_with fail
     go_roundg (N -(j+1))
     case measure=>omega
     case rel=>exact⟨j+1,rfl,hlt,by rw[HDN.o];rfl,by go_num,rfl⟩
   ·obtain rfl:j=N:=by omega
    have htk:s.take j=s:=List.take_of_length_le (by rw[HN.o];exact Jb _)
    rw[htk] at zD⊢
    have b1:BA (34::pg s)++(⟨#[34]⟩:ByteArray)=BA (34::pg s++[34]):=av (34::pg s) [34]
    go_wp2_with fail
    go_ret
    rw[HQ.o]
    exact⟨rfl,rfl⟩
def iv (n:Nat):Prop:=∀(w:World) (F:Nat→Prop) (v:Value) (l:LP),szL l≤n→(af l).length≤1000000000→WAt w F v l→
 Calls Tryz.prog 75 #[v] w fun x w'=>x= .returned (.string (BA (af l)))∧Kept (fun _=>False) w w'
theorem fU (p:Prt) (l:LP):af (p::l)=bu p++af l:=by show bu.textL _=_;rw[bu.textL]
theorem dF:af []=[]:=by show bu.textL _=_;rw[bu.textL]
theorem xy (t:LB):t.length+2≤(gS t).length:=by
 have key:∀t:LB,t.length≤(t.flatMap (fun c=>if iT c then[92,c] else[c])).length:=by
  intro t
  induction t with
  |nil=>exact Jb _
  |cons c s ih=>
   rw[List.flatMap_cons,Jf,Jg]
   have:1≤(if iT c then[92,c] else[c]:LB).length:=by split<;>simp
   omega
 unfold gS
 split
 ·have:=key t;simp only[Jf,Jg,List.length_nil];omega
 ·simp only[Jf,Jg,List.length_nil];omega
def lR (k:Int) (t:LB) (o:LP):LB:=if k=2 then[36,123]++t++[125] else if k=3 then[36,123]++t++[58,45]++af o++[125] else if k=4 then[36,63] else if k=5 then[36,40,40]++t++[41,41] else t
theorem dH (k:Int) (t:LB) (o:LP) (q:Bool):bu (.mk k t o q)=if k=1 then(if q then gS t else t) else if q then[34]++lR k t o++[34] else lR k t o:=by
 rw[bu];rfl
set_option maxHeartbeats 8000000 in
theorem oX (n:Nat) (HT:Hid (iv n)) (w:World) (F:Nat→Prop) (t:LB) (o:LP) (oa:Option Addr) (on oc:Nat) (hn:szL o≤n) (hl:(bu (.mk 1 t o true)).length≤1000000000) (ho:WAt w F (.slice oa on oc) o):
  Calls Tryz.prog 84 #[.agg #[.int .i64 1,.string (BA t),.slice oa on oc,.bool true]] w fun x w'=>x= .returned (.string (BA (bu (.mk 1 t o true))))∧Kept (fun _=>False) w w':=by
 have HK:Hid (Kept (fun _=>False) w (w.alloc (.cells #[.int .i64 1,.string (BA t),.slice oa on oc,.bool true] 101))):=jd ((Ja _ w).alloc _)
 have HX:Hid (bu (.mk 1 t o true)=gS t):=jd (by rw[dH];rfl)
 rw[HX.o] at hl⊢
 have htl:t.length≤1000000000:=by have:=xy t;omega
 clear hl ho hn
 go_enter Tryz.func84,Tryz.ntmps84
 go_wp2_with fail
 refine(yc _ t htl).mono ?_
 rintro x _ ⟨rfl,rfl⟩
 go_wp2_with fail
 go_ret
 exact⟨rfl,HK.o⟩
set_option maxHeartbeats 8000000 in
theorem og (n:Nat) (HT:Hid (iv n)) (w:World) (F:Nat→Prop) (t:LB) (o:LP) (oa:Option Addr) (on oc:Nat) (hn:szL o≤n) (hl:(bu (.mk 1 t o false)).length≤1000000000) (ho:WAt w F (.slice oa on oc) o):
  Calls Tryz.prog 84 #[.agg #[.int .i64 1,.string (BA t),.slice oa on oc,.bool false]] w fun x w'=>x= .returned (.string (BA (bu (.mk 1 t o false))))∧Kept (fun _=>False) w w':=by
 have HK:Hid (Kept (fun _=>False) w (w.alloc (.cells #[.int .i64 1,.string (BA t),.slice oa on oc,.bool false] 101))):=jd ((Ja _ w).alloc _)
 have HX:Hid (bu (.mk 1 t o false)=t):=jd (by rw[dH];rfl)
 rw[HX.o] at hl⊢
 clear hl ho hn
 go_enter Tryz.func84,Tryz.ntmps84
 go_wp2_with fail
 go_ret
 exact⟨rfl,HK.o⟩
set_option maxHeartbeats 8000000 in
theorem re (n:Nat) (HT:Hid (iv n)) (w:World) (F:Nat→Prop) (t:LB) (o:LP) (oa:Option Addr) (on oc:Nat) (hn:szL o≤n) (hl:(bu (.mk 2 t o true)).length≤1000000000) (ho:WAt w F (.slice oa on oc) o):
  Calls Tryz.prog 84 #[.agg #[.int .i64 2,.string (BA t),.slice oa on oc,.bool true]] w fun x w'=>x= .returned (.string (BA (bu (.mk 2 t o true))))∧Kept (fun _=>False) w w':=by
 have HK:Hid (Kept (fun _=>False) w (w.alloc (.cells #[.int .i64 2,.string (BA t),.slice oa on oc,.bool true] 101))):=jd ((Ja _ w).alloc _)
 have HX:Hid (bu (.mk 2 t o true)=[34]++([36,123]++t++[125])++[34]):=jd (by rw[dH];unfold lR;rfl)
 rw[HX.o] at hl⊢
 have zt:(BA t).size≤1000000000:=by rw[ah];first|omega|(simp only[Jf,Jg,List.length_nil] at hl;omega)
 have a1:(⟨#[36,123]⟩:ByteArray)++BA t=BA ([36,123]++t):=av [36,123] t
 have a2:BA ([36,123]++t)++(⟨#[125]⟩:ByteArray)=BA ([36,123]++t++[125]):=av _ [125]
 have z1:(BA ([36,123]++t)).size≤1000000002:=by rw[ah];simp only[Jf,Jg,List.length_nil] at hl⊢;omega
 have y1:(⟨#[34]⟩:ByteArray)++BA ([36,123]++t++[125])=BA ([34]++([36,123]++t++[125])):=av [34] _
 have y2:BA ([34]++([36,123]++t++[125]))++(⟨#[34]⟩:ByteArray)=BA ([34]++([36,123]++t++[125])++[34]):=av _ [34]
 have zy:(BA ([36,123]++t++[125])).size≤1000000000:=by rw[ah];first|(simp only[Jf,Jg,List.length_nil] at hl⊢;omega)|(simp only[Jf,Jg,List.length_nil] at hl;omega)|simp
 have zz:(BA ([34]++([36,123]++t++[125]))).size≤1000000001:=by rw[ah];first|(simp only[Jf,Jg,List.length_nil] at hl⊢;omega)|simp
 clear hl ho hn HX
 generalize BA ([36,123]++t)=S0 at*
 generalize BA ([36,123]++t++[125])=SC at*
 generalize BA ([34]++([36,123]++t++[125]))=SD at*
 generalize BA ([34]++([36,123]++t++[125])++[34])=SE at*
 go_enter Tryz.func84,Tryz.ntmps84
 go_wp2_with fail
 go_ret
 exact⟨rfl,HK.o⟩
set_option maxHeartbeats 8000000 in
theorem oY (n:Nat) (HT:Hid (iv n)) (w:World) (F:Nat→Prop) (t:LB) (o:LP) (oa:Option Addr) (on oc:Nat) (hn:szL o≤n) (hl:(bu (.mk 2 t o false)).length≤1000000000) (ho:WAt w F (.slice oa on oc) o):
  Calls Tryz.prog 84 #[.agg #[.int .i64 2,.string (BA t),.slice oa on oc,.bool false]] w fun x w'=>x= .returned (.string (BA (bu (.mk 2 t o false))))∧Kept (fun _=>False) w w':=by
 have HK:Hid (Kept (fun _=>False) w (w.alloc (.cells #[.int .i64 2,.string (BA t),.slice oa on oc,.bool false] 101))):=jd ((Ja _ w).alloc _)
 have HX:Hid (bu (.mk 2 t o false)=[36,123]++t++[125]):=jd (by rw[dH];unfold lR;rfl)
 rw[HX.o] at hl⊢
 have zt:(BA t).size≤1000000000:=by rw[ah];first|omega|(simp only[Jf,Jg,List.length_nil] at hl;omega)
 have a1:(⟨#[36,123]⟩:ByteArray)++BA t=BA ([36,123]++t):=av [36,123] t
 have a2:BA ([36,123]++t)++(⟨#[125]⟩:ByteArray)=BA ([36,123]++t++[125]):=av _ [125]
 have z1:(BA ([36,123]++t)).size≤1000000002:=by rw[ah];simp only[Jf,Jg,List.length_nil] at hl⊢;omega
 clear hl ho hn HX
 generalize BA ([36,123]++t)=S0 at*
 generalize BA ([36,123]++t++[125])=SC at*
 go_enter Tryz.func84,Tryz.ntmps84
 go_wp2_with fail
 go_ret
 exact⟨rfl,HK.o⟩
set_option maxHeartbeats 8000000 in
theorem nO (n:Nat) (HT:Hid (iv n)) (w:World) (F:Nat→Prop) (t:LB) (o:LP) (oa:Option Addr) (on oc:Nat) (hn:szL o≤n) (hl:(bu (.mk 4 t o true)).length≤1000000000) (ho:WAt w F (.slice oa on oc) o):
  Calls Tryz.prog 84 #[.agg #[.int .i64 4,.string (BA t),.slice oa on oc,.bool true]] w fun x w'=>x= .returned (.string (BA (bu (.mk 4 t o true))))∧Kept (fun _=>False) w w':=by
 have HK:Hid (Kept (fun _=>False) w (w.alloc (.cells #[.int .i64 4,.string (BA t),.slice oa on oc,.bool true] 101))):=jd ((Ja _ w).alloc _)
 have HX:Hid (bu (.mk 4 t o true)=[34,36,63,34]):=jd (by rw[dH];rfl)
 rw[HX.o]
 clear hl ho hn HX
 go_enter Tryz.func84,Tryz.ntmps84
 go_wp2_with fail
 go_ret
 exact⟨rfl,HK.o⟩
set_option maxHeartbeats 8000000 in
theorem mN (n:Nat) (HT:Hid (iv n)) (w:World) (F:Nat→Prop) (t:LB) (o:LP) (oa:Option Addr) (on oc:Nat) (hn:szL o≤n) (hl:(bu (.mk 4 t o false)).length≤1000000000) (ho:WAt w F (.slice oa on oc) o):
  Calls Tryz.prog 84 #[.agg #[.int .i64 4,.string (BA t),.slice oa on oc,.bool false]] w fun x w'=>x= .returned (.string (BA (bu (.mk 4 t o false))))∧Kept (fun _=>False) w w':=by
 have HK:Hid (Kept (fun _=>False) w (w.alloc (.cells #[.int .i64 4,.string (BA t),.slice oa on oc,.bool false] 101))):=jd ((Ja _ w).alloc _)
 have HX:Hid (bu (.mk 4 t o false)=[36,63]):=jd (by rw[dH];rfl)
 rw[HX.o]
 clear hl ho hn HX
 go_enter Tryz.func84,Tryz.ntmps84
 go_wp2_with fail
 go_ret
 exact⟨rfl,HK.o⟩
set_option maxHeartbeats 8000000 in
theorem oZ (n:Nat) (HT:Hid (iv n)) (w:World) (F:Nat→Prop) (t:LB) (o:LP) (oa:Option Addr) (on oc:Nat) (hn:szL o≤n) (hl:(bu (.mk 5 t o true)).length≤1000000000) (ho:WAt w F (.slice oa on oc) o):
  Calls Tryz.prog 84 #[.agg #[.int .i64 5,.string (BA t),.slice oa on oc,.bool true]] w fun x w'=>x= .returned (.string (BA (bu (.mk 5 t o true))))∧Kept (fun _=>False) w w':=by
 have HK:Hid (Kept (fun _=>False) w (w.alloc (.cells #[.int .i64 5,.string (BA t),.slice oa on oc,.bool true] 101))):=jd ((Ja _ w).alloc _)
 have HX:Hid (bu (.mk 5 t o true)=[34]++([36,40,40]++t++[41,41])++[34]):=jd (by rw[dH];unfold lR;rfl)
 rw[HX.o] at hl⊢
 have zt:(BA t).size≤1000000000:=by rw[ah];first|omega|(simp only[Jf,Jg,List.length_nil] at hl;omega)
 have a1:(⟨#[36,40,40]⟩:ByteArray)++BA t=BA ([36,40,40]++t):=av [36,40,40] t
 have a2:BA ([36,40,40]++t)++(⟨#[41,41]⟩:ByteArray)=BA ([36,40,40]++t++[41,41]):=av _ [41,41]
 have z1:(BA ([36,40,40]++t)).size≤1000000003:=by rw[ah];simp only[Jf,Jg,List.length_nil] at hl⊢;omega
 have y1:(⟨#[34]⟩:ByteArray)++BA ([36,40,40]++t++[41,41])=BA ([34]++([36,40,40]++t++[41,41])):=av [34] _
 have y2:BA ([34]++([36,40,40]++t++[41,41]))++(⟨#[34]⟩:ByteArray)=BA ([34]++([36,40,40]++t++[41,41])++[34]):=av _ [34]
 have zy:(BA ([36,40,40]++t++[41,41])).size≤1000000000:=by rw[ah];first|(simp only[Jf,Jg,List.length_nil] at hl⊢;omega)|(simp only[Jf,Jg,List.length_nil] at hl;omega)|simp
 have zz:(BA ([34]++([36,40,40]++t++[41,41]))).size≤1000000001:=by rw[ah];first|(simp only[Jf,Jg,List.length_nil] at hl⊢;omega)|simp
 clear hl ho hn HX
 generalize BA ([36,40,40]++t)=S0 at*
 generalize BA ([36,40,40]++t++[41,41])=SC at*
 generalize BA ([34]++([36,40,40]++t++[41,41]))=SD at*
 generalize BA ([34]++([36,40,40]++t++[41,41])++[34])=SE at*
 go_enter Tryz.func84,Tryz.ntmps84
 go_wp2_with fail
 go_ret
 exact⟨rfl,HK.o⟩
set_option maxHeartbeats 8000000 in
theorem nW (n:Nat) (HT:Hid (iv n)) (w:World) (F:Nat→Prop) (t:LB) (o:LP) (oa:Option Addr) (on oc:Nat) (hn:szL o≤n) (hl:(bu (.mk 5 t o false)).length≤1000000000) (ho:WAt w F (.slice oa on oc) o):
  Calls Tryz.prog 84 #[.agg #[.int .i64 5,.string (BA t),.slice oa on oc,.bool false]] w fun x w'=>x= .returned (.string (BA (bu (.mk 5 t o false))))∧Kept (fun _=>False) w w':=by
 have HK:Hid (Kept (fun _=>False) w (w.alloc (.cells #[.int .i64 5,.string (BA t),.slice oa on oc,.bool false] 101))):=jd ((Ja _ w).alloc _)
 have HX:Hid (bu (.mk 5 t o false)=[36,40,40]++t++[41,41]):=jd (by rw[dH];unfold lR;rfl)
 rw[HX.o] at hl⊢
 have zt:(BA t).size≤1000000000:=by rw[ah];first|omega|(simp only[Jf,Jg,List.length_nil] at hl;omega)
 have a1:(⟨#[36,40,40]⟩:ByteArray)++BA t=BA ([36,40,40]++t):=av [36,40,40] t
 have a2:BA ([36,40,40]++t)++(⟨#[41,41]⟩:ByteArray)=BA ([36,40,40]++t++[41,41]):=av _ [41,41]
 have z1:(BA ([36,40,40]++t)).size≤1000000003:=by rw[ah];simp only[Jf,Jg,List.length_nil] at hl⊢;omega
 clear hl ho hn HX
 generalize BA ([36,40,40]++t)=S0 at*
 generalize BA ([36,40,40]++t++[41,41])=SC at*
 go_enter Tryz.func84,Tryz.ntmps84
 go_wp2_with fail
 go_ret
 exact⟨rfl,HK.o⟩
set_option maxHeartbeats 8000000 in
theorem oW (n:Nat) (HT:Hid (iv n)) (w:World) (F:Nat→Prop) (k:Int) (t:LB) (o:LP) (oa:Option Addr) (on oc:Nat) (hk:k≠1∧k≠2∧k≠3∧k≠4∧k≠5) (hn:szL o≤n) (hl:(bu (.mk k t o true)).length≤1000000000) (ho:WAt w F (.slice oa on oc) o):
  Calls Tryz.prog 84 #[.agg #[.int .i64 k,.string (BA t),.slice oa on oc,.bool true]] w fun x w'=>x= .returned (.string (BA (bu (.mk k t o true))))∧Kept (fun _=>False) w w':=by
 have HK:Hid (Kept (fun _=>False) w (w.alloc (.cells #[.int .i64 k,.string (BA t),.slice oa on oc,.bool true] 101))):=jd ((Ja _ w).alloc _)
 have HX:Hid (bu (.mk k t o true)=[34]++(t)++[34]):=jd (by rw[dH];unfold lR;simp[hk])
 rw[HX.o] at hl⊢
 have zt:(BA t).size≤1000000000:=by rw[ah];first|omega|(simp only[Jf,Jg,List.length_nil] at hl;omega)
 obtain⟨h1,h2,h3,h4,h5⟩:=hk
 have b1:(k==1)=false:=by simpa using h1
 have b2:(k==2)=false:=by simpa using h2
 have b3:(k==3)=false:=by simpa using h3
 have b4:(k==4)=false:=by simpa using h4
 have b5:(k==5)=false:=by simpa using h5
 clear h1 h2 h3 h4 h5
 have y1:(⟨#[34]⟩:ByteArray)++BA (t)=BA ([34]++(t)):=av [34] _
 have y2:BA ([34]++(t))++(⟨#[34]⟩:ByteArray)=BA ([34]++(t)++[34]):=av _ [34]
 have zy:(BA (t)).size≤1000000000:=by rw[ah];first|(simp only[Jf,Jg,List.length_nil] at hl⊢;omega)|(simp only[Jf,Jg,List.length_nil] at hl;omega)|simp
 have zz:(BA ([34]++(t))).size≤1000000001:=by rw[ah];first|(simp only[Jf,Jg,List.length_nil] at hl⊢;omega)|simp
 clear hl ho hn HX
 generalize BA ([34]++t)=SD at*
 generalize BA ([34]++t++[34])=SE at*
 go_enter Tryz.func84,Tryz.ntmps84
 go_wp2_with fail
 go_ret
 exact⟨rfl,HK.o⟩
set_option maxHeartbeats 8000000 in
theorem nY (n:Nat) (HT:Hid (iv n)) (w:World) (F:Nat→Prop) (k:Int) (t:LB) (o:LP) (oa:Option Addr) (on oc:Nat) (hk:k≠1∧k≠2∧k≠3∧k≠4∧k≠5) (hn:szL o≤n) (hl:(bu (.mk k t o false)).length≤1000000000) (ho:WAt w F (.slice oa on oc) o):
  Calls Tryz.prog 84 #[.agg #[.int .i64 k,.string (BA t),.slice oa on oc,.bool false]] w fun x w'=>x= .returned (.string (BA (bu (.mk k t o false))))∧Kept (fun _=>False) w w':=by
 have HK:Hid (Kept (fun _=>False) w (w.alloc (.cells #[.int .i64 k,.string (BA t),.slice oa on oc,.bool false] 101))):=jd ((Ja _ w).alloc _)
 have HX:Hid (bu (.mk k t o false)=t):=jd (by rw[dH];unfold lR;simp[hk])
 rw[HX.o] at hl⊢
 have zt:(BA t).size≤1000000000:=by rw[ah];first|omega|(simp only[Jf,Jg,List.length_nil] at hl;omega)
 obtain⟨h1,h2,h3,h4,h5⟩:=hk
 have b1:(k==1)=false:=by simpa using h1
 have b2:(k==2)=false:=by simpa using h2
 have b3:(k==3)=false:=by simpa using h3
 have b4:(k==4)=false:=by simpa using h4
 have b5:(k==5)=false:=by simpa using h5
 clear h1 h2 h3 h4 h5
 clear hl ho hn HX
 go_enter Tryz.func84,Tryz.ntmps84
 go_wp2_with fail
 go_ret
 exact⟨rfl,HK.o⟩
set_option maxHeartbeats 8000000 in
theorem mQ (n:Nat) (HT:Hid (iv n)) (w:World) (F:Nat→Prop) (t:LB) (o:LP) (oa:Option Addr) (on oc:Nat) (hn:szL o≤n) (hl:(bu (.mk 3 t o true)).length≤1000000000) (ho:WAt w F (.slice oa on oc) o):
  Calls Tryz.prog 84 #[.agg #[.int .i64 3,.string (BA t),.slice oa on oc,.bool true]] w fun x w'=>x= .returned (.string (BA (bu (.mk 3 t o true))))∧Kept (fun _=>False) w w':=by
 have HK:Hid (Kept (fun _=>False) w (w.alloc (.cells #[.int .i64 3,.string (BA t),.slice oa on oc,.bool true] 101))):=jd ((Ja _ w).alloc _)
 have HX:Hid (bu (.mk 3 t o true)=[34]++([36,123]++t++[58,45]++af o++[125])++[34]):=jd (by rw[dH];rfl)
 rw[HX.o] at hl⊢
 have zt:(BA t).size≤1000000000:=by rw[ah];first|omega|(simp only[Jf,Jg,List.length_nil] at hl;omega)
 have htx:(af o).length≤1000000000:=by simp only[Jf,Jg,List.length_nil] at hl;omega
 have a1:(⟨#[36,123]⟩:ByteArray)++BA t=BA ([36,123]++t):=av [36,123] t
 have a2:BA ([36,123]++t)++(⟨#[58,45]⟩:ByteArray)=BA ([36,123]++t++[58,45]):=av _ [58,45]
 have a3:BA ([36,123]++t++[58,45])++BA (af o)=BA ([36,123]++t++[58,45]++af o):=av _ _
 have a4:BA ([36,123]++t++[58,45]++af o)++(⟨#[125]⟩:ByteArray)=BA ([36,123]++t++[58,45]++af o++[125]):=av _ [125]
 have z1:(BA ([36,123]++t)).size≤1000000002:=by rw[ah];simp only[Jf,Jg,List.length_nil] at hl⊢;omega
 have z2:(BA ([36,123]++t++[58,45])).size≤1000000004:=by rw[ah];simp only[Jf,Jg,List.length_nil] at hl⊢;omega
 have z3:(BA ([36,123]++t++[58,45]++af o)).size≤1000000004:=by rw[ah];simp only[Jf,Jg,List.length_nil] at hl⊢;omega
 have z4:(BA (af o)).size≤1000000000:=by rw[ah];exact htx
 have y1:(⟨#[34]⟩:ByteArray)++BA ([36,123]++t++[58,45]++af o++[125])=BA ([34]++([36,123]++t++[58,45]++af o++[125])):=av [34] _
 have y2:BA ([34]++([36,123]++t++[58,45]++af o++[125]))++(⟨#[34]⟩:ByteArray)=BA ([34]++([36,123]++t++[58,45]++af o++[125])++[34]):=av _ [34]
 have zy:(BA ([36,123]++t++[58,45]++af o++[125])).size≤1000000000:=by rw[ah];first|(simp only[Jf,Jg,List.length_nil] at hl⊢;omega)|(simp only[Jf,Jg,List.length_nil] at hl;omega)|simp
 have zz:(BA ([34]++([36,123]++t++[58,45]++af o++[125]))).size≤1000000001:=by rw[ah];first|(simp only[Jf,Jg,List.length_nil] at hl⊢;omega)|simp
 have HP:Hid (PAt (w.alloc (.cells #[.int .i64 3,.string (BA t),.slice oa on oc,.bool true] 101)) w.heap.size 3 t (.slice oa on oc) true):=jd (heap_alloc w _)
 have HW:Hid (WAt (w.alloc (.cells #[.int .i64 3,.string (BA t),.slice oa on oc,.bool true] 101)) F (.slice oa on oc) o):=jd (ho.kept HK.o (fun _ _ h=>h))
 clear hl ho HX
 generalize BA ([36,123]++t)=S0 at*
 generalize BA ([36,123]++t++[58,45])=S1 at*
 generalize BA ([36,123]++t++[58,45]++af o)=S2 at*
 generalize BA ([36,123]++t++[58,45]++af o++[125])=SC at*
 generalize BA ([34]++([36,123]++t++[58,45]++af o++[125]))=SD at*
 generalize BA ([34]++([36,123]++t++[58,45]++af o++[125])++[34])=SE at*
 go_enter Tryz.func84,Tryz.ntmps84
 go_wp2_with fail
 generalize(w.alloc (.cells #[.int .i64 3,.string (BA t),.slice oa on oc,.bool true] 101))=w1 at*
 obtain⟨rb,hrb⟩:∃rb,w.heap.size=rb:=⟨_,rfl⟩
 rw[hrb] at HP⊢
 clear hrb
 refine cD 9 [stV (.pointer (some ⟨rb,1,none⟩)),stV (.string (BA t)),stV (.string S0),stV (.string S1),stV (.pointer (some ⟨rb,2,none⟩)),stV (.slice oa on oc),stV (.string (BA (af o))),stV (.string S2),stV (.string SC)] (by kernel_rfl) (by kernel_rfl) ?_ ?_
 ·iterate 6
   refine ae (fun a' w' hI hag hf K hK=>?_) ?_
   ·obtain⟨⟨_,h0,rfl⟩,-⟩:=hf
    have s1:=hag.same 1 (by decide)
    clear hag
    have hh:PAt w' rb 3 t (.slice oa on oc) true:=hI.heap HP.o (fun h=>h)
    obtain⟨⟨p0,p1,p2,p3⟩,-⟩:=PAt.cells hh
    clear hh
    go_wp2_with fail
    exact hK _ _ hI (Ja _ _) rfl
  refine ae (fun a' w' hI hag hf K hK=>?_) ?_
  ·obtain⟨⟨_,h5,rfl⟩,-⟩:ay _ _ a' w' [5]:=hf
   clear hag
   go_wp2_with fail
   refine(HT.o _ F (.slice oa on oc) o hn htx (HW.o.kept hI (fun _ _ h=>h))).mono ?_
   rintro e wn ⟨rfl,hkn⟩
   go_wp2_with fail
   exact hK _ _ (hI.trans hkn (fun _ _ h=>h)) hkn rfl
  iterate 2
   refine ae (fun a' w' hI hag hf K hK=>?_) ?_
   ·obtain⟨⟨_,h0,rfl⟩,⟨_,h1,rfl⟩,-⟩:=hf
    clear hag
    go_wp2_with fail
    exact hK _ _ hI (Ja _ _) rfl
  exact trivial
 ·intro vs w' hI hvs
  simp only[pzz,aL,Act.put,Nat.reduceAdd,spv (hvs 0 _ _ rfl rfl) rfl,spv (hvs 1 _ _ rfl rfl) rfl,spv (hvs 2 _ _ rfl rfl) rfl,spv (hvs 3 _ _ rfl rfl) rfl,spv (hvs 4 _ _ rfl rfl) rfl,spv (hvs 5 _ _ rfl rfl) rfl,spv (hvs 6 _ _ rfl rfl) rfl,spv (hvs 7 _ _ rfl rfl) rfl,spv (hvs 8 _ _ rfl rfl) rfl]
  clear hvs
  have KX:=jd (HK.o.trans hI (fun _ _ h=>h))
  have hh:=hI.heap HP.o (fun h=>h)
  obtain⟨⟨p0,p1,p2,p3⟩,-⟩:=PAt.cells hh
  clear hh
  go_wp2_with fail
  go_ret
  exact⟨rfl,KX.o⟩
set_option maxHeartbeats 8000000 in
theorem mf (n:Nat) (HT:Hid (iv n)) (w:World) (F:Nat→Prop) (t:LB) (o:LP) (oa:Option Addr) (on oc:Nat) (hn:szL o≤n) (hl:(bu (.mk 3 t o false)).length≤1000000000) (ho:WAt w F (.slice oa on oc) o):
  Calls Tryz.prog 84 #[.agg #[.int .i64 3,.string (BA t),.slice oa on oc,.bool false]] w fun x w'=>x= .returned (.string (BA (bu (.mk 3 t o false))))∧Kept (fun _=>False) w w':=by
 have HK:Hid (Kept (fun _=>False) w (w.alloc (.cells #[.int .i64 3,.string (BA t),.slice oa on oc,.bool false] 101))):=jd ((Ja _ w).alloc _)
 have HX:Hid (bu (.mk 3 t o false)=[36,123]++t++[58,45]++af o++[125]):=jd (by rw[dH];rfl)
 rw[HX.o] at hl⊢
 have zt:(BA t).size≤1000000000:=by rw[ah];first|omega|(simp only[Jf,Jg,List.length_nil] at hl;omega)
 have htx:(af o).length≤1000000000:=by simp only[Jf,Jg,List.length_nil] at hl;omega
 have a1:(⟨#[36,123]⟩:ByteArray)++BA t=BA ([36,123]++t):=av [36,123] t
 have a2:BA ([36,123]++t)++(⟨#[58,45]⟩:ByteArray)=BA ([36,123]++t++[58,45]):=av _ [58,45]
 have a3:BA ([36,123]++t++[58,45])++BA (af o)=BA ([36,123]++t++[58,45]++af o):=av _ _
 have a4:BA ([36,123]++t++[58,45]++af o)++(⟨#[125]⟩:ByteArray)=BA ([36,123]++t++[58,45]++af o++[125]):=av _ [125]
 have z1:(BA ([36,123]++t)).size≤1000000002:=by rw[ah];simp only[Jf,Jg,List.length_nil] at hl⊢;omega
 have z2:(BA ([36,123]++t++[58,45])).size≤1000000004:=by rw[ah];simp only[Jf,Jg,List.length_nil] at hl⊢;omega
 have z3:(BA ([36,123]++t++[58,45]++af o)).size≤1000000004:=by rw[ah];simp only[Jf,Jg,List.length_nil] at hl⊢;omega
 have z4:(BA (af o)).size≤1000000000:=by rw[ah];exact htx
 have HP:Hid (PAt (w.alloc (.cells #[.int .i64 3,.string (BA t),.slice oa on oc,.bool false] 101)) w.heap.size 3 t (.slice oa on oc) false):=jd (heap_alloc w _)
 have HW:Hid (WAt (w.alloc (.cells #[.int .i64 3,.string (BA t),.slice oa on oc,.bool false] 101)) F (.slice oa on oc) o):=jd (ho.kept HK.o (fun _ _ h=>h))
 clear hl ho HX
 generalize BA ([36,123]++t)=S0 at*
 generalize BA ([36,123]++t++[58,45])=S1 at*
 generalize BA ([36,123]++t++[58,45]++af o)=S2 at*
 generalize BA ([36,123]++t++[58,45]++af o++[125])=SC at*
 go_enter Tryz.func84,Tryz.ntmps84
 go_wp2_with fail
 generalize(w.alloc (.cells #[.int .i64 3,.string (BA t),.slice oa on oc,.bool false] 101))=w1 at*
 obtain⟨rb,hrb⟩:∃rb,w.heap.size=rb:=⟨_,rfl⟩
 rw[hrb] at HP⊢
 clear hrb
 refine cD 9 [stV (.pointer (some ⟨rb,1,none⟩)),stV (.string (BA t)),stV (.string S0),stV (.string S1),stV (.pointer (some ⟨rb,2,none⟩)),stV (.slice oa on oc),stV (.string (BA (af o))),stV (.string S2),stV (.string SC)] (by kernel_rfl) (by kernel_rfl) ?_ ?_
 ·iterate 6
   refine ae (fun a' w' hI hag hf K hK=>?_) ?_
   ·obtain⟨⟨_,h0,rfl⟩,-⟩:=hf
    have s1:=hag.same 1 (by decide)
    clear hag
    have hh:PAt w' rb 3 t (.slice oa on oc) false:=hI.heap HP.o (fun h=>h)
    obtain⟨⟨p0,p1,p2,p3⟩,-⟩:=PAt.cells hh
    clear hh
    go_wp2_with fail
    exact hK _ _ hI (Ja _ _) rfl
  refine ae (fun a' w' hI hag hf K hK=>?_) ?_
  ·obtain⟨⟨_,h5,rfl⟩,-⟩:ay _ _ a' w' [5]:=hf
   clear hag
   go_wp2_with fail
   refine(HT.o _ F (.slice oa on oc) o hn htx (HW.o.kept hI (fun _ _ h=>h))).mono ?_
   rintro e wn ⟨rfl,hkn⟩
   go_wp2_with fail
   exact hK _ _ (hI.trans hkn (fun _ _ h=>h)) hkn rfl
  iterate 2
   refine ae (fun a' w' hI hag hf K hK=>?_) ?_
   ·obtain⟨⟨_,h0,rfl⟩,⟨_,h1,rfl⟩,-⟩:=hf
    clear hag
    go_wp2_with fail
    exact hK _ _ hI (Ja _ _) rfl
  exact trivial
 ·intro vs w' hI hvs
  simp only[pzz,aL,Act.put,Nat.reduceAdd,spv (hvs 0 _ _ rfl rfl) rfl,spv (hvs 1 _ _ rfl rfl) rfl,spv (hvs 2 _ _ rfl rfl) rfl,spv (hvs 3 _ _ rfl rfl) rfl,spv (hvs 4 _ _ rfl rfl) rfl,spv (hvs 5 _ _ rfl rfl) rfl,spv (hvs 6 _ _ rfl rfl) rfl,spv (hvs 7 _ _ rfl rfl) rfl,spv (hvs 8 _ _ rfl rfl) rfl]
  clear hvs
  have KX:=jd (HK.o.trans hI (fun _ _ h=>h))
  have hh:=hI.heap HP.o (fun h=>h)
  obtain⟨⟨p0,p1,p2,p3⟩,-⟩:=PAt.cells hh
  clear hh
  go_wp2_with fail
  go_ret
  exact⟨rfl,KX.o⟩
theorem ue (n:Nat) (HT:Hid (iv n)) (w:World) (F:Nat→Prop) (p:Prt) (oa:Option Addr) (on oc:Nat) (hn:szL p.orw≤n) (hl:(bu p).length≤1000000000) (ho:WAt w F (.slice oa on oc) p.orw):
  Calls Tryz.prog 84 #[.agg #[.int .i64 p.kind,.string (BA p.text),.slice oa on oc,.bool p.quoted]] w fun x w'=>x= .returned (.string (BA (bu p)))∧Kept (fun _=>False) w w':=by
 obtain⟨k,t,o,q⟩:=p
 by_cases h1:k=1
 ·subst h1;cases q
  ·exact og n HT w F t o oa on oc hn hl ho
  ·exact oX n HT w F t o oa on oc hn hl ho
 by_cases h2:k=2
 ·subst h2;cases q
  ·exact oY n HT w F t o oa on oc hn hl ho
  ·exact re n HT w F t o oa on oc hn hl ho
 by_cases h3:k=3
 ·subst h3;cases q
  ·exact mf n HT w F t o oa on oc hn hl ho
  ·exact mQ n HT w F t o oa on oc hn hl ho
 by_cases h4:k=4
 ·subst h4;cases q
  ·exact mN n HT w F t o oa on oc hn hl ho
  ·exact nO n HT w F t o oa on oc hn hl ho
 by_cases h5:k=5
 ·subst h5;cases q
  ·exact nW n HT w F t o oa on oc hn hl ho
  ·exact oZ n HT w F t o oa on oc hn hl ho
 cases q
 ·exact nY n HT w F k t o oa on oc ⟨h1,h2,h3,h4,h5⟩ hn hl ho
 ·exact oW n HT w F k t o oa on oc ⟨h1,h2,h3,h4,h5⟩ hn hl ho
theorem xg {l:LP} {k:Nat} {p:Prt} (h:l[k]? =some p):af (l.take (k+1))=af (l.take k)++bu p:=by
 induction l generalizing k with
 |nil=>simp at h
 |cons x l ih=>
  cases k with
  |zero=>
   simp at h;subst h
   rw[List.take_succ_cons,List.take_zero,List.take_zero,fU,dF,List.append_nil,List.nil_append]
  |succ k=>
   rw[List.take_succ_cons,List.take_succ_cons,fU,fU,ih (by simpa using h),Jj]
theorem sd:∀(a b:LP),af (a++b)=af a++af b
 |[],b=>by rw[dF];rfl
 |p::a,b=>by rw[List.cons_append,fU,fU,sd a b,Jj]
theorem Cx (l:LP) (k:Nat):(af (l.take k)).length≤(af l).length:=by
 conv=>rhs;rw[←List.take_append_drop k l,sd,Jf]
 omega
set_option maxHeartbeats 8000000 in
theorem Dg (n:Nat):iv n:=by
 induction n using Nat.strongRecOn with
 |ind n ih=>
  intro w F v l hn htl hv
  obtain⟨a,N,c,rfl⟩:=hv.slice
  have hN:=hv.elem.1
  have hn9:=hv.max
  have HV:=jd hv;have HN:=jd hN;have HTL:=jd htl;have HSZ:=jd hn
  have HT:Hid (iv (n -1)):=jd (ih (n -1) (by have:=eG l;omega))
  clear ih hv hN htl hn
  go_enter Tryz.func75,Tryz.ntmps75
  go_wp2_with fail
  go_loopg [3,8] N (fun gk s3 s8 wx=>∃k:Nat,gk=N -k∧k≤N∧s3= .string (BA (af (l.take k)))∧s8= .int .i64 (k:Int)∧Kept (fun _=>False) w wx)
  case atStart=>exact⟨0,rfl,Nat.zero_le _,by rw[List.take_zero,dF];rfl,rfl,Ja _ _⟩
  case round=>
   obtain⟨k,rfl,hk,rfl,rfl,hkk⟩:=hrel
   have HKK:=jd hkk
   clear hkk
   by_cases hlt:k<N
   ·obtain⟨p,hp⟩:∃p,l[k]? =some p:=⟨_,Je (by rw[←HN.o];exact hlt)⟩
    have hpm:p∈l:=List.mem_of_getElem? hp
    have hps:szL p.orw≤n -1:=by
     have h1:szP p<szL l:=tT hpm
     have h2:=jR p
     have h3:=HSZ.o
     omega
    have hnx:=xg hp
    have hle1:=Cx l (k+1)
    rw[hnx,Jf] at hle1
    have hpt:(bu p).length≤1000000000:=by have:=HTL.o;omega
    have zA:(BA (af (l.take k))).size≤1000000000:=by rw[ah];have:=HTL.o;omega
    have zB:(BA (bu p)).size≤1000000000:=by rw[ah];exact hpt
    have bA:=av (af (l.take k)) (bu p)
    rw[←hnx] at bA
    obtain⟨b1,o1,oa,on,oc,e1,p0,p1,p2,p3,hao⟩:=(HV.o.kept HKK.o (fun _ _ h=>h)).elem.2 k p hp
    subst e1
    have HAO:=jd (hao.kept ((Ja (fun _=>False) wr).alloc (.cells #[.int .i64 p.kind,.string (BA p.text),.slice oa on oc,.bool p.quoted] 101)) (fun _ _ h=>h))
    have hbl:b1<wr.heap.size:=World.block_lt_of_cell? wr _ p0
    have HC:=jd (ue (n -1) HT _ F p oa on oc hps hpt HAO.o)
    have K2:=jd (HKK.o.alloc (.cells #[.int .i64 p.kind,.string (BA p.text),.slice oa on oc,.bool p.quoted] 101))
    clear hp hpm hps hnx hle1 hpt hao
    go_wp2_with fail
    refine HC.o.mono ?_
    rintro x w4 ⟨rfl,k4⟩
    have K4:=jd (K2.o.trans k4 (fun _ _ h=>h))
    clear k4
    go_wp2_with fail
    go_roundg (N -(k+1))
    case measure=>omega
    case rel=>exact⟨k+1,rfl,hlt,rfl,by go_num,K4.o⟩
   ·obtain rfl:k=N:=by omega
    have htk:l.take k=l:=List.take_of_length_le (by rw[←HN.o];exact Jb _)
    rw[htk]
    go_wp2_with fail
    go_ret
    exact⟨rfl,HKK.o⟩
theorem kL {w:World} {F:Nat→Prop} {v:Value} {l:LP} (hl:(af l).length≤1000000000) (hv:WAt w F v l):
  Calls Tryz.prog 75 #[v] w fun x w'=>x= .returned (.string (BA (af l)))∧Kept (fun _=>False) w w':=Dg (szL l) w F v l (Jb _) hl hv
theorem tK {w:World} {g n c:Nat} {l:List Tk} (h:w.ownsRow 0 49 3 (.slice (some ⟨g,0,none⟩) n c) l.length (l.flatMap Tk.cells)) (i:Nat) (u:Value) (hu:(l.flatMap Tk.cells)[i]? =some u):w.cell? ⟨g,i,none⟩=some u:=by
 obtain⟨_,a,cap,e,_,_,hc⟩:=Rd.own h
 cases e
 obtain⟨g',off,e2,h2⟩:=hc i u hu
 cases e2
 rw[Nat.zero_add] at h2
 exact h2
end Go.Proofs.YtgigdlhcjahejaaGreatDoor
