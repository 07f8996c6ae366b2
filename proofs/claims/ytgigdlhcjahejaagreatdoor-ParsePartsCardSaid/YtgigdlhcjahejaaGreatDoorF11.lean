import Derived.Test.YtgigdlhcjahejaaGreatDoorF10
import Derived.Test.YtgigdlhcjahejaaGreatDoorF05
import Derived.ChangeMaps5
set_option maxHeartbeats 400000000
namespace Go.Proofs.YtgigdlhcjahejaaGreatDoor
open Go Go.RowKit Go.Lw
set_option maxRecDepth 100000
set_option linter.all false
attribute [local go_sem] aA
theorem Co (w:World) (c:UInt8):Calls Tryz.prog 41 #[.string ⟨#[36,34,92,96]⟩,.int .u8 (c.toNat:Int)] w fun e w'=>(∃i:Int,e= .returned (.int .i64 i)∧decide (0≤i)=iX c)∧w'=w:=by
 refine(eu [36,34,92,96] c _ rfl w).mono ?_
 rintro e w' ⟨rfl,hw⟩
 refine⟨⟨_,rfl,?_⟩,hw⟩
 have h:=mZ [c] (Jb _)
 unfold Lib.contains at h
 rw[Lib.index_one] at h
 rw[h]
 show(iX c&&true)=_
 rw[Bool.and_true]
theorem nH (s:LB) (c:UInt8):decide (0≤Lib.indexByte s c)=s.contains c:=by
 induction s with
 |nil=>rfl
 |cons b l ih=>
  unfold Lib.indexByte
  by_cases h:b=c
  ·subst h;simp
  ·have hb:(b==c)=false:=Jq.2 h
   have hge:=Lib.indexByte_ge l c
   rw[hb]
   simp only[Bool.false_eq_true,if_false]
   have hc:(b::l).contains c=l.contains c:=by
    rw[List.contains_cons]
    have:(c==b)=false:=Jq.2 (fun e=>h e.symm)
    rw[this,Bool.false_or]
   rw[hc,←ih]
   by_cases h2:Lib.indexByte l c=-1
   ·rw[h2];rfl
   ·have h3:(Lib.indexByte l c==-1)=false:=Jq.2 h2
    rw[h3]
    simp only[Bool.false_eq_true,if_false]
    rw[Jc (by omega),Jc (by omega)]
def pg (l:LB):LB:=l.flatMap fun c=>if iX c then[92,c] else[c]
theorem DW {k:Nat} {p:LB} {c:UInt8} (h:p[k]? =some c):pg (p.take (k+1))=pg (p.take k)++(if iX c then[92,c] else[c]):=by
 unfold pg;rw[List.take_add_one,h,List.flatMap_append];simp
theorem EB (s:LB):(pg s).length≤2*s.length:=by
 induction s with
 |nil=>exact Jb _
 |cons c s ih=>
  show((if iX c then[92,c] else[c])++pg s).length≤_
  rw[Jf,Jg]
  split<;>(simp;omega)
theorem yz (w:World) (s:LB) (hs9:s.length≤1000000000):
  Calls Tryz.prog 90 #[.string (BA s)] w fun x w'=>x= .returned (.string (BA (gO s)))∧w'=w:=by
 have hC:=Tryz.strings_Contains_one (BA s) 39 w
 rw[ft,nH] at hC
 have hs:=aq s
 obtain⟨N,hN⟩:∃N,s.length=N:=⟨_,rfl⟩
 have HN:=jd hN
 rw[hN] at hs hs9
 clear hN
 cases hc:s.contains 39 with
 |false=>
  rw[hc] at hC
  have HC:=jd hC
  have HQ:Hid (gO s=39::s++[39]):=jd (by unfold gO;rw[hc];rfl)
  have a1:(⟨#[39]⟩:ByteArray)++BA s=BA (39::s):=az [39] s
  have a2:BA (39::s)++(⟨#[39]⟩:ByteArray)=BA (39::s++[39]):=az (39::s) [39]
  have z1:(BA (39::s)).size=N+1:=by rw[aq,Jg,HN.o]
  clear hC hc
  go_enter Tryz.func90,Tryz.ntmps90
  go_wp2_with fail
  refine HC.o.mono ?_
  rintro x _ ⟨rfl,rfl⟩
  go_wp2_with fail
  go_ret
  rw[HQ.o]
  exact⟨rfl,rfl⟩
 |true=>
  rw[hc] at hC
  have HC:=jd hC
  have HQ:Hid (gO s=34::pg s++[34]):=jd (by unfold gO;rw[hc];rfl)
  clear hC hc
  go_enter Tryz.func90,Tryz.ntmps90
  go_wp2_with fail
  refine HC.o.mono ?_
  rintro x wa ⟨rfl,rfl⟩
  go_wp2_with fail
  go_loopg [3,13] N (fun gk s3 s13 wx=>∃j:Nat,gk=N -j∧j≤N∧s3= .string (BA (34::pg (s.take j)))∧s13= .int .i64 (j:Int)∧wx=wa)
  case atStart=>exact⟨0,rfl,Ju _,rfl,rfl,rfl⟩
  case round=>
   obtain⟨j,rfl,hj,rfl,rfl,rfl⟩:=hrel
   have zd:=EB (s.take j)
   have zD:(BA (34::pg (s.take j))).size≤2*N+1:=by rw[aq,Jg];rw[Jp] at zd;omega
   clear zd
   by_cases hlt:j<N
   ·obtain⟨c,hc⟩:∃c,s[j]? =some c:=⟨_,Je (by rw[HN.o];exact hlt)⟩
    have g0:=gm hc
    have eX:(BA s).extract j (j+1)=BA [c]:=by
     rw[gi]
     congr 1
     have hjl:j<s.length:=by rw[HN.o];exact hlt
     rw[Je hjl] at hc
     rw[lh s j hjl,Jw hc,List.drop_append_of_le_length (by rw[Jp];omega),List.drop_eq_nil_of_le (by rw[Jp];omega)]
     rfl
    have hc9:=c.toNat_lt
    have HDN:=jd (DW hc)
    clear hc
    obtain⟨D,hD⟩:∃q,pg (s.take j)=q:=⟨_,rfl⟩
    rw[hD] at HDN zD⊢
    clear hD
    have zc:(BA [c]).size=1:=aq _
    have b1:BA (34::D)++(⟨#[92]⟩:ByteArray)=BA (34::(D++[92])):=az (34::D) [92]
    have b2:BA (34::(D++[92]))++BA [c]=BA (34::(D++[92,c])):=(az (34::D++[92]) [c]).trans (by simp)
    have b3:BA (34::D)++BA [c]=BA (34::(D++[c])):=az (34::D) [c]
    have zm:(BA (34::(D++[92]))).size≤2*N+2:=by rw[aq] at zD⊢;simp at zD⊢;omega
    have hodd:=Co wr c
    cases ho:iX c with
    |true=>
     rw[ho] at HDN hodd
     have HO:=jd hodd
     clear hodd ho
     go_wp2_with fail
     refine HO.o.mono ?_
     rintro x w3 ⟨⟨i,rfl,hi⟩,rfl⟩
     go_wp2_with fail
     go_roundg (N -(j+1))
     case measure=>omega
     case rel=>exact⟨j+1,rfl,hlt,by rw[HDN.o];rfl,by go_num,rfl⟩
    |false=>
     rw[ho] at HDN hodd
     have HO:=jd hodd
     clear hodd ho
     go_wp2_with fail
     refine HO.o.mono ?_
     rintro x w3 ⟨⟨i,rfl,hi⟩,rfl⟩
     go_wp2_with fail
     go_roundg (N -(j+1))
     case measure=>omega
     case rel=>exact⟨j+1,rfl,hlt,by rw[HDN.o];rfl,by go_num,rfl⟩
   ·obtain rfl:j=N:=by omega
    have htk:s.take j=s:=List.take_of_length_le (by rw[HN.o];exact Jb _)
    rw[htk] at zD⊢
    have b1:BA (34::pg s)++(⟨#[34]⟩:ByteArray)=BA (34::pg s++[34]):=az (34::pg s) [34]
    go_wp2_with fail
    go_ret
    rw[HQ.o]
    exact⟨rfl,rfl⟩
def ij (n:Nat):Prop:=∀(w:World) (F:Nat→Prop) (v:Value) (l:LP),szL l≤n→(aC l).length≤1000000000→WAt w F v l→
 Calls Tryz.prog 75 #[v] w fun x w'=>x= .returned (.string (BA (aC l)))∧Kept (fun _=>False) w w'
theorem fx (p:Prt) (l:LP):aC (p::l)=bM p++aC l:=by show bM.textL _=_;rw[bM.textL]
theorem eE:aC []=[]:=by show bM.textL _=_;rw[bM.textL]
theorem xQ (t:LB):t.length+2≤(gO t).length:=by
 have key:∀t:LB,t.length≤(t.flatMap (fun c=>if iX c then[92,c] else[c])).length:=by
  intro t
  induction t with
  |nil=>exact Jb _
  |cons c s ih=>
   rw[List.flatMap_cons,Jf,Jg]
   have:1≤(if iX c then[92,c] else[c]:LB).length:=by split<;>simp
   omega
 unfold gO
 split
 ·have:=key t;simp only[Jf,Jg,Jn];omega
 ·simp only[Jf,Jg,Jn];omega
def jT (k:Int) (t:LB) (o:LP):LB:=if k=2 then[36,123]++t++[125] else if k=3 then[36,123]++t++[58,45]++aC o++[125] else if k=4 then[36,63] else if k=5 then[36,40,40]++t++[41,41] else t
theorem dG (k:Int) (t:LB) (o:LP) (q:Bool):bM (.mk k t o q)=if k=1 then(if q then gO t else t) else if q then[34]++jT k t o++[34] else jT k t o:=by
 rw[bM];rfl
theorem ph (n:Nat) (HT:Hid (ij n)) (w:World) (F:Nat→Prop) (t:LB) (o:LP) (oa:Option Addr) (on oc:Nat) (hn:szL o≤n) (hl:(bM (.mk 1 t o true)).length≤1000000000) (ho:WAt w F (.slice oa on oc) o):
  Calls Tryz.prog 84 #[.agg #[.int .i64 1,.string (BA t),.slice oa on oc,.bool true]] w fun x w'=>x= .returned (.string (BA (bM (.mk 1 t o true))))∧Kept (fun _=>False) w w':=by
 have HK:Hid (Kept (fun _=>False) w (w.alloc (.cells #[.int .i64 1,.string (BA t),.slice oa on oc,.bool true] 101))):=jd ((Ja _ w).alloc _)
 have HX:Hid (bM (.mk 1 t o true)=gO t):=jd (by rw[dG];rfl)
 rw[HX.o] at hl⊢
 have htl:t.length≤1000000000:=by have:=xQ t;omega
 clear hl ho hn
 go_enter Tryz.func84,Tryz.ntmps84
 go_wp2_with fail
 refine(yz _ t htl).mono ?_
 rintro x _ ⟨rfl,rfl⟩
 go_wp2_with fail
 go_ret
 exact⟨rfl,HK.o⟩
theorem nR (n:Nat) (HT:Hid (ij n)) (w:World) (F:Nat→Prop) (t:LB) (o:LP) (oa:Option Addr) (on oc:Nat) (hn:szL o≤n) (hl:(bM (.mk 1 t o false)).length≤1000000000) (ho:WAt w F (.slice oa on oc) o):
  Calls Tryz.prog 84 #[.agg #[.int .i64 1,.string (BA t),.slice oa on oc,.bool false]] w fun x w'=>x= .returned (.string (BA (bM (.mk 1 t o false))))∧Kept (fun _=>False) w w':=by
 have HK:Hid (Kept (fun _=>False) w (w.alloc (.cells #[.int .i64 1,.string (BA t),.slice oa on oc,.bool false] 101))):=jd ((Ja _ w).alloc _)
 have HX:Hid (bM (.mk 1 t o false)=t):=jd (by rw[dG];rfl)
 rw[HX.o] at hl⊢
 clear hl ho hn
 go_enter Tryz.func84,Tryz.ntmps84
 go_wp2_with fail
 go_ret
 exact⟨rfl,HK.o⟩
theorem qK (n:Nat) (HT:Hid (ij n)) (w:World) (F:Nat→Prop) (t:LB) (o:LP) (oa:Option Addr) (on oc:Nat) (hn:szL o≤n) (hl:(bM (.mk 2 t o true)).length≤1000000000) (ho:WAt w F (.slice oa on oc) o):
  Calls Tryz.prog 84 #[.agg #[.int .i64 2,.string (BA t),.slice oa on oc,.bool true]] w fun x w'=>x= .returned (.string (BA (bM (.mk 2 t o true))))∧Kept (fun _=>False) w w':=by
 have HK:Hid (Kept (fun _=>False) w (w.alloc (.cells #[.int .i64 2,.string (BA t),.slice oa on oc,.bool true] 101))):=jd ((Ja _ w).alloc _)
 have HX:Hid (bM (.mk 2 t o true)=[34]++([36,123]++t++[125])++[34]):=jd (by rw[dG];unfold jT;rfl)
 rw[HX.o] at hl⊢
 have zt:(BA t).size≤1000000000:=by rw[aq];first|omega|(simp only[Jf,Jg,Jn] at hl;omega)
 have a1:(⟨#[36,123]⟩:ByteArray)++BA t=BA ([36,123]++t):=az [36,123] t
 have a2:BA ([36,123]++t)++(⟨#[125]⟩:ByteArray)=BA ([36,123]++t++[125]):=az _ [125]
 have z1:(BA ([36,123]++t)).size≤1000000002:=by rw[aq];simp only[Jf,Jg,Jn] at hl⊢;omega
 have y1:(⟨#[34]⟩:ByteArray)++BA ([36,123]++t++[125])=BA ([34]++([36,123]++t++[125])):=az [34] _
 have y2:BA ([34]++([36,123]++t++[125]))++(⟨#[34]⟩:ByteArray)=BA ([34]++([36,123]++t++[125])++[34]):=az _ [34]
 have zy:(BA ([36,123]++t++[125])).size≤1000000000:=by rw[aq];first|(simp only[Jf,Jg,Jn] at hl⊢;omega)|(simp only[Jf,Jg,Jn] at hl;omega)|simp
 have zz:(BA ([34]++([36,123]++t++[125]))).size≤1000000001:=by rw[aq];first|(simp only[Jf,Jg,Jn] at hl⊢;omega)|simp
 clear hl ho hn HX
 generalize BA ([36,123]++t)=S0 at*
 generalize BA ([36,123]++t++[125])=SC at*
 generalize BA ([34]++([36,123]++t++[125]))=SD at*
 generalize BA ([34]++([36,123]++t++[125])++[34])=SE at*
 go_enter Tryz.func84,Tryz.ntmps84
 go_wp2_with fail
 go_ret
 exact⟨rfl,HK.o⟩
theorem o0 (n:Nat) (HT:Hid (ij n)) (w:World) (F:Nat→Prop) (t:LB) (o:LP) (oa:Option Addr) (on oc:Nat) (hn:szL o≤n) (hl:(bM (.mk 2 t o false)).length≤1000000000) (ho:WAt w F (.slice oa on oc) o):
  Calls Tryz.prog 84 #[.agg #[.int .i64 2,.string (BA t),.slice oa on oc,.bool false]] w fun x w'=>x= .returned (.string (BA (bM (.mk 2 t o false))))∧Kept (fun _=>False) w w':=by
 have HK:Hid (Kept (fun _=>False) w (w.alloc (.cells #[.int .i64 2,.string (BA t),.slice oa on oc,.bool false] 101))):=jd ((Ja _ w).alloc _)
 have HX:Hid (bM (.mk 2 t o false)=[36,123]++t++[125]):=jd (by rw[dG];unfold jT;rfl)
 rw[HX.o] at hl⊢
 have zt:(BA t).size≤1000000000:=by rw[aq];first|omega|(simp only[Jf,Jg,Jn] at hl;omega)
 have a1:(⟨#[36,123]⟩:ByteArray)++BA t=BA ([36,123]++t):=az [36,123] t
 have a2:BA ([36,123]++t)++(⟨#[125]⟩:ByteArray)=BA ([36,123]++t++[125]):=az _ [125]
 have z1:(BA ([36,123]++t)).size≤1000000002:=by rw[aq];simp only[Jf,Jg,Jn] at hl⊢;omega
 clear hl ho hn HX
 generalize BA ([36,123]++t)=S0 at*
 generalize BA ([36,123]++t++[125])=SC at*
 go_enter Tryz.func84,Tryz.ntmps84
 go_wp2_with fail
 go_ret
 exact⟨rfl,HK.o⟩
theorem od (n:Nat) (HT:Hid (ij n)) (w:World) (F:Nat→Prop) (t:LB) (o:LP) (oa:Option Addr) (on oc:Nat) (hn:szL o≤n) (hl:(bM (.mk 4 t o true)).length≤1000000000) (ho:WAt w F (.slice oa on oc) o):
  Calls Tryz.prog 84 #[.agg #[.int .i64 4,.string (BA t),.slice oa on oc,.bool true]] w fun x w'=>x= .returned (.string (BA (bM (.mk 4 t o true))))∧Kept (fun _=>False) w w':=by
 have HK:Hid (Kept (fun _=>False) w (w.alloc (.cells #[.int .i64 4,.string (BA t),.slice oa on oc,.bool true] 101))):=jd ((Ja _ w).alloc _)
 have HX:Hid (bM (.mk 4 t o true)=[34,36,63,34]):=jd (by rw[dG];rfl)
 rw[HX.o]
 clear hl ho hn HX
 go_enter Tryz.func84,Tryz.ntmps84
 go_wp2_with fail
 go_ret
 exact⟨rfl,HK.o⟩
theorem mX (n:Nat) (HT:Hid (ij n)) (w:World) (F:Nat→Prop) (t:LB) (o:LP) (oa:Option Addr) (on oc:Nat) (hn:szL o≤n) (hl:(bM (.mk 4 t o false)).length≤1000000000) (ho:WAt w F (.slice oa on oc) o):
  Calls Tryz.prog 84 #[.agg #[.int .i64 4,.string (BA t),.slice oa on oc,.bool false]] w fun x w'=>x= .returned (.string (BA (bM (.mk 4 t o false))))∧Kept (fun _=>False) w w':=by
 have HK:Hid (Kept (fun _=>False) w (w.alloc (.cells #[.int .i64 4,.string (BA t),.slice oa on oc,.bool false] 101))):=jd ((Ja _ w).alloc _)
 have HX:Hid (bM (.mk 4 t o false)=[36,63]):=jd (by rw[dG];rfl)
 rw[HX.o]
 clear hl ho hn HX
 go_enter Tryz.func84,Tryz.ntmps84
 go_wp2_with fail
 go_ret
 exact⟨rfl,HK.o⟩
theorem pc (n:Nat) (HT:Hid (ij n)) (w:World) (F:Nat→Prop) (t:LB) (o:LP) (oa:Option Addr) (on oc:Nat) (hn:szL o≤n) (hl:(bM (.mk 5 t o true)).length≤1000000000) (ho:WAt w F (.slice oa on oc) o):
  Calls Tryz.prog 84 #[.agg #[.int .i64 5,.string (BA t),.slice oa on oc,.bool true]] w fun x w'=>x= .returned (.string (BA (bM (.mk 5 t o true))))∧Kept (fun _=>False) w w':=by
 have HK:Hid (Kept (fun _=>False) w (w.alloc (.cells #[.int .i64 5,.string (BA t),.slice oa on oc,.bool true] 101))):=jd ((Ja _ w).alloc _)
 have HX:Hid (bM (.mk 5 t o true)=[34]++([36,40,40]++t++[41,41])++[34]):=jd (by rw[dG];unfold jT;rfl)
 rw[HX.o] at hl⊢
 have zt:(BA t).size≤1000000000:=by rw[aq];first|omega|(simp only[Jf,Jg,Jn] at hl;omega)
 have a1:(⟨#[36,40,40]⟩:ByteArray)++BA t=BA ([36,40,40]++t):=az [36,40,40] t
 have a2:BA ([36,40,40]++t)++(⟨#[41,41]⟩:ByteArray)=BA ([36,40,40]++t++[41,41]):=az _ [41,41]
 have z1:(BA ([36,40,40]++t)).size≤1000000003:=by rw[aq];simp only[Jf,Jg,Jn] at hl⊢;omega
 have y1:(⟨#[34]⟩:ByteArray)++BA ([36,40,40]++t++[41,41])=BA ([34]++([36,40,40]++t++[41,41])):=az [34] _
 have y2:BA ([34]++([36,40,40]++t++[41,41]))++(⟨#[34]⟩:ByteArray)=BA ([34]++([36,40,40]++t++[41,41])++[34]):=az _ [34]
 have zy:(BA ([36,40,40]++t++[41,41])).size≤1000000000:=by rw[aq];first|(simp only[Jf,Jg,Jn] at hl⊢;omega)|(simp only[Jf,Jg,Jn] at hl;omega)|simp
 have zz:(BA ([34]++([36,40,40]++t++[41,41]))).size≤1000000001:=by rw[aq];first|(simp only[Jf,Jg,Jn] at hl⊢;omega)|simp
 clear hl ho hn HX
 generalize BA ([36,40,40]++t)=S0 at*
 generalize BA ([36,40,40]++t++[41,41])=SC at*
 generalize BA ([34]++([36,40,40]++t++[41,41]))=SD at*
 generalize BA ([34]++([36,40,40]++t++[41,41])++[34])=SE at*
 go_enter Tryz.func84,Tryz.ntmps84
 go_wp2_with fail
 go_ret
 exact⟨rfl,HK.o⟩
theorem nW (n:Nat) (HT:Hid (ij n)) (w:World) (F:Nat→Prop) (t:LB) (o:LP) (oa:Option Addr) (on oc:Nat) (hn:szL o≤n) (hl:(bM (.mk 5 t o false)).length≤1000000000) (ho:WAt w F (.slice oa on oc) o):
  Calls Tryz.prog 84 #[.agg #[.int .i64 5,.string (BA t),.slice oa on oc,.bool false]] w fun x w'=>x= .returned (.string (BA (bM (.mk 5 t o false))))∧Kept (fun _=>False) w w':=by
 have HK:Hid (Kept (fun _=>False) w (w.alloc (.cells #[.int .i64 5,.string (BA t),.slice oa on oc,.bool false] 101))):=jd ((Ja _ w).alloc _)
 have HX:Hid (bM (.mk 5 t o false)=[36,40,40]++t++[41,41]):=jd (by rw[dG];unfold jT;rfl)
 rw[HX.o] at hl⊢
 have zt:(BA t).size≤1000000000:=by rw[aq];first|omega|(simp only[Jf,Jg,Jn] at hl;omega)
 have a1:(⟨#[36,40,40]⟩:ByteArray)++BA t=BA ([36,40,40]++t):=az [36,40,40] t
 have a2:BA ([36,40,40]++t)++(⟨#[41,41]⟩:ByteArray)=BA ([36,40,40]++t++[41,41]):=az _ [41,41]
 have z1:(BA ([36,40,40]++t)).size≤1000000003:=by rw[aq];simp only[Jf,Jg,Jn] at hl⊢;omega
 clear hl ho hn HX
 generalize BA ([36,40,40]++t)=S0 at*
 generalize BA ([36,40,40]++t++[41,41])=SC at*
 go_enter Tryz.func84,Tryz.ntmps84
 go_wp2_with fail
 go_ret
 exact⟨rfl,HK.o⟩
theorem pa (n:Nat) (HT:Hid (ij n)) (w:World) (F:Nat→Prop) (k:Int) (t:LB) (o:LP) (oa:Option Addr) (on oc:Nat) (hk:k≠1∧k≠2∧k≠3∧k≠4∧k≠5) (hn:szL o≤n) (hl:(bM (.mk k t o true)).length≤1000000000) (ho:WAt w F (.slice oa on oc) o):
  Calls Tryz.prog 84 #[.agg #[.int .i64 k,.string (BA t),.slice oa on oc,.bool true]] w fun x w'=>x= .returned (.string (BA (bM (.mk k t o true))))∧Kept (fun _=>False) w w':=by
 have HK:Hid (Kept (fun _=>False) w (w.alloc (.cells #[.int .i64 k,.string (BA t),.slice oa on oc,.bool true] 101))):=jd ((Ja _ w).alloc _)
 have HX:Hid (bM (.mk k t o true)=[34]++(t)++[34]):=jd (by rw[dG];unfold jT;simp[hk])
 rw[HX.o] at hl⊢
 have zt:(BA t).size≤1000000000:=by rw[aq];first|omega|(simp only[Jf,Jg,Jn] at hl;omega)
 obtain⟨h1,h2,h3,h4,h5⟩:=hk
 have b1:(k==1)=false:=by simpa using h1
 have b2:(k==2)=false:=by simpa using h2
 have b3:(k==3)=false:=by simpa using h3
 have b4:(k==4)=false:=by simpa using h4
 have b5:(k==5)=false:=by simpa using h5
 clear h1 h2 h3 h4 h5
 have y1:(⟨#[34]⟩:ByteArray)++BA (t)=BA ([34]++(t)):=az [34] _
 have y2:BA ([34]++(t))++(⟨#[34]⟩:ByteArray)=BA ([34]++(t)++[34]):=az _ [34]
 have zy:(BA (t)).size≤1000000000:=by rw[aq];first|(simp only[Jf,Jg,Jn] at hl⊢;omega)|(simp only[Jf,Jg,Jn] at hl;omega)|simp
 have zz:(BA ([34]++(t))).size≤1000000001:=by rw[aq];first|(simp only[Jf,Jg,Jn] at hl⊢;omega)|simp
 clear hl ho hn HX
 generalize BA ([34]++t)=SD at*
 generalize BA ([34]++t++[34])=SE at*
 go_enter Tryz.func84,Tryz.ntmps84
 go_wp2_with fail
 go_ret
 exact⟨rfl,HK.o⟩
theorem nO (n:Nat) (HT:Hid (ij n)) (w:World) (F:Nat→Prop) (k:Int) (t:LB) (o:LP) (oa:Option Addr) (on oc:Nat) (hk:k≠1∧k≠2∧k≠3∧k≠4∧k≠5) (hn:szL o≤n) (hl:(bM (.mk k t o false)).length≤1000000000) (ho:WAt w F (.slice oa on oc) o):
  Calls Tryz.prog 84 #[.agg #[.int .i64 k,.string (BA t),.slice oa on oc,.bool false]] w fun x w'=>x= .returned (.string (BA (bM (.mk k t o false))))∧Kept (fun _=>False) w w':=by
 have HK:Hid (Kept (fun _=>False) w (w.alloc (.cells #[.int .i64 k,.string (BA t),.slice oa on oc,.bool false] 101))):=jd ((Ja _ w).alloc _)
 have HX:Hid (bM (.mk k t o false)=t):=jd (by rw[dG];unfold jT;simp[hk])
 rw[HX.o] at hl⊢
 have zt:(BA t).size≤1000000000:=by rw[aq];first|omega|(simp only[Jf,Jg,Jn] at hl;omega)
 obtain⟨h1,h2,h3,h4,h5⟩:=hk
 have b1:(k==1)=false:=by simpa using h1
 have b2:(k==2)=false:=by simpa using h2
 have b3:(k==3)=false:=by simpa using h3
 have b4:(k==4)=false:=by simpa using h4
 have b5:(k==5)=false:=by simpa using h5
 clear h1 h2 h3 h4 h5
 clear hl ho hn HX
 go_enter Tryz.func84,Tryz.ntmps84
 go_wp2_with fail
 go_ret
 exact⟨rfl,HK.o⟩
theorem mT (n:Nat) (HT:Hid (ij n)) (w:World) (F:Nat→Prop) (t:LB) (o:LP) (oa:Option Addr) (on oc:Nat) (hn:szL o≤n) (hl:(bM (.mk 3 t o true)).length≤1000000000) (ho:WAt w F (.slice oa on oc) o):
  Calls Tryz.prog 84 #[.agg #[.int .i64 3,.string (BA t),.slice oa on oc,.bool true]] w fun x w'=>x= .returned (.string (BA (bM (.mk 3 t o true))))∧Kept (fun _=>False) w w':=by
 have HK:Hid (Kept (fun _=>False) w (w.alloc (.cells #[.int .i64 3,.string (BA t),.slice oa on oc,.bool true] 101))):=jd ((Ja _ w).alloc _)
 have HX:Hid (bM (.mk 3 t o true)=[34]++([36,123]++t++[58,45]++aC o++[125])++[34]):=jd (by rw[dG];rfl)
 rw[HX.o] at hl⊢
 have zt:(BA t).size≤1000000000:=by rw[aq];first|omega|(simp only[Jf,Jg,Jn] at hl;omega)
 have htx:(aC o).length≤1000000000:=by simp only[Jf,Jg,Jn] at hl;omega
 have a1:(⟨#[36,123]⟩:ByteArray)++BA t=BA ([36,123]++t):=az [36,123] t
 have a2:BA ([36,123]++t)++(⟨#[58,45]⟩:ByteArray)=BA ([36,123]++t++[58,45]):=az _ [58,45]
 have a3:BA ([36,123]++t++[58,45])++BA (aC o)=BA ([36,123]++t++[58,45]++aC o):=az _ _
 have a4:BA ([36,123]++t++[58,45]++aC o)++(⟨#[125]⟩:ByteArray)=BA ([36,123]++t++[58,45]++aC o++[125]):=az _ [125]
 have z1:(BA ([36,123]++t)).size≤1000000002:=by rw[aq];simp only[Jf,Jg,Jn] at hl⊢;omega
 have z2:(BA ([36,123]++t++[58,45])).size≤1000000004:=by rw[aq];simp only[Jf,Jg,Jn] at hl⊢;omega
 have z3:(BA ([36,123]++t++[58,45]++aC o)).size≤1000000004:=by rw[aq];simp only[Jf,Jg,Jn] at hl⊢;omega
 have z4:(BA (aC o)).size≤1000000000:=by rw[aq];exact htx
 have y1:(⟨#[34]⟩:ByteArray)++BA ([36,123]++t++[58,45]++aC o++[125])=BA ([34]++([36,123]++t++[58,45]++aC o++[125])):=az [34] _
 have y2:BA ([34]++([36,123]++t++[58,45]++aC o++[125]))++(⟨#[34]⟩:ByteArray)=BA ([34]++([36,123]++t++[58,45]++aC o++[125])++[34]):=az _ [34]
 have zy:(BA ([36,123]++t++[58,45]++aC o++[125])).size≤1000000000:=by rw[aq];first|(simp only[Jf,Jg,Jn] at hl⊢;omega)|(simp only[Jf,Jg,Jn] at hl;omega)|simp
 have zz:(BA ([34]++([36,123]++t++[58,45]++aC o++[125]))).size≤1000000001:=by rw[aq];first|(simp only[Jf,Jg,Jn] at hl⊢;omega)|simp
 have HP:Hid (PAt (w.alloc (.cells #[.int .i64 3,.string (BA t),.slice oa on oc,.bool true] 101)) w.heap.size 3 t (.slice oa on oc) true):=jd (heap_alloc w _)
 have HW:Hid (WAt (w.alloc (.cells #[.int .i64 3,.string (BA t),.slice oa on oc,.bool true] 101)) F (.slice oa on oc) o):=jd (ho.kept HK.o (fun _ _ h=>h))
 clear hl ho HX
 generalize BA ([36,123]++t)=S0 at*
 generalize BA ([36,123]++t++[58,45])=S1 at*
 generalize BA ([36,123]++t++[58,45]++aC o)=S2 at*
 generalize BA ([36,123]++t++[58,45]++aC o++[125])=SC at*
 generalize BA ([34]++([36,123]++t++[58,45]++aC o++[125]))=SD at*
 generalize BA ([34]++([36,123]++t++[58,45]++aC o++[125])++[34])=SE at*
 go_enter Tryz.func84,Tryz.ntmps84
 go_wp2_with fail
 generalize(w.alloc (.cells #[.int .i64 3,.string (BA t),.slice oa on oc,.bool true] 101))=w1 at*
 obtain⟨rb,hrb⟩:∃rb,w.heap.size=rb:=⟨_,rfl⟩
 rw[hrb] at HP⊢
 clear hrb
 refine du 9 [stV (.pointer (some ⟨rb,1,none⟩)),stV (.string (BA t)),stV (.string S0),stV (.string S1),stV (.pointer (some ⟨rb,2,none⟩)),stV (.slice oa on oc),stV (.string (BA (aC o))),stV (.string S2),stV (.string SC)] (by kernel_rfl) (by kernel_rfl) ?_ ?_
 ·iterate 6
   refine ai (fun a' w' hI hag hf K hK=>?_) ?_
   ·obtain⟨⟨_,h0,rfl⟩,-⟩:=hf
    have s1:=hag.same 1 (by decide)
    clear hag
    have hh:PAt w' rb 3 t (.slice oa on oc) true:=hI.heap HP.o (fun h=>h)
    obtain⟨⟨p0,p1,p2,p3⟩,-⟩:=PAt.cells hh
    clear hh
    go_wp2_with fail
    exact hK _ _ hI (Ja _ _) rfl
  refine ai (fun a' w' hI hag hf K hK=>?_) ?_
  ·obtain⟨⟨_,h5,rfl⟩,-⟩:ah _ _ a' w' [5]:=hf
   clear hag
   go_wp2_with fail
   refine(HT.o _ F (.slice oa on oc) o hn htx (HW.o.kept hI (fun _ _ h=>h))).mono ?_
   rintro e wn ⟨rfl,hkn⟩
   go_wp2_with fail
   exact hK _ _ (hI.trans hkn (fun _ _ h=>h)) hkn rfl
  iterate 2
   refine ai (fun a' w' hI hag hf K hK=>?_) ?_
   ·obtain⟨⟨_,h0,rfl⟩,⟨_,h1,rfl⟩,-⟩:=hf
    clear hag
    go_wp2_with fail
    exact hK _ _ hI (Ja _ _) rfl
  exact trivial
 ·intro vs w' hI hvs
  simp only[pzz,aW,Act.put,Nat.reduceAdd,spv (hvs 0 _ _ rfl rfl) rfl,spv (hvs 1 _ _ rfl rfl) rfl,spv (hvs 2 _ _ rfl rfl) rfl,spv (hvs 3 _ _ rfl rfl) rfl,spv (hvs 4 _ _ rfl rfl) rfl,spv (hvs 5 _ _ rfl rfl) rfl,spv (hvs 6 _ _ rfl rfl) rfl,spv (hvs 7 _ _ rfl rfl) rfl,spv (hvs 8 _ _ rfl rfl) rfl]
  clear hvs
  have KX:=jd (HK.o.trans hI (fun _ _ h=>h))
  have hh:=hI.heap HP.o (fun h=>h)
  obtain⟨⟨p0,p1,p2,p3⟩,-⟩:=PAt.cells hh
  clear hh
  go_wp2_with fail
  go_ret
  exact⟨rfl,KX.o⟩
theorem mh (n:Nat) (HT:Hid (ij n)) (w:World) (F:Nat→Prop) (t:LB) (o:LP) (oa:Option Addr) (on oc:Nat) (hn:szL o≤n) (hl:(bM (.mk 3 t o false)).length≤1000000000) (ho:WAt w F (.slice oa on oc) o):
  Calls Tryz.prog 84 #[.agg #[.int .i64 3,.string (BA t),.slice oa on oc,.bool false]] w fun x w'=>x= .returned (.string (BA (bM (.mk 3 t o false))))∧Kept (fun _=>False) w w':=by
 have HK:Hid (Kept (fun _=>False) w (w.alloc (.cells #[.int .i64 3,.string (BA t),.slice oa on oc,.bool false] 101))):=jd ((Ja _ w).alloc _)
 have HX:Hid (bM (.mk 3 t o false)=[36,123]++t++[58,45]++aC o++[125]):=jd (by rw[dG];rfl)
 rw[HX.o] at hl⊢
 have zt:(BA t).size≤1000000000:=by rw[aq];first|omega|(simp only[Jf,Jg,Jn] at hl;omega)
 have htx:(aC o).length≤1000000000:=by simp only[Jf,Jg,Jn] at hl;omega
 have a1:(⟨#[36,123]⟩:ByteArray)++BA t=BA ([36,123]++t):=az [36,123] t
 have a2:BA ([36,123]++t)++(⟨#[58,45]⟩:ByteArray)=BA ([36,123]++t++[58,45]):=az _ [58,45]
 have a3:BA ([36,123]++t++[58,45])++BA (aC o)=BA ([36,123]++t++[58,45]++aC o):=az _ _
 have a4:BA ([36,123]++t++[58,45]++aC o)++(⟨#[125]⟩:ByteArray)=BA ([36,123]++t++[58,45]++aC o++[125]):=az _ [125]
 have z1:(BA ([36,123]++t)).size≤1000000002:=by rw[aq];simp only[Jf,Jg,Jn] at hl⊢;omega
 have z2:(BA ([36,123]++t++[58,45])).size≤1000000004:=by rw[aq];simp only[Jf,Jg,Jn] at hl⊢;omega
 have z3:(BA ([36,123]++t++[58,45]++aC o)).size≤1000000004:=by rw[aq];simp only[Jf,Jg,Jn] at hl⊢;omega
 have z4:(BA (aC o)).size≤1000000000:=by rw[aq];exact htx
 have HP:Hid (PAt (w.alloc (.cells #[.int .i64 3,.string (BA t),.slice oa on oc,.bool false] 101)) w.heap.size 3 t (.slice oa on oc) false):=jd (heap_alloc w _)
 have HW:Hid (WAt (w.alloc (.cells #[.int .i64 3,.string (BA t),.slice oa on oc,.bool false] 101)) F (.slice oa on oc) o):=jd (ho.kept HK.o (fun _ _ h=>h))
 clear hl ho HX
 generalize BA ([36,123]++t)=S0 at*
 generalize BA ([36,123]++t++[58,45])=S1 at*
 generalize BA ([36,123]++t++[58,45]++aC o)=S2 at*
 generalize BA ([36,123]++t++[58,45]++aC o++[125])=SC at*
 go_enter Tryz.func84,Tryz.ntmps84
 go_wp2_with fail
 generalize(w.alloc (.cells #[.int .i64 3,.string (BA t),.slice oa on oc,.bool false] 101))=w1 at*
 obtain⟨rb,hrb⟩:∃rb,w.heap.size=rb:=⟨_,rfl⟩
 rw[hrb] at HP⊢
 clear hrb
 refine du 9 [stV (.pointer (some ⟨rb,1,none⟩)),stV (.string (BA t)),stV (.string S0),stV (.string S1),stV (.pointer (some ⟨rb,2,none⟩)),stV (.slice oa on oc),stV (.string (BA (aC o))),stV (.string S2),stV (.string SC)] (by kernel_rfl) (by kernel_rfl) ?_ ?_
 ·iterate 6
   refine ai (fun a' w' hI hag hf K hK=>?_) ?_
   ·obtain⟨⟨_,h0,rfl⟩,-⟩:=hf
    have s1:=hag.same 1 (by decide)
    clear hag
    have hh:PAt w' rb 3 t (.slice oa on oc) false:=hI.heap HP.o (fun h=>h)
    obtain⟨⟨p0,p1,p2,p3⟩,-⟩:=PAt.cells hh
    clear hh
    go_wp2_with fail
    exact hK _ _ hI (Ja _ _) rfl
  refine ai (fun a' w' hI hag hf K hK=>?_) ?_
  ·obtain⟨⟨_,h5,rfl⟩,-⟩:ah _ _ a' w' [5]:=hf
   clear hag
   go_wp2_with fail
   refine(HT.o _ F (.slice oa on oc) o hn htx (HW.o.kept hI (fun _ _ h=>h))).mono ?_
   rintro e wn ⟨rfl,hkn⟩
   go_wp2_with fail
   exact hK _ _ (hI.trans hkn (fun _ _ h=>h)) hkn rfl
  iterate 2
   refine ai (fun a' w' hI hag hf K hK=>?_) ?_
   ·obtain⟨⟨_,h0,rfl⟩,⟨_,h1,rfl⟩,-⟩:=hf
    clear hag
    go_wp2_with fail
    exact hK _ _ hI (Ja _ _) rfl
  exact trivial
 ·intro vs w' hI hvs
  simp only[pzz,aW,Act.put,Nat.reduceAdd,spv (hvs 0 _ _ rfl rfl) rfl,spv (hvs 1 _ _ rfl rfl) rfl,spv (hvs 2 _ _ rfl rfl) rfl,spv (hvs 3 _ _ rfl rfl) rfl,spv (hvs 4 _ _ rfl rfl) rfl,spv (hvs 5 _ _ rfl rfl) rfl,spv (hvs 6 _ _ rfl rfl) rfl,spv (hvs 7 _ _ rfl rfl) rfl,spv (hvs 8 _ _ rfl rfl) rfl]
  clear hvs
  have KX:=jd (HK.o.trans hI (fun _ _ h=>h))
  have hh:=hI.heap HP.o (fun h=>h)
  obtain⟨⟨p0,p1,p2,p3⟩,-⟩:=PAt.cells hh
  clear hh
  go_wp2_with fail
  go_ret
  exact⟨rfl,KX.o⟩
theorem tT (n:Nat) (HT:Hid (ij n)) (w:World) (F:Nat→Prop) (p:Prt) (oa:Option Addr) (on oc:Nat) (hn:szL p.orw≤n) (hl:(bM p).length≤1000000000) (ho:WAt w F (.slice oa on oc) p.orw):
  Calls Tryz.prog 84 #[.agg #[.int .i64 p.kind,.string (BA p.text),.slice oa on oc,.bool p.quoted]] w fun x w'=>x= .returned (.string (BA (bM p)))∧Kept (fun _=>False) w w':=by
 obtain⟨k,t,o,q⟩:=p
 by_cases h1:k=1
 ·subst h1;cases q
  ·exact nR n HT w F t o oa on oc hn hl ho
  ·exact ph n HT w F t o oa on oc hn hl ho
 by_cases h2:k=2
 ·subst h2;cases q
  ·exact o0 n HT w F t o oa on oc hn hl ho
  ·exact qK n HT w F t o oa on oc hn hl ho
 by_cases h3:k=3
 ·subst h3;cases q
  ·exact mh n HT w F t o oa on oc hn hl ho
  ·exact mT n HT w F t o oa on oc hn hl ho
 by_cases h4:k=4
 ·subst h4;cases q
  ·exact mX n HT w F t o oa on oc hn hl ho
  ·exact od n HT w F t o oa on oc hn hl ho
 by_cases h5:k=5
 ·subst h5;cases q
  ·exact nW n HT w F t o oa on oc hn hl ho
  ·exact pc n HT w F t o oa on oc hn hl ho
 cases q
 ·exact nO n HT w F k t o oa on oc ⟨h1,h2,h3,h4,h5⟩ hn hl ho
 ·exact pa n HT w F k t o oa on oc ⟨h1,h2,h3,h4,h5⟩ hn hl ho
theorem yh {l:LP} {k:Nat} {p:Prt} (h:l[k]? =some p):aC (l.take (k+1))=aC (l.take k)++bM p:=by
 induction l generalizing k with
 |nil=>simp at h
 |cons x l ih=>
  cases k with
  |zero=>
   simp at h;subst h
   rw[List.take_succ_cons,List.take_zero,List.take_zero,fx,eE,List.append_nil,List.nil_append]
  |succ k=>
   rw[List.take_succ_cons,List.take_succ_cons,fx,fx,ih (by simpa using h),Jj]
theorem sL:∀(a b:LP),aC (a++b)=aC a++aC b
 |[],b=>by rw[eE];rfl
 |p::a,b=>by rw[Jy,fx,fx,sL a b,Jj]
theorem Dr (l:LP) (k:Nat):(aC (l.take k)).length≤(aC l).length:=by
 conv=>rhs;rw[←List.take_append_drop k l,sL,Jf]
 omega
theorem CV (n:Nat):ij n:=by
 induction n using Nat.strongRecOn with
 |ind n ih=>
  intro w F v l hn htl hv
  obtain⟨a,N,c,rfl⟩:=hv.slice
  have hN:=hv.elem.1
  have hn9:=hv.max
  have HV:=jd hv;have HN:=jd hN;have HTL:=jd htl;have HSZ:=jd hn
  have HT:Hid (ij (n -1)):=jd (ih (n -1) (by have:=dU l;omega))
  clear ih hv hN htl hn
  go_enter Tryz.func75,Tryz.ntmps75
  go_wp2_with fail
  go_loopg [3,8] N (fun gk s3 s8 wx=>∃k:Nat,gk=N -k∧k≤N∧s3= .string (BA (aC (l.take k)))∧s8= .int .i64 (k:Int)∧Kept (fun _=>False) w wx)
  case atStart=>exact⟨0,rfl,Ju _,by rw[List.take_zero,eE];rfl,rfl,Ja _ _⟩
  case round=>
   obtain⟨k,rfl,hk,rfl,rfl,hkk⟩:=hrel
   have HKK:=jd hkk
   clear hkk
   by_cases hlt:k<N
   ·obtain⟨p,hp⟩:∃p,l[k]? =some p:=⟨_,Je (by rw[←HN.o];exact hlt)⟩
    have hpm:p∈l:=List.mem_of_getElem? hp
    have hps:szL p.orw≤n -1:=by
     have h1:szP p<szL l:=tR hpm
     have h2:=ik p
     have h3:=HSZ.o
     omega
    have hnx:=yh hp
    have hle1:=Dr l (k+1)
    rw[hnx,Jf] at hle1
    have hpt:(bM p).length≤1000000000:=by have:=HTL.o;omega
    have zA:(BA (aC (l.take k))).size≤1000000000:=by rw[aq];have:=HTL.o;omega
    have zB:(BA (bM p)).size≤1000000000:=by rw[aq];exact hpt
    have bA:=az (aC (l.take k)) (bM p)
    rw[←hnx] at bA
    obtain⟨b1,o1,oa,on,oc,e1,p0,p1,p2,p3,hao⟩:=(HV.o.kept HKK.o (fun _ _ h=>h)).elem.2 k p hp
    subst e1
    have HAO:=jd (hao.kept ((Ja (fun _=>False) wr).alloc (.cells #[.int .i64 p.kind,.string (BA p.text),.slice oa on oc,.bool p.quoted] 101)) (fun _ _ h=>h))
    have hbl:b1<wr.heap.size:=World.block_lt_of_cell? wr _ p0
    have HC:=jd (tT (n -1) HT _ F p oa on oc hps hpt HAO.o)
    have K2:=jd (HKK.o.alloc (.cells #[.int .i64 p.kind,.string (BA p.text),.slice oa on oc,.bool p.quoted] 101))
    clear hp hpm hps hnx hle1 hpt hao
    go_wp2_with fail
    refine HC.o.mono ?_
    rintro x w4 ⟨rfl,k4⟩
    have K4:=jd (K2.o.trans k4 (fun _ _ h=>h))
    clear k4
    go_wp2_with fail
    go_roundg (N -(k+1))
    case measure=>omega
    case rel=>exact⟨k+1,rfl,hlt,rfl,by go_num,K4.o⟩
   ·obtain rfl:k=N:=by omega
    have htk:l.take k=l:=List.take_of_length_le (by rw[←HN.o];exact Jb _)
    rw[htk]
    go_wp2_with fail
    go_ret
    exact⟨rfl,HKK.o⟩
theorem j7 {w:World} {F:Nat→Prop} {v:Value} {l:LP} (hl:(aC l).length≤1000000000) (hv:WAt w F v l):
  Calls Tryz.prog 75 #[v] w fun x w'=>x= .returned (.string (BA (aC l)))∧Kept (fun _=>False) w w':=CV (szL l) w F v l (Jb _) hl hv
theorem tL {w:World} {g n c:Nat} {l:List Tk} (h:w.ownsRow 0 49 3 (.slice (some ⟨g,0,none⟩) n c) l.length (l.flatMap Tk.cells)) (i:Nat) (u:Value) (hu:(l.flatMap Tk.cells)[i]? =some u):w.cell? ⟨g,i,none⟩=some u:=by
 obtain⟨_,a,cap,e,_,_,hc⟩:=Rd.own h
 cases e
 obtain⟨g',off,e2,h2⟩:=hc i u hu
 cases e2
 rw[Nat.zero_add] at h2
 exact h2
theorem mD {α β:Type} (f:α→List β) (m:Nat):∀(l:List α),(∀x∈l,(f x).length=m)→∀(k:Nat) (x:α) (j:Nat),l[k]? =some x→j<m→(l.flatMap f)[k*m+j]? =(f x)[j]?
 |[],_,k,x,j,h,_=>by simp at h
 |y::l,hl,0,x,j,h,hj=>by
  simp at h;subst h
  rw[List.flatMap_cons,Nat.zero_mul,Nat.zero_add,List.getElem?_append_left (by rw[hl y Jz];exact hj)]
 |y::l,hl,k+1,x,j,h,hj=>by
  rw[List.flatMap_cons,List.getElem?_append_right (by rw[hl y Jz,Nat.succ_mul];omega),hl y Jz]
  rw[show(k+1)*m+j -m=k*m+j by rw[Nat.succ_mul];omega]
  exact mD f m l (fun z hz=>hl z (Qa _ hz)) k x j (by simpa using h) hj
theorem Cv {w:World} {g n c:Nat} {l:List Tk} (h:w.ownsRow 0 49 3 (.slice (some ⟨g,0,none⟩) n c) l.length (l.flatMap Tk.cells)) (k:Nat) (t:Tk) (hk:l[k]? =some t):
  w.cell? ⟨g,k*3,none⟩=some (.int .i64 (t.kind:Int))∧w.cell? ⟨g,k*3+1,none⟩=some (.string (BA t.text))∧w.cell? ⟨g,k*3+2,none⟩=some (.int .i64 (t.pos:Int)):=by
 have key:=fun j hj=>mD Tk.cells 3 l (fun _ _=>rfl) k t j hk hj
 exact⟨tL h (k*3+0) _ (key 0 (by decide)),tL h _ _ (key 1 (by decide)),tL h _ _ (key 2 (by decide))⟩
theorem qy {c:UInt8}:∀{r:LB},dC c r≠.error 0
 |[],h=>by cases h
 |d::r,h=>by
  unfold dC at h
  split at h
  ·cases h
  ·exact qy h
theorem By {r:LB} (h:fR r= .error 0):False:=by
 unfold fR at h
 split at h
 ·cases h
 ·split at h
  ·cases h
  ·cases h
theorem jG:∀{r:LB} {o:Nat},bO o r≠.error 0
 |[],o,h=>by cases h
 |c::r,o,h=>by
  unfold bO at h
  split at h
  ·cases h
  ·split at h
   ·exact jG h
   ·split at h
    ·exact jG h
    ·split at h
     ·cases h
     ·exact jG h
theorem gF:∀(n:Nat) (m:Md) (d:Nat) {r:LB},scan n m d r≠.error 0
 |0,m,d,r,h=>by unfold scan at h;cases h
 |n+1,.piece q,d,r,h=>by
  unfold scan at h
  split at h
  ·cases h
  ·split at h
   ·exact By h
   ·split at h
    ·exact qy h
    ·split at h
     ·split at h
      ·cases h
      ·exact gF n _ _ h
     ·split at h
      ·split at h
       ·exact jG h
       ·split at h
        ·cases h
        ·split at h
         ·split at h
          ·cases h
          ·exact gF n _ _ h
         ·split at h
          ·cases h
          ·cases h
      ·split at h
       ·cases h
       ·cases h
 |n+1,.double,d,r,h=>by
  unfold scan at h
  split at h
  ·cases h
  ·split at h
   ·cases h
   ·split at h
    ·rename_i e1 h1
     cases h
     exact gF n _ _ h1
    ·exact gF n _ _ h
 |n+1,.brace,d,r,h=>by
  unfold scan at h
  split at h
  ·cases h
  ·split at h
   ·cases h
   ·split at h
    ·cases h
    ·split at h
     ·exact gF n _ _ h
     ·split at h
      ·rename_i e1 h1
       cases h
       exact gF n _ _ h1
      ·exact gF n _ _ h
theorem sN:∀(n:Nat) {r:LB},bF n r≠.error 0
 |0,r,h=>by cases h
 |n+1,[],h=>by cases h
 |n+1,c::r,h=>by
  unfold bF at h
  split at h
  ·cases h
  ·split at h
   ·rename_i e1 h1
    cases h
    exact gF _ _ _ h1
   ·exact sN n h
theorem jX:∀(n N:Nat) (r:LB),dM n N r≠.error 0
 |0,_,_,h=>by cases h
 |n+1,N,[],h=>by cases h
 |n+1,N,c::r,h=>by
  by_cases h1:c=32∨c=9
  ·rw[lg h1] at h;exact jX n N r h
  ·by_cases h2:c=35
   ·rw[nC h1 h2] at h;exact jX n N _ h
   ·cases hop:cb (c::r) with
    |some o=>
     obtain⟨k,t⟩:=o
     rw[nt h1 h2 hop] at h
     split at h
     ·cases h
     ·cases hx:dM n N ((c::r).drop t.length) with
      |error e=>rw[hx] at h;cases h;exact jX n N _ hx
      |ok y=>rw[hx] at h;cases h
    |none=>
     cases hw:bF (r.length+2) (c::r) with
     |error e=>rw[pn h1 h2 hop hw] at h;cases h;exact sN _ hw
     |ok r'=>
      rw[kI h1 h2 hop hw] at h
      cases hx:dM n N r' with
      |error e=>rw[hx] at h;cases h;exact jX n N _ hx
      |ok y=>rw[hx] at h;cases h
theorem ig {s:LB} (h:dB s= .error 0):False:=by
 unfold dB at h
 split at h
 ·cases h
 ·split at h
  ·cases h
  ·exact jX _ _ _ h
