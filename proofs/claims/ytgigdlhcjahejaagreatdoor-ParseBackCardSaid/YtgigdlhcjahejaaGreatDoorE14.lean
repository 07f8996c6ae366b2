/- Of the proof of ParseBack: NodeS. -/
import Derived.Test.YtgigdlhcjahejaaGreatDoorE13
namespace Go.Proofs.YtgigdlhcjahejaaGreatDoor
open Go Go.RowKit Go.Lw
set_option maxRecDepth 100000
set_option linter.unusedVariables false
set_option linter.unusedSimpArgs false
attribute [local go_sem] au
theorem nz {α β:Type} {a:List α} {b:List β} {k:Nat} {x:α} {y:β} (h:a[k]? =some x) (g:b[k]? =some y):(a.zip b).drop k=(x,y)::(a.zip b).drop (k+1):=by
 have hk:k<(a.zip b).length:=by
  rw[List.length_zip]
  have h1:=(List.getElem?_eq_some_iff.1 h).1
  have h2:=(List.getElem?_eq_some_iff.1 g).1
  omega
 rw[List.drop_eq_getElem_cons hk,List.getElem_zip]
 obtain⟨_,e1⟩:=List.getElem?_eq_some_iff.1 h
 obtain⟨_,e2⟩:=List.getElem?_eq_some_iff.1 g
 rw[e1,e2]
theorem sR:∀(l m:List Nd),cH l m=(decide (l.length=m.length)&&(l.zip m).all fun x=>cz x.1 x.2)
 |[],[]=>by show cz.cH _ _=_;rw[cz.cH];rfl
 |[],_::_=>by show cz.cH _ _=_;rw[cz.cH]<;>simp
 |_::_,[]=>by show cz.cH _ _=_;rw[cz.cH]<;>simp
 |n::l,m::k=>by
  show cz.cH _ _=_
  rw[cz.cH]
  have:=sR l k
  have e:cz.cH l k=(decide (l.length=k.length)&&(l.zip k).all fun x=>cz x.1 x.2):=this
  rw[e]
  simp only[Jg,List.zip_cons_cons,List.all_cons,Nat.add_right_cancel_iff]
  cases cz n m<;>simp
set_option maxHeartbeats 4000000 in
theorem Fg (w:World) (F G:Nat→Prop) (s:LB) (o:LP) (oa:Option Addr) (on oc:Nat) (s':LB) (o':LP) (oa':Option Addr) (on' oc':Nat) (ho:WAt w F (.slice oa on oc) o) (ho':WAt w G (.slice oa' on' oc') o'):
  Calls Tryz.prog 31 #[.agg #[.string (BA s),.slice oa on oc],.agg #[.string (BA s'),.slice oa' on' oc']] w fun x w'=>x= .returned (.bool (decide (s=s')&&ct o o'))∧Kept (fun _=>False) w w':=by
 have HK:Hid (Kept (fun _=>False) w ((w.alloc (.cells #[.string (BA s),.slice oa on oc] 61)).alloc (.cells #[.string (BA s'),.slice oa' on' oc'] 61))):=jd (((Ja _ w).alloc _).alloc _)
 have HC:=jd (nM (ho.kept HK.o (fun _ _ h=>h)) (ho'.kept HK.o (fun _ _ h=>h)))
 clear ho ho'
 by_cases h1:s=s'
 ·have b1:(BA s==BA s')=true:=by rw[bR];simpa using h1
  have b1':(s==s')=true:=by simpa using h1
  have HD:=jd (Jc h1)
  clear h1
  go_enter Tryz.func31,Tryz.ntmps31
  go_wp2_with fail
  refine HC.o.mono ?_
  rintro x w4 ⟨rfl,k4⟩
  have K4:=jd (HK.o.trans k4 (fun _ _ h=>h))
  go_wp2_with fail
  go_ret
  rw[HD.o,Bool.true_and]
  exact⟨rfl,K4.o⟩
 ·have b1:(BA s==BA s')=false:=by rw[bR];simpa using h1
  have b1':(s==s')=false:=by simpa using h1
  have HD:=jd (Jd h1)
  clear h1
  go_enter Tryz.func31,Tryz.ntmps31
  go_wp2_with fail
  go_ret
  rw[HD.o,Bool.false_and]
  exact⟨rfl,HK.o⟩
set_option maxHeartbeats 4000000 in
theorem Fw (w:World) (F G:Nat→Prop) (s:Int) (o:LP) (oa:Option Addr) (on oc:Nat) (s':Int) (o':LP) (oa':Option Addr) (on' oc':Nat) (ho:WAt w F (.slice oa on oc) o) (ho':WAt w G (.slice oa' on' oc') o'):
  Calls Tryz.prog 34 #[.agg #[.int .i64 s,.slice oa on oc],.agg #[.int .i64 s',.slice oa' on' oc']] w fun x w'=>x= .returned (.bool (decide (s=s')&&ct o o'))∧Kept (fun _=>False) w w':=by
 have HK:Hid (Kept (fun _=>False) w ((w.alloc (.cells #[.int .i64 s,.slice oa on oc] 64)).alloc (.cells #[.int .i64 s',.slice oa' on' oc'] 64))):=jd (((Ja _ w).alloc _).alloc _)
 have HC:=jd (nM (ho.kept HK.o (fun _ _ h=>h)) (ho'.kept HK.o (fun _ _ h=>h)))
 clear ho ho'
 by_cases h1:s=s'
 ·have b1:(s==s')=true:=by simpa using h1
  have HD:=jd (Jc h1)
  clear h1
  go_enter Tryz.func34,Tryz.ntmps34
  go_wp2_with fail
  refine HC.o.mono ?_
  rintro x w4 ⟨rfl,k4⟩
  have K4:=jd (HK.o.trans k4 (fun _ _ h=>h))
  go_wp2_with fail
  go_ret
  rw[HD.o,Bool.true_and]
  exact⟨rfl,K4.o⟩
 ·have b1:(s==s')=false:=by simpa using h1
  have HD:=jd (Jd h1)
  clear h1
  go_enter Tryz.func34,Tryz.ntmps34
  go_wp2_with fail
  go_ret
  rw[HD.o,Bool.false_and]
  exact⟨rfl,HK.o⟩
set_option maxHeartbeats 8000000 in
theorem eqA (w:World) (F G:Nat→Prop) (va0 vb0:Value) (a b:List (LB×LP)) (ha:qQ w F va0 a) (hb:qQ w G vb0 b):
  Calls Tryz.prog 30 #[va0,vb0,.func (.func 31) #[] #[]] w fun x w'=>x= .returned (.bool (sameAs a b))∧Kept (fun _=>False) w w':=by
 unfold sameAs
 obtain⟨aa,c1,rfl⟩:=ha.slice
 obtain⟨ab,c2,rfl⟩:=hb.slice
 have hn9:=ha.max
 have HA:=jd ha;have HB:=jd hb
 obtain⟨n1,hn1⟩:∃n1,a.length=n1:=⟨_,rfl⟩
 obtain⟨n2,hn2⟩:∃n2,b.length=n2:=⟨_,rfl⟩
 have HN1:=jd hn1;have HN2:=jd hn2
 rw[hn1] at HA hn9⊢
 rw[hn2] at HB⊢
 clear ha hb hn1 hn2
 by_cases hne:n1=n2
 ·subst hne
  have hbb:((n1:Int) !=(n1:Int))=false:=by simp
  rw[Jc rfl,Bool.true_and]
  obtain⟨R0,hR0⟩:∃R0,(a.zip b).all (fun x=>decide (x.1.1=x.2.1)&&ct x.1.2 x.2.2)=R0:=⟨_,rfl⟩
  have HR0:=jd hR0
  rw[hR0]
  clear hR0
  go_enter Tryz.func30,Tryz.ntmps30
  go_wp2_with fail
  go_loopg [17] n1 (fun gk s17 wx=>∃k:Nat,gk=n1 -k∧k≤n1∧s17= .int .i64 (k:Int)∧((a.zip b).drop k).all (fun x=>decide (x.1.1=x.2.1)&&ct x.1.2 x.2.2)=R0∧Kept (fun _=>False) w wx)
  case atStart=>exact⟨0,rfl,Nat.zero_le _,rfl,HR0.o,Ja _ _⟩
  case round=>
   obtain⟨k,rfl,hk,rfl,hsm,hkk⟩:=hrel
   have HKK:=jd hkk;have HSM:=jd hsm
   clear hkk hsm
   by_cases hlt:k<n1
   ·obtain⟨p,hp⟩:∃p,a[k]? =some p:=⟨_,Je (by rw[HN1.o];exact hlt)⟩
    obtain⟨q,hq⟩:∃q,b[k]? =some q:=⟨_,Je (by rw[HN2.o];exact hlt)⟩
    have HZ:=jd (nz hp hq)
    have hdl:decide (k<n1)=true:=Jc hlt
    ·obtain⟨b1,o1,oa,on,oc,e1,hao,p0,hc⟩:=bQ.elem (size:=2) (fun _=>rfl) (by decide) (HA.o.kept HKK.o (fun _ _ h=>h)) hp
     have p1:=hc 1 (by decide)
     replace p0:wr.cell? ⟨b1,o1+k*2,none⟩=some (.string (BA p.1)):=p0
     replace p1:wr.cell? ⟨b1,o1+k*2+1,none⟩=some (.slice oa on oc):=p1
     clear hc
     obtain⟨b2,o2,oa',on',oc',e2,hbq,q0,hc⟩:=bQ.elem (size:=2) (fun _=>rfl) (by decide) (HB.o.kept (HKK.o.trans ((Ja (fun _=>False) wr).alloc (.cells #[.string (BA p.1),.slice oa on oc] 61)) (fun _ _ h=>h)) (fun _ _ h=>h)) hq
     have q1:=hc 1 (by decide)
     replace q0:(wr.alloc (.cells #[.string (BA p.1),.slice oa on oc] 61)).cell? ⟨b2,o2+k*2,none⟩=some (.string (BA q.1)):=q0
     replace q1:(wr.alloc (.cells #[.string (BA p.1),.slice oa on oc] 61)).cell? ⟨b2,o2+k*2+1,none⟩=some (.slice oa' on' oc'):=q1
     clear hc
     subst e1
     subst e2
     have K2:Hid (Kept (fun _=>False) wr ((wr.alloc (.cells #[.string (BA p.1),.slice oa on oc] 61)).alloc (.cells #[.string (BA q.1),.slice oa' on' oc'] 61))):=jd (((Ja _ wr).alloc _).alloc _)
     have HAO:=jd (hao.kept K2.o (fun _ _ h=>h));have HBO:=jd (hbq.kept ((Ja (fun _=>False) _).alloc (.cells #[.string (BA q.1),.slice oa' on' oc'] 61)) (fun _ _ h=>h))
     have hbl:b1<wr.heap.size:=World.block_lt_of_cell? wr _ p0
     have HC:=jd (Fg _ F G p.1 p.2 oa on oc q.1 q.2 oa' on' oc' HAO.o HBO.o)
     have HSM2:Hid (((decide (p.1=q.1)&&ct p.2 q.2)&&((a.zip b).drop (k+1)).all (fun x=>decide (x.1.1=x.2.1)&&ct x.1.2 x.2.2))=R0):=jd (by rw[←HSM.o,HZ.o,List.all_cons])
     obtain⟨sp,hsp⟩:∃sp,(decide (p.1=q.1)&&ct p.2 q.2)=sp:=⟨_,rfl⟩
     rw[hsp] at HC HSM2
     clear hp hq hao hbq hsp
     cases sp with
     |true=>
      have HSM3:Hid (((a.zip b).drop (k+1)).all (fun x=>decide (x.1.1=x.2.1)&&ct x.1.2 x.2.2)=R0):=jd (by rw[←HSM2.o,Bool.true_and])
      clear HSM2
      go_wp2_with fail
      refine HC.o.mono ?_
      rintro x w4 ⟨rfl,k4⟩
      have K4:=jd (HKK.o.trans (K2.o.trans k4 (fun _ _ h=>h)) (fun _ _ h=>h))
      clear k4
      go_wp2_with fail
      go_roundg (n1 -(k+1))
      case measure=>omega
      case rel=>exact⟨k+1,rfl,hlt,by go_num,HSM3.o,K4.o⟩
     |false=>
      have HF:Hid (R0=false):=jd (by rw[←HSM2.o,Bool.false_and])
      clear HSM2
      go_wp2_with fail
      refine HC.o.mono ?_
      rintro x w4 ⟨rfl,k4⟩
      have K4:=jd (HKK.o.trans (K2.o.trans k4 (fun _ _ h=>h)) (fun _ _ h=>h))
      clear k4
      go_wp2_with fail
      go_ret
      rw[HF.o]
      exact⟨rfl,K4.o⟩
   ·have hke:k=n1:=by omega
    have hdl:decide (k<n1)=false:=Jd hlt
    have HT:Hid (R0=true):=jd (by
     rw[←HSM.o,List.drop_eq_nil_of_le (by rw[List.length_zip,HN1.o,hke];exact Nat.min_le_left _ _)]
     rfl)
    clear hke
    go_wp2_with fail
    go_ret
    rw[HT.o]
    exact⟨rfl,HKK.o⟩
 ·have hbb:((n1:Int) !=(n2:Int))=true:=by simp[bne];omega
  rw[Jd hne,Bool.false_and]
  have hn9':n2≤9223372036854775807:=by have:=HB.o.max;rw[HN2.o] at this;exact this
  clear hne
  go_enter Tryz.func30,Tryz.ntmps30
  go_wp2_with fail
  go_ret
  exact⟨rfl,Ja _ _⟩
set_option maxHeartbeats 8000000 in
theorem eqR (w:World) (F G:Nat→Prop) (va0 vb0:Value) (a b:List (Int×LP)) (ha:rR w F va0 a) (hb:rR w G vb0 b):
  Calls Tryz.prog 33 #[va0,vb0,.func (.func 34) #[] #[]] w fun x w'=>x= .returned (.bool (mq a b))∧Kept (fun _=>False) w w':=by
 unfold mq
 obtain⟨aa,c1,rfl⟩:=ha.slice
 obtain⟨ab,c2,rfl⟩:=hb.slice
 have hn9:=ha.max
 have HA:=jd ha;have HB:=jd hb
 obtain⟨n1,hn1⟩:∃n1,a.length=n1:=⟨_,rfl⟩
 obtain⟨n2,hn2⟩:∃n2,b.length=n2:=⟨_,rfl⟩
 have HN1:=jd hn1;have HN2:=jd hn2
 rw[hn1] at HA hn9⊢
 rw[hn2] at HB⊢
 clear ha hb hn1 hn2
 by_cases hne:n1=n2
 ·subst hne
  have hbb:((n1:Int) !=(n1:Int))=false:=by simp
  rw[Jc rfl,Bool.true_and]
  obtain⟨R0,hR0⟩:∃R0,(a.zip b).all (fun x=>decide (x.1.1=x.2.1)&&ct x.1.2 x.2.2)=R0:=⟨_,rfl⟩
  have HR0:=jd hR0
  rw[hR0]
  clear hR0
  go_enter Tryz.func33,Tryz.ntmps33
  go_wp2_with fail
  go_loopg [17] n1 (fun gk s17 wx=>∃k:Nat,gk=n1 -k∧k≤n1∧s17= .int .i64 (k:Int)∧((a.zip b).drop k).all (fun x=>decide (x.1.1=x.2.1)&&ct x.1.2 x.2.2)=R0∧Kept (fun _=>False) w wx)
  case atStart=>exact⟨0,rfl,Nat.zero_le _,rfl,HR0.o,Ja _ _⟩
  case round=>
   obtain⟨k,rfl,hk,rfl,hsm,hkk⟩:=hrel
   have HKK:=jd hkk;have HSM:=jd hsm
   clear hkk hsm
   by_cases hlt:k<n1
   ·obtain⟨p,hp⟩:∃p,a[k]? =some p:=⟨_,Je (by rw[HN1.o];exact hlt)⟩
    obtain⟨q,hq⟩:∃q,b[k]? =some q:=⟨_,Je (by rw[HN2.o];exact hlt)⟩
    have HZ:=jd (nz hp hq)
    have hdl:decide (k<n1)=true:=Jc hlt
    ·obtain⟨b1,o1,oa,on,oc,e1,hao,p0,hc⟩:=bQ.elem (size:=2) (fun _=>rfl) (by decide) (HA.o.kept HKK.o (fun _ _ h=>h)) hp
     have p1:=hc 1 (by decide)
     replace p0:wr.cell? ⟨b1,o1+k*2,none⟩=some (.int .i64 p.1):=p0
     replace p1:wr.cell? ⟨b1,o1+k*2+1,none⟩=some (.slice oa on oc):=p1
     clear hc
     obtain⟨b2,o2,oa',on',oc',e2,hbq,q0,hc⟩:=bQ.elem (size:=2) (fun _=>rfl) (by decide) (HB.o.kept (HKK.o.trans ((Ja (fun _=>False) wr).alloc (.cells #[.int .i64 p.1,.slice oa on oc] 64)) (fun _ _ h=>h)) (fun _ _ h=>h)) hq
     have q1:=hc 1 (by decide)
     replace q0:(wr.alloc (.cells #[.int .i64 p.1,.slice oa on oc] 64)).cell? ⟨b2,o2+k*2,none⟩=some (.int .i64 q.1):=q0
     replace q1:(wr.alloc (.cells #[.int .i64 p.1,.slice oa on oc] 64)).cell? ⟨b2,o2+k*2+1,none⟩=some (.slice oa' on' oc'):=q1
     clear hc
     subst e1
     subst e2
     have K2:Hid (Kept (fun _=>False) wr ((wr.alloc (.cells #[.int .i64 p.1,.slice oa on oc] 64)).alloc (.cells #[.int .i64 q.1,.slice oa' on' oc'] 64))):=jd (((Ja _ wr).alloc _).alloc _)
     have HAO:=jd (hao.kept K2.o (fun _ _ h=>h));have HBO:=jd (hbq.kept ((Ja (fun _=>False) _).alloc (.cells #[.int .i64 q.1,.slice oa' on' oc'] 64)) (fun _ _ h=>h))
     have hbl:b1<wr.heap.size:=World.block_lt_of_cell? wr _ p0
     have HC:=jd (Fw _ F G p.1 p.2 oa on oc q.1 q.2 oa' on' oc' HAO.o HBO.o)
     have HSM2:Hid (((decide (p.1=q.1)&&ct p.2 q.2)&&((a.zip b).drop (k+1)).all (fun x=>decide (x.1.1=x.2.1)&&ct x.1.2 x.2.2))=R0):=jd (by rw[←HSM.o,HZ.o,List.all_cons])
     obtain⟨sp,hsp⟩:∃sp,(decide (p.1=q.1)&&ct p.2 q.2)=sp:=⟨_,rfl⟩
     rw[hsp] at HC HSM2
     clear hp hq hao hbq hsp
     cases sp with
     |true=>
      have HSM3:Hid (((a.zip b).drop (k+1)).all (fun x=>decide (x.1.1=x.2.1)&&ct x.1.2 x.2.2)=R0):=jd (by rw[←HSM2.o,Bool.true_and])
      clear HSM2
      go_wp2_with fail
      refine HC.o.mono ?_
      rintro x w4 ⟨rfl,k4⟩
      have K4:=jd (HKK.o.trans (K2.o.trans k4 (fun _ _ h=>h)) (fun _ _ h=>h))
      clear k4
      go_wp2_with fail
      go_roundg (n1 -(k+1))
      case measure=>omega
      case rel=>exact⟨k+1,rfl,hlt,by go_num,HSM3.o,K4.o⟩
     |false=>
      have HF:Hid (R0=false):=jd (by rw[←HSM2.o,Bool.false_and])
      clear HSM2
      go_wp2_with fail
      refine HC.o.mono ?_
      rintro x w4 ⟨rfl,k4⟩
      have K4:=jd (HKK.o.trans (K2.o.trans k4 (fun _ _ h=>h)) (fun _ _ h=>h))
      clear k4
      go_wp2_with fail
      go_ret
      rw[HF.o]
      exact⟨rfl,K4.o⟩
   ·have hke:k=n1:=by omega
    have hdl:decide (k<n1)=false:=Jd hlt
    have HT:Hid (R0=true):=jd (by
     rw[←HSM.o,List.drop_eq_nil_of_le (by rw[List.length_zip,HN1.o,hke];exact Nat.min_le_left _ _)]
     rfl)
    clear hke
    go_wp2_with fail
    go_ret
    rw[HT.o]
    exact⟨rfl,HKK.o⟩
 ·have hbb:((n1:Int) !=(n2:Int))=true:=by simp[bne];omega
  rw[Jd hne,Bool.false_and]
  have hn9':n2≤9223372036854775807:=by have:=HB.o.max;rw[HN2.o] at this;exact this
  clear hne
  go_enter Tryz.func33,Tryz.ntmps33
  go_wp2_with fail
  go_ret
  exact⟨rfl,Ja _ _⟩
set_option maxHeartbeats 8000000 in
theorem eqW (w:World) (F G:Nat→Prop) (va0 vb0:Value) (a b:List LP) (ha:mj w F va0 a) (hb:mj w G vb0 b):
  Calls Tryz.prog 35 #[va0,vb0,.func (.func 32) #[] #[]] w fun x w'=>x= .returned (.bool (lV a b))∧Kept (fun _=>False) w w':=by
 unfold lV
 obtain⟨aa,c1,rfl⟩:=ha.slice
 obtain⟨ab,c2,rfl⟩:=hb.slice
 have hn9:=ha.max
 have HA:=jd ha;have HB:=jd hb
 obtain⟨n1,hn1⟩:∃n1,a.length=n1:=⟨_,rfl⟩
 obtain⟨n2,hn2⟩:∃n2,b.length=n2:=⟨_,rfl⟩
 have HN1:=jd hn1;have HN2:=jd hn2
 rw[hn1] at HA hn9⊢
 rw[hn2] at HB⊢
 clear ha hb hn1 hn2
 by_cases hne:n1=n2
 ·subst hne
  have hbb:((n1:Int) !=(n1:Int))=false:=by simp
  rw[Jc rfl,Bool.true_and]
  obtain⟨R0,hR0⟩:∃R0,(a.zip b).all (fun x=>ct x.1 x.2)=R0:=⟨_,rfl⟩
  have HR0:=jd hR0
  rw[hR0]
  clear hR0
  go_enter Tryz.func35,Tryz.ntmps35
  go_wp2_with fail
  go_loopg [17] n1 (fun gk s17 wx=>∃k:Nat,gk=n1 -k∧k≤n1∧s17= .int .i64 (k:Int)∧((a.zip b).drop k).all (fun x=>ct x.1 x.2)=R0∧Kept (fun _=>False) w wx)
  case atStart=>exact⟨0,rfl,Nat.zero_le _,rfl,HR0.o,Ja _ _⟩
  case round=>
   obtain⟨k,rfl,hk,rfl,hsm,hkk⟩:=hrel
   have HKK:=jd hkk;have HSM:=jd hsm
   clear hkk hsm
   by_cases hlt:k<n1
   ·obtain⟨p,hp⟩:∃p,a[k]? =some p:=⟨_,Je (by rw[HN1.o];exact hlt)⟩
    obtain⟨q,hq⟩:∃q,b[k]? =some q:=⟨_,Je (by rw[HN2.o];exact hlt)⟩
    have HZ:=jd (nz hp hq)
    have hdl:decide (k<n1)=true:=Jc hlt
    ·obtain⟨b1,o1,oa,on,oc,e1,hao,p0,_⟩:=bQ.elem (size:=1) (fun _=>rfl) (by decide) (HA.o.kept HKK.o (fun _ _ h=>h)) hp
     replace p0:wr.cell? ⟨b1,o1+k,none⟩=some (.slice oa on oc):=by rw[Nat.mul_one] at p0;exact p0
     obtain⟨b2,o2,oa',on',oc',e2,hbq,q0,_⟩:=bQ.elem (size:=1) (fun _=>rfl) (by decide) (HB.o.kept HKK.o (fun _ _ h=>h)) hq
     replace q0:wr.cell? ⟨b2,o2+k,none⟩=some (.slice oa' on' oc'):=by rw[Nat.mul_one] at q0;exact q0
     subst e1
     subst e2
     have K2:Hid (Kept (fun _=>False) wr wr):=jd (Ja _ _)
     have HAO:=jd hao;have HBO:=jd hbq
     have hbl:b1<wr.heap.size:=World.block_lt_of_cell? wr _ p0
     have HC:=jd (nM HAO.o HBO.o)
     have HSM2:Hid ((ct p q&&((a.zip b).drop (k+1)).all (fun x=>ct x.1 x.2))=R0):=jd (by rw[←HSM.o,HZ.o,List.all_cons])
     obtain⟨sp,hsp⟩:∃sp,ct p q=sp:=⟨_,rfl⟩
     rw[hsp] at HC HSM2
     clear hp hq hao hbq hsp
     cases sp with
     |true=>
      have HSM3:Hid (((a.zip b).drop (k+1)).all (fun x=>ct x.1 x.2)=R0):=jd (by rw[←HSM2.o,Bool.true_and])
      clear HSM2
      go_wp2_with fail
      refine HC.o.mono ?_
      rintro x w4 ⟨rfl,k4⟩
      have K4:=jd (HKK.o.trans (K2.o.trans k4 (fun _ _ h=>h)) (fun _ _ h=>h))
      clear k4
      go_wp2_with fail
      go_roundg (n1 -(k+1))
      case measure=>omega
      case rel=>exact⟨k+1,rfl,hlt,by go_num,HSM3.o,K4.o⟩
     |false=>
      have HF:Hid (R0=false):=jd (by rw[←HSM2.o,Bool.false_and])
      clear HSM2
      go_wp2_with fail
      refine HC.o.mono ?_
      rintro x w4 ⟨rfl,k4⟩
      have K4:=jd (HKK.o.trans (K2.o.trans k4 (fun _ _ h=>h)) (fun _ _ h=>h))
      clear k4
      go_wp2_with fail
      go_ret
      rw[HF.o]
      exact⟨rfl,K4.o⟩
   ·have hke:k=n1:=by omega
    have hdl:decide (k<n1)=false:=Jd hlt
    have HT:Hid (R0=true):=jd (by
     rw[←HSM.o,List.drop_eq_nil_of_le (by rw[List.length_zip,HN1.o,hke];exact Nat.min_le_left _ _)]
     rfl)
    clear hke
    go_wp2_with fail
    go_ret
    rw[HT.o]
    exact⟨rfl,HKK.o⟩
 ·have hbb:((n1:Int) !=(n2:Int))=true:=by simp[bne];omega
  rw[Jd hne,Bool.false_and]
  have hn9':n2≤9223372036854775807:=by have:=HB.o.max;rw[HN2.o] at this;exact this
  clear hne
  go_enter Tryz.func35,Tryz.ntmps35
  go_wp2_with fail
  go_ret
  exact⟨rfl,Ja _ _⟩
def NBx (w:World) (b:Nat) (c:Array Value):Prop:=w.heap[b]? =some (.cells c 27 (0,0))
def yv (n:Nat):Prop:=∀(w:World) (F G:Nat→Prop) (va vb:Value) (a b:Nd),szN a≤n→NAt w F va a→NAt w G vb b→
 Calls Tryz.prog 11 #[va,vb] w fun x w'=>x= .returned (.bool (cz a b))∧Kept (fun _=>False) w w'
theorem qX:∀l:List Nd,1≤cM l
 |[]=>by show 1≤szN.cM _;rw[szN.cM];omega
 |p::l=>by have:=qX l;show 1≤szN.cM _;rw[szN.cM];exact lt9 this (Nat.le_add_left _ _)
theorem jl:∀{l:List Nd} {p:Nd},p∈l→szN p<cM l
 |[],p,h=>by cases h
 |x::l,p,h=>by
  have e:cM (x::l)=szN x+cM l:=by show szN.cM _=_;rw[szN.cM]
  rw[e]
  rcases Jl.1 h with rfl|h
  ·have:=qX l;omega
  ·have:=jl h;omega
theorem ji (n:Nd):szN n=1+cM n.kids:=by
 obtain⟨k,b,s,a,w,r,l⟩:=n
 show szN (Nd.mk k b s a w r l)=1+cM l
 rw[szN]
set_option maxHeartbeats 8000000 in
theorem eqN (w:World) (F G:Nat→Prop) (va0 vb0:Value) (a b:List (Nd)) (n:Nat) (HS:Hid (yv n)) (hsz:cM a≤n+1) (ha:cE w F va0 a) (hb:cE w G vb0 b):
  Calls Tryz.prog 36 #[va0,vb0,.func (.func 11) #[] #[]] w fun x w'=>x= .returned (.bool (cH a b))∧Kept (fun _=>False) w w':=by
 have HSZ:=jd hsz
 clear hsz
 rw[sR]
 obtain⟨aa,c1,rfl⟩:=ha.slice
 obtain⟨ab,c2,rfl⟩:=hb.slice
 have hn9:=ha.max
 have HA:=jd ha;have HB:=jd hb
 obtain⟨n1,hn1⟩:∃n1,a.length=n1:=⟨_,rfl⟩
 obtain⟨n2,hn2⟩:∃n2,b.length=n2:=⟨_,rfl⟩
 have HN1:=jd hn1;have HN2:=jd hn2
 rw[hn1] at HA hn9⊢
 rw[hn2] at HB⊢
 clear ha hb hn1 hn2
 by_cases hne:n1=n2
 ·subst hne
  have hbb:((n1:Int) !=(n1:Int))=false:=by simp
  rw[Jc rfl,Bool.true_and]
  obtain⟨R0,hR0⟩:∃R0,(a.zip b).all (fun x=>cz x.1 x.2)=R0:=⟨_,rfl⟩
  have HR0:=jd hR0
  rw[hR0]
  clear hR0
  go_enter Tryz.func36,Tryz.ntmps36
  go_wp2_with fail
  go_loopg [17] n1 (fun gk s17 wx=>∃k:Nat,gk=n1 -k∧k≤n1∧s17= .int .i64 (k:Int)∧((a.zip b).drop k).all (fun x=>cz x.1 x.2)=R0∧Kept (fun _=>False) w wx)
  case atStart=>exact⟨0,rfl,Nat.zero_le _,rfl,HR0.o,Ja _ _⟩
  case round=>
   obtain⟨k,rfl,hk,rfl,hsm,hkk⟩:=hrel
   have HKK:=jd hkk;have HSM:=jd hsm
   clear hkk hsm
   by_cases hlt:k<n1
   ·obtain⟨p,hp⟩:∃p,a[k]? =some p:=⟨_,Je (by rw[HN1.o];exact hlt)⟩
    obtain⟨q,hq⟩:∃q,b[k]? =some q:=⟨_,Je (by rw[HN2.o];exact hlt)⟩
    have HZ:=jd (nz hp hq)
    have hdl:decide (k<n1)=true:=Jc hlt
    ·have hps:szN p≤n:=by have h1:szN p<cM a:=jl (List.mem_of_getElem? hp);have h2:=HSZ.o;omega
     obtain⟨b1,o1,xa,xan,xac,xw,xwn,xwc,xr,xrn,xrc,xk,xkn,xkc,e1,p0,p1,p2,p3,p4,p5,p6,hao⟩:=cE.elem (HA.o.kept HKK.o (fun _ _ h=>h)) hp
     obtain⟨b2,o2,ya,yan,yac,yw,ywn,ywc,yr,yrn,yrc,yk,ykn,ykc,e2,q0,q1,q2,q3,q4,q5,q6,hbq⟩:=cE.elem (HB.o.kept (HKK.o.trans ((Ja (fun _=>False) wr).alloc (.cells #[.int .i64 p.kind,.bool p.neg,.string (BA p.name),.slice xa xan xac,.slice xw xwn xwc,.slice xr xrn xrc,.slice xk xkn xkc] 27)) (fun _ _ h=>h)) (fun _ _ h=>h)) hq
     subst e1
     subst e2
     have K2:Hid (Kept (fun _=>False) wr ((wr.alloc (.cells #[.int .i64 p.kind,.bool p.neg,.string (BA p.name),.slice xa xan xac,.slice xw xwn xwc,.slice xr xrn xrc,.slice xk xkn xkc] 27)).alloc (.cells #[.int .i64 q.kind,.bool q.neg,.string (BA q.name),.slice ya yan yac,.slice yw ywn ywc,.slice yr yrn yrc,.slice yk ykn ykc] 27))):=jd (((Ja _ wr).alloc _).alloc _)
     have HAO:=jd (hao.kept K2.o (fun _ _ h=>h));have HBO:=jd (hbq.kept ((Ja (fun _=>False) _).alloc (.cells #[.int .i64 q.kind,.bool q.neg,.string (BA q.name),.slice ya yan yac,.slice yw ywn ywc,.slice yr yrn yrc,.slice yk ykn ykc] 27)) (fun _ _ h=>h))
     have hbl:b1<wr.heap.size:=World.block_lt_of_cell? wr _ p0
     have HC:=jd (HS.o _ F G _ _ p q hps HAO.o HBO.o)
     have HSM2:Hid ((cz p q&&((a.zip b).drop (k+1)).all (fun x=>cz x.1 x.2))=R0):=jd (by rw[←HSM.o,HZ.o,List.all_cons])
     obtain⟨sp,hsp⟩:∃sp,cz p q=sp:=⟨_,rfl⟩
     rw[hsp] at HC HSM2
     clear hp hq hao hbq hsp hps
     cases sp with
     |true=>
      have HSM3:Hid (((a.zip b).drop (k+1)).all (fun x=>cz x.1 x.2)=R0):=jd (by rw[←HSM2.o,Bool.true_and])
      clear HSM2
      go_wp2_with fail
      refine HC.o.mono ?_
      rintro x w4 ⟨rfl,k4⟩
      have K4:=jd (HKK.o.trans (K2.o.trans k4 (fun _ _ h=>h)) (fun _ _ h=>h))
      clear k4
      go_wp2_with fail
      go_roundg (n1 -(k+1))
      case measure=>omega
      case rel=>exact⟨k+1,rfl,hlt,by go_num,HSM3.o,K4.o⟩
     |false=>
      have HF:Hid (R0=false):=jd (by rw[←HSM2.o,Bool.false_and])
      clear HSM2
      go_wp2_with fail
      refine HC.o.mono ?_
      rintro x w4 ⟨rfl,k4⟩
      have K4:=jd (HKK.o.trans (K2.o.trans k4 (fun _ _ h=>h)) (fun _ _ h=>h))
      clear k4
      go_wp2_with fail
      go_ret
      rw[HF.o]
      exact⟨rfl,K4.o⟩
   ·have hke:k=n1:=by omega
    have hdl:decide (k<n1)=false:=Jd hlt
    have HT:Hid (R0=true):=jd (by
     rw[←HSM.o,List.drop_eq_nil_of_le (by rw[List.length_zip,HN1.o,hke];exact Nat.min_le_left _ _)]
     rfl)
    clear hke
    go_wp2_with fail
    go_ret
    rw[HT.o]
    exact⟨rfl,HKK.o⟩
 ·have hbb:((n1:Int) !=(n2:Int))=true:=by simp[bne];omega
  rw[Jd hne,Bool.false_and]
  have hn9':n2≤9223372036854775807:=by have:=HB.o.max;rw[HN2.o] at this;exact this
  clear hne
  go_enter Tryz.func36,Tryz.ntmps36
  go_wp2_with fail
  go_ret
  exact⟨rfl,Ja _ _⟩
set_option maxHeartbeats 16000000 in
theorem Ae (n : Nat) : yv n := by
  induction n using Nat.strongRecOn with
  | ind n ih =>
    intro w F G va vb a b hn ha hb
    have hpos := ji a
    have hks := qX a.kids
    have HS : Hid (yv (n - 1)) := jd (ih (n - 1) (by omega))
    have hsz : cM a.kids ≤ n - 1 + 1 := by omega
    have HSZ := jd hsz
    obtain ⟨xa, xan, xac, xw, xwn, xwc, xr, xrn, xrc, xk, xkn, xkc, rfl, ha1, ha2, ha3, ha4⟩ := ha.opens
    obtain ⟨ya, yan, yac, yw, ywn, ywc, yr, yrn, yrc, yk, ykn, ykc, rfl, hb1, hb2, hb3, hb4⟩ := hb.opens
    have H1 := jd ha1; have H2 := jd ha2; have H3 := jd ha3; have H4 := jd ha4
    have G1 := jd hb1; have G2 := jd hb2; have G3 := jd hb3; have G4 := jd hb4
    obtain ⟨ak, an, al, ax, aw, ar, akk⟩ := a
    obtain ⟨bk, bn, bl, bx, bw, br, bkk⟩ := b
    simp only [Nd.kind, Nd.neg, Nd.name, Nd.al, Nd.ws, Nd.rs, Nd.kids] at H1 H2 H3 H4 G1 G2 G3 G4 HSZ
    have HEQ : Hid (cz (.mk ak an al ax aw ar akk) (.mk bk bn bl bx bw br bkk) = (decide (ak = bk) && (an == bn) && decide (al = bl) && sameAs ax bx && mq ar br && lV aw bw && cH akk bkk)) := jd (by rw [cz])
    rw [HEQ.o]
    have KA : Hid (Kept (fun _ => False) w ((w.alloc (.cells #[.int .i64 ak, .bool an, .string (BA al), .slice xa xan xac, .slice xw xwn xwc, .slice xr xrn xrc, .slice xk xkn xkc] 27)).alloc (.cells #[.int .i64 bk, .bool bn, .string (BA bl), .slice ya yan yac, .slice yw ywn ywc, .slice yr yrn yrc, .slice yk ykn ykc] 27))) := jd (((Ja _ w).alloc _).alloc _)
    have PA : Hid (NBx ((w.alloc (.cells #[.int .i64 ak, .bool an, .string (BA al), .slice xa xan xac, .slice xw xwn xwc, .slice xr xrn xrc, .slice xk xkn xkc] 27)).alloc (.cells #[.int .i64 bk, .bool bn, .string (BA bl), .slice ya yan yac, .slice yw ywn ywc, .slice yr yrn yrc, .slice yk ykn ykc] 27)) w.heap.size #[.int .i64 ak, .bool an, .string (BA al), .slice xa xan xac, .slice xw xwn xwc, .slice xr xrn xrc, .slice xk xkn xkc]) := jd (Kept.heap ((Ja (fun _ => False) _).alloc _) (heap_alloc w _) (fun h => h))
    have PB : Hid (NBx ((w.alloc (.cells #[.int .i64 ak, .bool an, .string (BA al), .slice xa xan xac, .slice xw xwn xwc, .slice xr xrn xrc, .slice xk xkn xkc] 27)).alloc (.cells #[.int .i64 bk, .bool bn, .string (BA bl), .slice ya yan yac, .slice yw ywn ywc, .slice yr yrn yrc, .slice yk ykn ykc] 27)) (w.heap.size + 1) #[.int .i64 bk, .bool bn, .string (BA bl), .slice ya yan yac, .slice yw ywn ywc, .slice yr yrn yrc, .slice yk ykn ykc]) := jd (by have := heap_alloc (w.alloc (.cells #[.int .i64 ak, .bool an, .string (BA al), .slice xa xan xac, .slice xw xwn xwc, .slice xr xrn xrc, .slice xk xkn xkc] 27)) (.cells #[.int .i64 bk, .bool bn, .string (BA bl), .slice ya yan yac, .slice yw ywn ywc, .slice yr yrn yrc, .slice yk ykn ykc] 27); rw [World.size_alloc] at this; exact this)
    clear ih ha hb hn hpos hks hsz ha1 ha2 ha3 ha4 hb1 hb2 hb3 hb4 HEQ
    show Calls Tryz.prog 11 #[.agg #[.int .i64 ak, .bool an, .string (BA al), .slice xa xan xac, .slice xw xwn xwc, .slice xr xrn xrc, .slice xk xkn xkc], .agg #[.int .i64 bk, .bool bn, .string (BA bl), .slice ya yan yac, .slice yw ywn ywc, .slice yr yrn yrc, .slice yk ykn ykc]] w _
    obtain ⟨sv, hsv⟩ : ∃ sv, (decide (ak = bk) && (an == bn) && decide (al = bl)) = sv := ⟨_, rfl⟩
    have hcond : (((ak == bk) = true ∧ (an == bn) = true ∧ (BA al == BA bl) = true ∧ (al == bl) = true) ∧ sv = true) ∨ (((ak == bk) = true ∧ (an == bn) = true ∧ (BA al == BA bl) = false ∧ (al == bl) = false) ∧ sv = false) ∨ (((ak == bk) = true ∧ (an == bn) = false) ∧ sv = false) ∨ ((ak == bk) = false ∧ sv = false) := by
      rw [← hsv, bR]
      by_cases e1 : ak = bk
      · by_cases e2 : an = bn
        · by_cases e3 : al = bl
          · exact .inl (by simp [e1, e2, e3])
          · exact .inr (.inl (by simp [e1, e2, e3]))
        · exact .inr (.inr (.inl (by simp [e1, e2])))
      · exact .inr (.inr (.inr (by simp [e1])))
    rw [hsv]
    clear hsv
    rcases hcond with ⟨⟨c1, c2, c3, c4⟩, rfl⟩ | ⟨⟨c1, c2, c3, c4⟩, rfl⟩ | ⟨⟨c1, c2⟩, rfl⟩ | ⟨c1, rfl⟩
    all_goals
      go_enter Tryz.func11, Tryz.ntmps11
      go_wp2_with fail
      refine (eqA _ F G _ _ ax bx (H1.o.kept KA.o (fun _ _ h => h)) (G1.o.kept KA.o (fun _ _ h => h))).mono ?_
      rintro x w4 ⟨rfl, k4⟩
      have K4 := jd (KA.o.trans k4 (fun _ _ h => h))
      have PA4 : NBx w4 w.heap.size _ := k4.heap PA.o (fun h => h)
      have PB4 : NBx w4 (w.heap.size + 1) _ := k4.heap PB.o (fun h => h)
      have x5 := aq PA4 5; have y5 := aq PB4 5
      clear k4
      go_wp2_with fail
      refine (eqR _ F G _ _ ar br (H3.o.kept K4.o (fun _ _ h => h)) (G3.o.kept K4.o (fun _ _ h => h))).mono ?_
      rintro x w5 ⟨rfl, k5⟩
      have K5 := jd (K4.o.trans k5 (fun _ _ h => h))
      have PA5 : NBx w5 w.heap.size _ := k5.heap PA4 (fun h => h)
      have PB5 : NBx w5 (w.heap.size + 1) _ := k5.heap PB4 (fun h => h)
      clear k5 x5 y5
      have x4 := aq PA5 4; have y4 := aq PB5 4
      obtain ⟨s1, hs1⟩ : ∃ s1, sameAs ax bx = s1 := ⟨_, rfl⟩
      obtain ⟨s2, hs2⟩ : ∃ s2, mq ar br = s2 := ⟨_, rfl⟩
      have HSA := jd hs1; have HSR := jd hs2
      rw [hs1, hs2]
      clear hs1 hs2
      cases s1 with
      | false =>
        go_wp2_with fail
        go_ret
        exact ⟨by simp [HSA.o, HSR.o], K5.o⟩
      | true =>
        cases s2 with
        | false =>
          go_wp2_with fail
          go_ret
          exact ⟨by simp [HSA.o, HSR.o], K5.o⟩
        | true =>
          go_wp2_with fail
          first
            | (go_ret; exact ⟨by simp [HSA.o, HSR.o], K5.o⟩)
            | (refine (eqW _ F G _ _ aw bw (H2.o.kept K5.o (fun _ _ h => h)) (G2.o.kept K5.o (fun _ _ h => h))).mono ?_
               rintro x w6 ⟨rfl, k6⟩
               have K6 := jd (K5.o.trans k6 (fun _ _ h => h))
               have PA6 : NBx w6 w.heap.size _ := k6.heap PA5 (fun h => h)
               have PB6 : NBx w6 (w.heap.size + 1) _ := k6.heap PB5 (fun h => h)
               clear k6 x4 y4
               have x6 := aq PA6 6; have y6 := aq PB6 6
               obtain ⟨s3, hs3⟩ : ∃ s3, lV aw bw = s3 := ⟨_, rfl⟩
               have HSW := jd hs3
               rw [hs3]
               clear hs3
               cases s3 with
               | false =>
                 go_wp2_with fail
                 go_ret
                 exact ⟨by simp [HSA.o, HSR.o, HSW.o], K6.o⟩
               | true =>
                 go_wp2_with fail
                 refine (eqN _ F G _ _ akk bkk (n - 1) HS HSZ.o (H4.o.kept K6.o (fun _ _ h => h)) (G4.o.kept K6.o (fun _ _ h => h))).mono ?_
                 rintro x w7 ⟨rfl, k7⟩
                 have K7 := jd (K6.o.trans k7 (fun _ _ h => h))
                 clear k7
                 go_wp2_with fail
                 go_ret
                 exact ⟨by simp [HSA.o, HSR.o, HSW.o], K7.o⟩)
theorem ll {w:World} {F G:Nat→Prop} {va vb:Value} {a b:Nd} (ha:NAt w F va a) (hb:NAt w G vb b):
  Calls Tryz.prog 11 #[va,vb] w fun x w'=>x= .returned (.bool (cz a b))∧Kept (fun _=>False) w w':=Ae (szN a) w F G va vb a b (Jb _) ha hb
end Go.Proofs.YtgigdlhcjahejaaGreatDoor
