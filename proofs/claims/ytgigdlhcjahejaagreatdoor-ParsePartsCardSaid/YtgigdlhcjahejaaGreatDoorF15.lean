import Derived.Test.YtgigdlhcjahejaaGreatDoorF14
set_option linter.all false
set_option maxHeartbeats 400000000
namespace Go.Proofs.YtgigdlhcjahejaaGreatDoor
open Go Go.RowKit Go.Lw
set_option maxRecDepth 100000
attribute [local go_sem] aA
theorem Cj (w:World) (F:Nat→Prop) (s:LB) (a:Option Addr) (m c:Nat) (l:LP) (h:WAt w F (.slice a m c) l) (hs:s.length≤100000) (hl:(aC l).length≤100000000) (hE:dm w):
  Calls Tryz.prog 146 #[.agg #[.string (BA s),.slice a m c]] w fun x w'=>x= .returned (.bool (lQ (s,l)))∧Kept (fun _=>False) w w':=by
 have KA:Hid (Kept (fun _=>False) w (w.alloc (.cells #[.string (BA s),.slice a m c] 61))):=jd ((Ja _ w).alloc _)
 have PA:Hid ((w.alloc (.cells #[.string (BA s),.slice a m c] 61)).heap[w.heap.size]? =some (.cells #[.string (BA s),.slice a m c] 61 (0,0))):=jd (heap_alloc w _)
 have HN:=jd (gA (w.alloc (.cells #[.string (BA s),.slice a m c] 61)) s (by omega))
 have HM:=jd (zS _ F _ l (hE.au KA.o) (h.kept KA.o (fun _ _ h=>h)) hl)
 have hm:=h.elem.1
 have hm9:=h.max
 have hD:l.isEmpty=decide (m=0):=mQ hm
 have HD:=jd hD
 obtain⟨nb,hnb⟩:∃nb,dh s=nb:=⟨_,rfl⟩
 rw[hnb] at HN
 have HR:Hid (lQ (s,l)=(!nb|| !l.isEmpty&& !xA l)):=jd (by unfold lQ;rw[hnb])
 rw[HR.o]
 clear h hnb hm hD
 cases nb with
 |false=>
  go_enter Tryz.func146,Tryz.ntmps146
  go_wp2_with fail
  refine HN.o.mono ?_
  rintro x w2 ⟨rfl,hw⟩
  obtain rfl:=hw.symm
  go_wp2_with fail
  go_ret
  exact⟨rfl,KA.o⟩
 |true=>
  by_cases h0:m=0
  ·have b0:decide ((m:Int)>0)=false:=Jd (by omega)
   have b1:decide (0<m)=false:=Jd (by omega)
   have HE0:Hid (l.isEmpty=true):=jd (by rw[HD.o];exact Jc h0)
   clear h0
   go_enter Tryz.func146,Tryz.ntmps146
   go_wp2_with fail
   refine HN.o.mono ?_
   rintro x w2 ⟨rfl,hw⟩
   obtain rfl:=hw.symm
   have e1:=aB PA.o 1
   go_wp2_with fail
   go_ret
   exact⟨by rw[HE0.o];rfl,KA.o⟩
  ·have b0:decide ((m:Int)>0)=true:=Jc (by omega)
   have b1:decide (0<m)=true:=Jc (by omega)
   have HE0:Hid (l.isEmpty=false):=jd (by rw[HD.o];exact Jd h0)
   clear h0
   go_enter Tryz.func146,Tryz.ntmps146
   go_wp2_with fail
   refine HN.o.mono ?_
   rintro x w2 ⟨rfl,hw⟩
   obtain rfl:=hw.symm
   have e1:=aB PA.o 1
   go_wp2_with fail
   refine HM.o.mono ?_
   rintro x w4 ⟨rfl,k4⟩
   have K4:=jd (KA.o.trans k4 (fun _ _ h=>h))
   clear k4
   go_wp2_with fail
   go_ret
   exact⟨by rw[HE0.o];simp,K4.o⟩
theorem E8 (w:World) (F:Nat→Prop) (v:Value) (l:List (LB×LP)) (h:qH w F v l) (htx:∀x∈l,x.1.length≤100000∧(aC x.2).length≤100000000) (hE:dm w):
  Calls Tryz.prog 156 #[v,.func (.func 146) #[] #[]] w fun x w'=>(∃i:Int,x= .returned (.int .i64 i)∧(decide (i≥0)=l.any lQ)∧i≤9223372036854775807∧-1≤i)∧Kept (fun _=>False) w w':=by
 obtain⟨a,m,c,rfl⟩:=h.any
 have hm:=h.len
 have hm9:=h.max
 rw[←hm] at hm9
 have HV:=jd h;have HM:=jd hm
 obtain⟨R0,hR0⟩:∃R0,l.any lQ=R0:=⟨_,rfl⟩
 have HR0:=jd hR0
 rw[hR0]
 clear h hm hR0
 go_enter Tryz.func156,Tryz.ntmps156
 go_wp2_with fail
 go_loopg [8] m (fun gk s8 wx=>∃k:Nat,gk=m -k∧k≤m∧s8= .int .i64 (k:Int)∧(l.drop k).any lQ=R0∧Kept (fun _=>False) w wx)
 case atStart=>exact⟨0,rfl,Ju _,rfl,HR0.o,Ja _ _⟩
 case round=>
  obtain⟨k,rfl,hk,rfl,hr,hkk⟩:=hrel
  have HR:=jd hr;have HKK:=jd hkk
  clear hr hkk
  by_cases hlt:k<m
  ·obtain⟨p,hp⟩:∃p,l[k]? =some p:=⟨_,Je (by rw[←HM.o];exact hlt)⟩
   have hd:l.drop k=p::l.drop (k+1):=by
    have h2:k<l.length:=by rw[←HM.o];exact hlt
    rw[Je h2] at hp
    rw[List.drop_eq_getElem_cons h2,Jw hp]
   have hpm:p∈l:=List.mem_of_getElem? hp
   have hdl:decide (k<m)=true:=Jc hlt
   obtain⟨b1,o1,oa,on,oc,e1,hao,p0,hcc⟩:=bT.elem (size:=2) (fun _=>rfl) (by decide) (HV.o.kept HKK.o (fun _ _ h=>h)) hp
   have p1:=hcc 1 (by decide)
   replace p0:wr.cell? ⟨b1,o1+k*2,none⟩=some (.string (BA p.1)):=p0
   replace p1:wr.cell? ⟨b1,o1+k*2+1,none⟩=some (.slice oa on oc):=p1
   clear hcc
   subst e1
   have HR2:Hid ((lQ p||(l.drop (k+1)).any lQ)=R0):=jd (by rw[←HR.o,hd,List.any_cons])
   have HC:=jd (Cj wr F p.1 oa on oc p.2 hao (htx p hpm).1 (htx p hpm).2 (hE.au HKK.o))
   obtain⟨sp,hsp⟩:∃sp,lQ p=sp:=⟨_,rfl⟩
   clear hp hd hpm hao
   rw[hsp] at HR2
   have HC2:Hid (Calls Tryz.prog 146 #[.agg #[.string (BA p.1),.slice oa on oc]] wr fun x w'=>x= .returned (.bool sp)∧Kept (fun _=>False) wr w'):=jd (by rw[←hsp];exact HC.o)
   clear hsp HC
   cases sp with
   |true=>
    have HF:Hid (R0=true):=jd (by rw[←HR2.o,Bool.true_or])
    go_wp2_with fail
    refine HC2.o.mono ?_
    rintro x w4 ⟨rfl,k4⟩
    have K4:=jd (HKK.o.trans k4 (fun _ _ h=>h))
    clear k4
    go_wp2_with fail
    go_ret
    exact⟨⟨k,rfl,by rw[HF.o];exact Jc (by omega),by omega,by omega⟩,K4.o⟩
   |false=>
    have HF:Hid ((l.drop (k+1)).any lQ=R0):=jd (by rw[←HR2.o,Bool.false_or])
    go_wp2_with fail
    refine HC2.o.mono ?_
    rintro x w4 ⟨rfl,k4⟩
    have K4:=jd (HKK.o.trans k4 (fun _ _ h=>h))
    clear k4
    go_wp2_with fail
    go_roundg (m -(k+1))
    case measure=>omega
    case rel=>exact⟨k+1,rfl,hlt,by go_num,HF.o,K4.o⟩
  ·have hke:m≤k:=by omega
   have hdl:decide (k<m)=false:=Jd hlt
   have HF:Hid (R0=false):=jd (by rw[←HR.o,List.drop_eq_nil_of_le (by rw[←HM.o];exact hke)];rfl)
   go_wp2_with fail
   go_ret
   exact⟨⟨-1,rfl,by rw[HF.o];rfl,by decide,by decide⟩,HKK.o⟩
theorem Et (w:World) (F:Nat→Prop) (v:Value) (l:List (LB×LP)) (h:qH w F v l) (htx:∀x∈l,x.1.length≤100000∧(aC x.2).length≤100000000) (hE:dm w):
  Calls Tryz.prog 147 #[v,.func (.func 146) #[] #[]] w fun x w'=>x= .returned (.bool (l.any lQ))∧Kept (fun _=>False) w w':=by
 have HC:=jd (E8 w F v l h htx hE)
 obtain⟨a,m,c,rfl⟩:=h.any
 obtain⟨R0,hR0⟩:∃R0,l.any lQ=R0:=⟨_,rfl⟩
 rw[hR0] at HC⊢
 clear h hR0
 go_enter Tryz.func147,Tryz.ntmps147
 go_wp2_with fail
 refine HC.o.mono ?_
 rintro x w2 ⟨⟨i,rfl,hi,hi1,hi2⟩,k2⟩
 have K2:=jd k2
 clear k2
 go_wp2_with fail
 go_ret
 first|exact⟨rfl,K2.o⟩|exact⟨by rw[hi],K2.o⟩
theorem Ei (w:World) (F:Nat→Prop) (v:Value) (l:List LP) (h:mI w F v l) (htx:∀x∈l,(aC x).length≤100000000) (hE:dm w):
  Calls Tryz.prog 165 #[v,.func (.func 158) #[] #[]] w fun x w'=>(∃i:Int,x= .returned (.int .i64 i)∧(decide (i≥0)=l.any (fun x=> !fP x))∧i≤9223372036854775807∧-1≤i)∧Kept (fun _=>False) w w':=by
 obtain⟨a,m,c,rfl⟩:=h.any
 have hm:=h.len
 have hm9:=h.max
 rw[←hm] at hm9
 have HV:=jd h;have HM:=jd hm
 obtain⟨R0,hR0⟩:∃R0,l.any (fun x=> !fP x)=R0:=⟨_,rfl⟩
 have HR0:=jd hR0
 rw[hR0]
 clear h hm hR0
 go_enter Tryz.func165,Tryz.ntmps165
 go_wp2_with fail
 go_loopg [8] m (fun gk s8 wx=>∃k:Nat,gk=m -k∧k≤m∧s8= .int .i64 (k:Int)∧(l.drop k).any (fun x=> !fP x)=R0∧Kept (fun _=>False) w wx)
 case atStart=>exact⟨0,rfl,Ju _,rfl,HR0.o,Ja _ _⟩
 case round=>
  obtain⟨k,rfl,hk,rfl,hr,hkk⟩:=hrel
  have HR:=jd hr;have HKK:=jd hkk
  clear hr hkk
  by_cases hlt:k<m
  ·obtain⟨p,hp⟩:∃p,l[k]? =some p:=⟨_,Je (by rw[←HM.o];exact hlt)⟩
   have hd:l.drop k=p::l.drop (k+1):=by
    have h2:k<l.length:=by rw[←HM.o];exact hlt
    rw[Je h2] at hp
    rw[List.drop_eq_getElem_cons h2,Jw hp]
   have hpm:p∈l:=List.mem_of_getElem? hp
   have hdl:decide (k<m)=true:=Jc hlt
   obtain⟨b1,o1,oa,on,oc,e1,hao,p0,_⟩:=bT.elem (size:=1) (fun _=>rfl) (by decide) (HV.o.kept HKK.o (fun _ _ h=>h)) hp
   replace p0:wr.cell? ⟨b1,o1+k,none⟩=some (.slice oa on oc):=by rw[Nat.mul_one] at p0;exact p0
   subst e1
   have HR2:Hid (((fun x=> !fP x) p||(l.drop (k+1)).any (fun x=> !fP x))=R0):=jd (by rw[←HR.o,hd,List.any_cons])
   have HC:=jd (Dv wr F _ p hao (htx p hpm) (hE.au HKK.o))
   obtain⟨sp,hsp⟩:∃sp,(fun x=> !fP x) p=sp:=⟨_,rfl⟩
   clear hp hd hpm hao
   rw[hsp] at HR2
   have HC2:Hid (Calls Tryz.prog 158 #[.slice oa on oc] wr fun x w'=>x= .returned (.bool sp)∧Kept (fun _=>False) wr w'):=jd (by rw[←hsp];exact HC.o)
   clear hsp HC
   cases sp with
   |true=>
    have HF:Hid (R0=true):=jd (by rw[←HR2.o,Bool.true_or])
    go_wp2_with fail
    refine HC2.o.mono ?_
    rintro x w4 ⟨rfl,k4⟩
    have K4:=jd (HKK.o.trans k4 (fun _ _ h=>h))
    clear k4
    go_wp2_with fail
    go_ret
    exact⟨⟨k,rfl,by rw[HF.o];exact Jc (by omega),by omega,by omega⟩,K4.o⟩
   |false=>
    have HF:Hid ((l.drop (k+1)).any (fun x=> !fP x)=R0):=jd (by rw[←HR2.o,Bool.false_or])
    go_wp2_with fail
    refine HC2.o.mono ?_
    rintro x w4 ⟨rfl,k4⟩
    have K4:=jd (HKK.o.trans k4 (fun _ _ h=>h))
    clear k4
    go_wp2_with fail
    go_roundg (m -(k+1))
    case measure=>omega
    case rel=>exact⟨k+1,rfl,hlt,by go_num,HF.o,K4.o⟩
  ·have hke:m≤k:=by omega
   have hdl:decide (k<m)=false:=Jd hlt
   have HF:Hid (R0=false):=jd (by rw[←HR.o,List.drop_eq_nil_of_le (by rw[←HM.o];exact hke)];rfl)
   go_wp2_with fail
   go_ret
   exact⟨⟨-1,rfl,by rw[HF.o];rfl,by decide,by decide⟩,HKK.o⟩
theorem EH (w:World) (F:Nat→Prop) (v:Value) (l:List LP) (h:mI w F v l) (htx:∀x∈l,(aC x).length≤100000000) (hE:dm w):
  Calls Tryz.prog 157 #[v,.func (.func 158) #[] #[]] w fun x w'=>x= .returned (.bool (l.any (fun x=> !fP x)))∧Kept (fun _=>False) w w':=by
 have HC:=jd (Ei w F v l h htx hE)
 obtain⟨a,m,c,rfl⟩:=h.any
 obtain⟨R0,hR0⟩:∃R0,l.any (fun x=> !fP x)=R0:=⟨_,rfl⟩
 rw[hR0] at HC⊢
 clear h hR0
 go_enter Tryz.func157,Tryz.ntmps157
 go_wp2_with fail
 refine HC.o.mono ?_
 rintro x w2 ⟨⟨i,rfl,hi,hi1,hi2⟩,k2⟩
 have K2:=jd k2
 clear k2
 go_wp2_with fail
 go_ret
 first|exact⟨rfl,K2.o⟩|exact⟨by rw[hi],K2.o⟩
theorem Eg (w:World) (F:Nat→Prop) (v:Value) (l:List (Int×LP)) (h:se w F v l) (htx:∀x∈l,(aC x.2).length≤100000000) (hE:dm w):
  Calls Tryz.prog 166 #[v,.func (.func 160) #[] #[]] w fun x w'=>(∃i:Int,x= .returned (.int .i64 i)∧(decide (i≥0)=l.any (fun r=> !(decide (7≤r.1)&&decide (r.1≤11)&&fP r.2)))∧i≤9223372036854775807∧-1≤i)∧Kept (fun _=>False) w w':=by
 obtain⟨a,m,c,rfl⟩:=h.any
 have hm:=h.len
 have hm9:=h.max
 rw[←hm] at hm9
 have HV:=jd h;have HM:=jd hm
 obtain⟨R0,hR0⟩:∃R0,l.any (fun r=> !(decide (7≤r.1)&&decide (r.1≤11)&&fP r.2))=R0:=⟨_,rfl⟩
 have HR0:=jd hR0
 rw[hR0]
 clear h hm hR0
 go_enter Tryz.func166,Tryz.ntmps166
 go_wp2_with fail
 go_loopg [8] m (fun gk s8 wx=>∃k:Nat,gk=m -k∧k≤m∧s8= .int .i64 (k:Int)∧(l.drop k).any (fun r=> !(decide (7≤r.1)&&decide (r.1≤11)&&fP r.2))=R0∧Kept (fun _=>False) w wx)
 case atStart=>exact⟨0,rfl,Ju _,rfl,HR0.o,Ja _ _⟩
 case round=>
  obtain⟨k,rfl,hk,rfl,hr,hkk⟩:=hrel
  have HR:=jd hr;have HKK:=jd hkk
  clear hr hkk
  by_cases hlt:k<m
  ·obtain⟨p,hp⟩:∃p,l[k]? =some p:=⟨_,Je (by rw[←HM.o];exact hlt)⟩
   have hd:l.drop k=p::l.drop (k+1):=by
    have h2:k<l.length:=by rw[←HM.o];exact hlt
    rw[Je h2] at hp
    rw[List.drop_eq_getElem_cons h2,Jw hp]
   have hpm:p∈l:=List.mem_of_getElem? hp
   have hdl:decide (k<m)=true:=Jc hlt
   obtain⟨b1,o1,oa,on,oc,e1,hao,p0,hcc⟩:=bT.elem (size:=2) (fun _=>rfl) (by decide) (HV.o.kept HKK.o (fun _ _ h=>h)) hp
   have p1:=hcc 1 (by decide)
   replace p0:wr.cell? ⟨b1,o1+k*2,none⟩=some (.int .i64 p.1):=p0
   replace p1:wr.cell? ⟨b1,o1+k*2+1,none⟩=some (.slice oa on oc):=p1
   clear hcc
   subst e1
   have HR2:Hid (((fun r=> !(decide (7≤r.1)&&decide (r.1≤11)&&fP r.2)) p||(l.drop (k+1)).any (fun r=> !(decide (7≤r.1)&&decide (r.1≤11)&&fP r.2)))=R0):=jd (by rw[←HR.o,hd,List.any_cons])
   have HC:=jd (DT wr F p.1 oa on oc p.2 hao (htx p hpm) (hE.au HKK.o))
   obtain⟨sp,hsp⟩:∃sp,(fun r=> !(decide (7≤r.1)&&decide (r.1≤11)&&fP r.2)) p=sp:=⟨_,rfl⟩
   clear hp hd hpm hao
   rw[hsp] at HR2
   have HC2:Hid (Calls Tryz.prog 160 #[.agg #[.int .i64 p.1,.slice oa on oc]] wr fun x w'=>x= .returned (.bool sp)∧Kept (fun _=>False) wr w'):=jd (by rw[←hsp];exact HC.o)
   clear hsp HC
   cases sp with
   |true=>
    have HF:Hid (R0=true):=jd (by rw[←HR2.o,Bool.true_or])
    go_wp2_with fail
    refine HC2.o.mono ?_
    rintro x w4 ⟨rfl,k4⟩
    have K4:=jd (HKK.o.trans k4 (fun _ _ h=>h))
    clear k4
    go_wp2_with fail
    go_ret
    exact⟨⟨k,rfl,by rw[HF.o];exact Jc (by omega),by omega,by omega⟩,K4.o⟩
   |false=>
    have HF:Hid ((l.drop (k+1)).any (fun r=> !(decide (7≤r.1)&&decide (r.1≤11)&&fP r.2))=R0):=jd (by rw[←HR2.o,Bool.false_or])
    go_wp2_with fail
    refine HC2.o.mono ?_
    rintro x w4 ⟨rfl,k4⟩
    have K4:=jd (HKK.o.trans k4 (fun _ _ h=>h))
    clear k4
    go_wp2_with fail
    go_roundg (m -(k+1))
    case measure=>omega
    case rel=>exact⟨k+1,rfl,hlt,by go_num,HF.o,K4.o⟩
  ·have hke:m≤k:=by omega
   have hdl:decide (k<m)=false:=Jd hlt
   have HF:Hid (R0=false):=jd (by rw[←HR.o,List.drop_eq_nil_of_le (by rw[←HM.o];exact hke)];rfl)
   go_wp2_with fail
   go_ret
   exact⟨⟨-1,rfl,by rw[HF.o];rfl,by decide,by decide⟩,HKK.o⟩
theorem EP (w:World) (F:Nat→Prop) (v:Value) (l:List (Int×LP)) (h:se w F v l) (htx:∀x∈l,(aC x.2).length≤100000000) (hE:dm w):
  Calls Tryz.prog 161 #[v,.func (.func 160) #[] #[]] w fun x w'=>x= .returned (.bool (l.any (fun r=> !(decide (7≤r.1)&&decide (r.1≤11)&&fP r.2))))∧Kept (fun _=>False) w w':=by
 have HC:=jd (Eg w F v l h htx hE)
 obtain⟨a,m,c,rfl⟩:=h.any
 obtain⟨R0,hR0⟩:∃R0,l.any (fun r=> !(decide (7≤r.1)&&decide (r.1≤11)&&fP r.2))=R0:=⟨_,rfl⟩
 rw[hR0] at HC⊢
 clear h hR0
 go_enter Tryz.func161,Tryz.ntmps161
 go_wp2_with fail
 refine HC.o.mono ?_
 rintro x w2 ⟨⟨i,rfl,hi,hi1,hi2⟩,k2⟩
 have K2:=jd k2
 clear k2
 go_wp2_with fail
 go_ret
 first|exact⟨rfl,K2.o⟩|exact⟨by rw[hi],K2.o⟩
theorem BZ (w:World) (F:Nat→Prop) (v:Value) (l:List (Nd)) (h:bJ w F v l):
  Calls Tryz.prog 162 #[v,.func (.func 151) #[] #[]] w fun x w'=>(∃i:Int,x= .returned (.int .i64 i)∧(decide (i≥0)=l.any (fun m=> !dD m.kind))∧i≤9223372036854775807∧-1≤i)∧Kept (fun _=>False) w w':=by
 obtain⟨a,m,c,rfl⟩:=h.any
 have hm:=h.len
 have hm9:=h.max
 rw[←hm] at hm9
 have HV:=jd h;have HM:=jd hm
 obtain⟨R0,hR0⟩:∃R0,l.any (fun m=> !dD m.kind)=R0:=⟨_,rfl⟩
 have HR0:=jd hR0
 rw[hR0]
 clear h hm hR0
 go_enter Tryz.func162,Tryz.ntmps162
 go_wp2_with fail
 go_loopg [8] m (fun gk s8 wx=>∃k:Nat,gk=m -k∧k≤m∧s8= .int .i64 (k:Int)∧(l.drop k).any (fun m=> !dD m.kind)=R0∧Kept (fun _=>False) w wx)
 case atStart=>exact⟨0,rfl,Ju _,rfl,HR0.o,Ja _ _⟩
 case round=>
  obtain⟨k,rfl,hk,rfl,hr,hkk⟩:=hrel
  have HR:=jd hr;have HKK:=jd hkk
  clear hr hkk
  by_cases hlt:k<m
  ·obtain⟨p,hp⟩:∃p,l[k]? =some p:=⟨_,Je (by rw[←HM.o];exact hlt)⟩
   have hd:l.drop k=p::l.drop (k+1):=by
    have h2:k<l.length:=by rw[←HM.o];exact hlt
    rw[Je h2] at hp
    rw[List.drop_eq_getElem_cons h2,Jw hp]
   have hpm:p∈l:=List.mem_of_getElem? hp
   have hdl:decide (k<m)=true:=Jc hlt
   obtain⟨b1,o1,ya,yan,yac,yw,ywn,ywc,yr,yrn,yrc,yk,ykn,ykc,e1,p0,p1,p2,p3,p4,p5,p6,hao⟩:=bJ.elem (HV.o.kept HKK.o (fun _ _ h=>h)) hp
   subst e1
   have HR2:Hid (((fun m=> !dD m.kind) p||(l.drop (k+1)).any (fun m=> !dD m.kind))=R0):=jd (by rw[←HR.o,hd,List.any_cons])
   have HC:=jd (Bu wr F _ p hao)
   obtain⟨sp,hsp⟩:∃sp,(fun m=> !dD m.kind) p=sp:=⟨_,rfl⟩
   clear hp hd hpm hao
   rw[hsp] at HR2
   have HC2:Hid (Calls Tryz.prog 151 #[nv p (.slice ya yan yac) (.slice yw ywn ywc) (.slice yr yrn yrc) (.slice yk ykn ykc)] wr fun x w'=>x= .returned (.bool sp)∧Kept (fun _=>False) wr w'):=jd (by rw[←hsp];exact HC.o)
   clear hsp HC
   cases sp with
   |true=>
    have HF:Hid (R0=true):=jd (by rw[←HR2.o,Bool.true_or])
    go_wp2_with fail
    refine HC2.o.mono ?_
    rintro x w4 ⟨rfl,k4⟩
    have K4:=jd (HKK.o.trans k4 (fun _ _ h=>h))
    clear k4
    go_wp2_with fail
    go_ret
    exact⟨⟨k,rfl,by rw[HF.o];exact Jc (by omega),by omega,by omega⟩,K4.o⟩
   |false=>
    have HF:Hid ((l.drop (k+1)).any (fun m=> !dD m.kind)=R0):=jd (by rw[←HR2.o,Bool.false_or])
    go_wp2_with fail
    refine HC2.o.mono ?_
    rintro x w4 ⟨rfl,k4⟩
    have K4:=jd (HKK.o.trans k4 (fun _ _ h=>h))
    clear k4
    go_wp2_with fail
    go_roundg (m -(k+1))
    case measure=>omega
    case rel=>exact⟨k+1,rfl,hlt,by go_num,HF.o,K4.o⟩
  ·have hke:m≤k:=by omega
   have hdl:decide (k<m)=false:=Jd hlt
   have HF:Hid (R0=false):=jd (by rw[←HR.o,List.drop_eq_nil_of_le (by rw[←HM.o];exact hke)];rfl)
   go_wp2_with fail
   go_ret
   exact⟨⟨-1,rfl,by rw[HF.o];rfl,by decide,by decide⟩,HKK.o⟩
theorem si (w:World) (F:Nat→Prop) (v:Value) (l:List (Nd)) (h:bJ w F v l):
  Calls Tryz.prog 153 #[v,.func (.func 151) #[] #[]] w fun x w'=>x= .returned (.bool (l.any (fun m=> !dD m.kind)))∧Kept (fun _=>False) w w':=by
 have HC:=jd (BZ w F v l h)
 obtain⟨a,m,c,rfl⟩:=h.any
 obtain⟨R0,hR0⟩:∃R0,l.any (fun m=> !dD m.kind)=R0:=⟨_,rfl⟩
 rw[hR0] at HC⊢
 clear h hR0
 go_enter Tryz.func153,Tryz.ntmps153
 go_wp2_with fail
 refine HC.o.mono ?_
 rintro x w2 ⟨⟨i,rfl,hi,hi1,hi2⟩,k2⟩
 have K2:=jd k2
 clear k2
 go_wp2_with fail
 go_ret
 first|exact⟨rfl,K2.o⟩|exact⟨by rw[hi],K2.o⟩
theorem BH (w:World) (F:Nat→Prop) (v:Value) (l:List (Nd)) (h:bJ w F v l):
  Calls Tryz.prog 162 #[v,.func (.func 154) #[] #[]] w fun x w'=>(∃i:Int,x= .returned (.int .i64 i)∧(decide (i≥0)=l.any (fun m=>m.kind==5))∧i≤9223372036854775807∧-1≤i)∧Kept (fun _=>False) w w':=by
 obtain⟨a,m,c,rfl⟩:=h.any
 have hm:=h.len
 have hm9:=h.max
 rw[←hm] at hm9
 have HV:=jd h;have HM:=jd hm
 obtain⟨R0,hR0⟩:∃R0,l.any (fun m=>m.kind==5)=R0:=⟨_,rfl⟩
 have HR0:=jd hR0
 rw[hR0]
 clear h hm hR0
 go_enter Tryz.func162,Tryz.ntmps162
 go_wp2_with fail
 go_loopg [8] m (fun gk s8 wx=>∃k:Nat,gk=m -k∧k≤m∧s8= .int .i64 (k:Int)∧(l.drop k).any (fun m=>m.kind==5)=R0∧Kept (fun _=>False) w wx)
 case atStart=>exact⟨0,rfl,Ju _,rfl,HR0.o,Ja _ _⟩
 case round=>
  obtain⟨k,rfl,hk,rfl,hr,hkk⟩:=hrel
  have HR:=jd hr;have HKK:=jd hkk
  clear hr hkk
  by_cases hlt:k<m
  ·obtain⟨p,hp⟩:∃p,l[k]? =some p:=⟨_,Je (by rw[←HM.o];exact hlt)⟩
   have hd:l.drop k=p::l.drop (k+1):=by
    have h2:k<l.length:=by rw[←HM.o];exact hlt
    rw[Je h2] at hp
    rw[List.drop_eq_getElem_cons h2,Jw hp]
   have hpm:p∈l:=List.mem_of_getElem? hp
   have hdl:decide (k<m)=true:=Jc hlt
   obtain⟨b1,o1,ya,yan,yac,yw,ywn,ywc,yr,yrn,yrc,yk,ykn,ykc,e1,p0,p1,p2,p3,p4,p5,p6,hao⟩:=bJ.elem (HV.o.kept HKK.o (fun _ _ h=>h)) hp
   subst e1
   have HR2:Hid (((fun m=>m.kind==5) p||(l.drop (k+1)).any (fun m=>m.kind==5))=R0):=jd (by rw[←HR.o,hd,List.any_cons])
   have HC:=jd (BI wr F _ p hao)
   obtain⟨sp,hsp⟩:∃sp,(fun m=>m.kind==5) p=sp:=⟨_,rfl⟩
   clear hp hd hpm hao
   rw[hsp] at HR2
   have HC2:Hid (Calls Tryz.prog 154 #[nv p (.slice ya yan yac) (.slice yw ywn ywc) (.slice yr yrn yrc) (.slice yk ykn ykc)] wr fun x w'=>x= .returned (.bool sp)∧Kept (fun _=>False) wr w'):=jd (by rw[←hsp];exact HC.o)
   clear hsp HC
   cases sp with
   |true=>
    have HF:Hid (R0=true):=jd (by rw[←HR2.o,Bool.true_or])
    go_wp2_with fail
    refine HC2.o.mono ?_
    rintro x w4 ⟨rfl,k4⟩
    have K4:=jd (HKK.o.trans k4 (fun _ _ h=>h))
    clear k4
    go_wp2_with fail
    go_ret
    exact⟨⟨k,rfl,by rw[HF.o];exact Jc (by omega),by omega,by omega⟩,K4.o⟩
   |false=>
    have HF:Hid ((l.drop (k+1)).any (fun m=>m.kind==5)=R0):=jd (by rw[←HR2.o,Bool.false_or])
    go_wp2_with fail
    refine HC2.o.mono ?_
    rintro x w4 ⟨rfl,k4⟩
    have K4:=jd (HKK.o.trans k4 (fun _ _ h=>h))
    clear k4
    go_wp2_with fail
    go_roundg (m -(k+1))
    case measure=>omega
    case rel=>exact⟨k+1,rfl,hlt,by go_num,HF.o,K4.o⟩
  ·have hke:m≤k:=by omega
   have hdl:decide (k<m)=false:=Jd hlt
   have HF:Hid (R0=false):=jd (by rw[←HR.o,List.drop_eq_nil_of_le (by rw[←HM.o];exact hke)];rfl)
   go_wp2_with fail
   go_ret
   exact⟨⟨-1,rfl,by rw[HF.o];rfl,by decide,by decide⟩,HKK.o⟩
theorem BP (w:World) (F:Nat→Prop) (v:Value) (l:List (Nd)) (h:bJ w F v l):
  Calls Tryz.prog 153 #[v,.func (.func 154) #[] #[]] w fun x w'=>x= .returned (.bool (l.any (fun m=>m.kind==5)))∧Kept (fun _=>False) w w':=by
 have HC:=jd (BH w F v l h)
 obtain⟨a,m,c,rfl⟩:=h.any
 obtain⟨R0,hR0⟩:∃R0,l.any (fun m=>m.kind==5)=R0:=⟨_,rfl⟩
 rw[hR0] at HC⊢
 clear h hR0
 go_enter Tryz.func153,Tryz.ntmps153
 go_wp2_with fail
 refine HC.o.mono ?_
 rintro x w2 ⟨⟨i,rfl,hi,hi1,hi2⟩,k2⟩
 have K2:=jd k2
 clear k2
 go_wp2_with fail
 go_ret
 first|exact⟨rfl,K2.o⟩|exact⟨by rw[hi],K2.o⟩
theorem vl (w:World) (F:Nat→Prop) (v:Value) (l:List (Nd)) (h:bJ w F v l):
  Calls Tryz.prog 162 #[v,.func (.func 163) #[] #[]] w fun x w'=>(∃i:Int,x= .returned (.int .i64 i)∧(decide (i≥0)=l.any (fun m=> !cj m))∧i≤9223372036854775807∧-1≤i)∧Kept (fun _=>False) w w':=by
 obtain⟨a,m,c,rfl⟩:=h.any
 have hm:=h.len
 have hm9:=h.max
 rw[←hm] at hm9
 have HV:=jd h;have HM:=jd hm
 obtain⟨R0,hR0⟩:∃R0,l.any (fun m=> !cj m)=R0:=⟨_,rfl⟩
 have HR0:=jd hR0
 rw[hR0]
 clear h hm hR0
 go_enter Tryz.func162,Tryz.ntmps162
 go_wp2_with fail
 go_loopg [8] m (fun gk s8 wx=>∃k:Nat,gk=m -k∧k≤m∧s8= .int .i64 (k:Int)∧(l.drop k).any (fun m=> !cj m)=R0∧Kept (fun _=>False) w wx)
 case atStart=>exact⟨0,rfl,Ju _,rfl,HR0.o,Ja _ _⟩
 case round=>
  obtain⟨k,rfl,hk,rfl,hr,hkk⟩:=hrel
  have HR:=jd hr;have HKK:=jd hkk
  clear hr hkk
  by_cases hlt:k<m
  ·obtain⟨p,hp⟩:∃p,l[k]? =some p:=⟨_,Je (by rw[←HM.o];exact hlt)⟩
   have hd:l.drop k=p::l.drop (k+1):=by
    have h2:k<l.length:=by rw[←HM.o];exact hlt
    rw[Je h2] at hp
    rw[List.drop_eq_getElem_cons h2,Jw hp]
   have hpm:p∈l:=List.mem_of_getElem? hp
   have hdl:decide (k<m)=true:=Jc hlt
   obtain⟨b1,o1,ya,yan,yac,yw,ywn,ywc,yr,yrn,yrc,yk,ykn,ykc,e1,p0,p1,p2,p3,p4,p5,p6,hao⟩:=bJ.elem (HV.o.kept HKK.o (fun _ _ h=>h)) hp
   subst e1
   have HR2:Hid (((fun m=> !cj m) p||(l.drop (k+1)).any (fun m=> !cj m))=R0):=jd (by rw[←HR.o,hd,List.any_cons])
   have HC:=jd (wm wr F _ p hao)
   obtain⟨sp,hsp⟩:∃sp,(fun m=> !cj m) p=sp:=⟨_,rfl⟩
   clear hp hd hpm hao
   rw[hsp] at HR2
   have HC2:Hid (Calls Tryz.prog 163 #[nv p (.slice ya yan yac) (.slice yw ywn ywc) (.slice yr yrn yrc) (.slice yk ykn ykc)] wr fun x w'=>x= .returned (.bool sp)∧Kept (fun _=>False) wr w'):=jd (by rw[←hsp];exact HC.o)
   clear hsp HC
   cases sp with
   |true=>
    have HF:Hid (R0=true):=jd (by rw[←HR2.o,Bool.true_or])
    go_wp2_with fail
    refine HC2.o.mono ?_
    rintro x w4 ⟨rfl,k4⟩
    have K4:=jd (HKK.o.trans k4 (fun _ _ h=>h))
    clear k4
    go_wp2_with fail
    go_ret
    exact⟨⟨k,rfl,by rw[HF.o];exact Jc (by omega),by omega,by omega⟩,K4.o⟩
   |false=>
    have HF:Hid ((l.drop (k+1)).any (fun m=> !cj m)=R0):=jd (by rw[←HR2.o,Bool.false_or])
    go_wp2_with fail
    refine HC2.o.mono ?_
    rintro x w4 ⟨rfl,k4⟩
    have K4:=jd (HKK.o.trans k4 (fun _ _ h=>h))
    clear k4
    go_wp2_with fail
    go_roundg (m -(k+1))
    case measure=>omega
    case rel=>exact⟨k+1,rfl,hlt,by go_num,HF.o,K4.o⟩
  ·have hke:m≤k:=by omega
   have hdl:decide (k<m)=false:=Jd hlt
   have HF:Hid (R0=false):=jd (by rw[←HR.o,List.drop_eq_nil_of_le (by rw[←HM.o];exact hke)];rfl)
   go_wp2_with fail
   go_ret
   exact⟨⟨-1,rfl,by rw[HF.o];rfl,by decide,by decide⟩,HKK.o⟩
theorem xf (w:World) (F:Nat→Prop) (v:Value) (l:List (Nd)) (h:bJ w F v l):
  Calls Tryz.prog 153 #[v,.func (.func 163) #[] #[]] w fun x w'=>x= .returned (.bool (l.any (fun m=> !cj m)))∧Kept (fun _=>False) w w':=by
 have HC:=jd (vl w F v l h)
 obtain⟨a,m,c,rfl⟩:=h.any
 obtain⟨R0,hR0⟩:∃R0,l.any (fun m=> !cj m)=R0:=⟨_,rfl⟩
 rw[hR0] at HC⊢
 clear h hR0
 go_enter Tryz.func153,Tryz.ntmps153
 go_wp2_with fail
 refine HC.o.mono ?_
 rintro x w2 ⟨⟨i,rfl,hi,hi1,hi2⟩,k2⟩
 have K2:=jd k2
 clear k2
 go_wp2_with fail
 go_ret
 first|exact⟨rfl,K2.o⟩|exact⟨by rw[hi],K2.o⟩
