/- Of the proof of ParseBreaks: NodeU. -/
import Derived.Test.YtgigdlhcjahejaaGreatDoorD17
namespace Go.Proofs.YtgigdlhcjahejaaGreatDoor
open Go Go.RowKit Go.Lw
set_option maxRecDepth 100000
set_option linter.unusedVariables false
set_option linter.unusedSimpArgs false
attribute [local go_sem] av
theorem xy (w:World) (F:Nat→Prop) (v:Value) (l:List (List Prt)) (h:kJ w F v l) (htx:∀x∈l,(aA x).length≤100000000) (hE:cV w):
  Calls Tryz.prog 148 #[v] w fun x w'=>x= .returned (.bool (nK l))∧Kept (fun _=>False) w w':=by
 have HC:=jd (Cs w F v l h htx hE)
 obtain⟨a,m,c,rfl⟩:=h.any
 have hm:=h.len
 have hm9:=h.max
 rw[←hm] at hm9
 by_cases h1:m≤256
 ·have f1:decide ((m:Int)≤256)=true:=decide_eq_true (by omega)
  have f2:decide (m≤256)=true:=decide_eq_true (by omega)
  have HR:Hid (nK l= !l.any (fun x=> !fg x)):=jd (by unfold nK;rw[decide_eq_true (by omega:l.length≤256),Bool.true_and])
  rw[HR.o]
  clear h hm h1
  go_enter Tryz.func148,Tryz.ntmps148
  go_wp2_with fail
  refine HC.o.mono ?_
  rintro x w4 ⟨rfl,k4⟩
  have K4:=jd k4
  clear k4
  go_wp2_with fail
  go_ret
  exact⟨rfl,K4.o⟩
 ·have f1:decide ((m:Int)≤256)=false:=decide_eq_false (by omega)
  have f2:decide (m≤256)=false:=decide_eq_false (by omega)
  have HR:Hid (nK l=false):=jd (by unfold nK;rw[decide_eq_false (by omega:¬l.length≤256),Bool.false_and])
  rw[HR.o]
  clear h hm h1
  go_enter Tryz.func148,Tryz.ntmps148
  go_wp2_with fail
  go_ret
  exact⟨rfl,Kept.refl _ _⟩
set_option maxHeartbeats 8000000 in
theorem oW (w:World) (F:Nat→Prop) (v:Value) (n:Nd) (h:NAt w F v n) (ok:OkM n) (hE:bN w):
  Calls Tryz.prog 149 #[v] w fun x w'=>x= .returned (.bool (kl n.rs))∧Kept (fun _=>False) w w':=by
 obtain⟨kk,nb,nm,al,ws,rs,ks,xa,xan,xac,xw,xwn,xwc,xr,xrn,xrc,xk,xkn,xkc,rfl,rfl,HN0,⟨H1,H2,H3,H4⟩,⟨HE1,HE2,HE3,HE4⟩,⟨HD1,HD2,HD3,HD4⟩,⟨q1,q2,q3,q4⟩,KA,PA⟩:=nin h
 obtain⟨HOK,O4,O5,O6,O7,O8,q1,q2,q3,q4⟩:=nok ok HE1 HE2 HE3 HE4
 have HE:=jd hE
 clear h ok hE
 show Calls Tryz.prog 149 #[.agg #[.int .i64 kk,.bool nb,.string (BA nm),.slice xa xan xac,.slice xw xwn xwc,.slice xr xrn xrc,.slice xk xkn xkc]] w fun x w'=>x= .returned (.bool (kl rs))∧Kept (fun _=>False) w w'
 go_enter Tryz.func149,Tryz.ntmps149
 go_wp2_with fail
 refine(BZ _ F _ rs (H3.o.kept KA.o (fun _ _ h=>h)) O8.o (HE.o.word.ah KA.o)).mono ?_
 rintro x w1 ⟨rfl,k1⟩
 have K1:=jd (KA.o.trans k1 (fun _ _ h=>h))
 have P1:=nbk k1 PA.o
 obtain⟨⟨x0_1,x1_1,x2_1,x3_1,x4_1,x5_1,x6_1⟩,-⟩:=NBx.cells P1
 clear k1
 obtain⟨B1,hB1⟩:∃B,rs.any (fun r=> !(decide (7≤r.1)&&decide (r.1≤11)&&fg r.2))=B:=⟨_,rfl⟩
 have HB1:=jd hB1
 rw[hB1]
 clear hB1
 cases B1 with
 |true=>
  go_wp2_with fail
  go_ret
  exact⟨by first|rfl|(show Ending.returned (.bool _)=Ending.returned (.bool _);simp only[kl,HB1.o,bb0];first|done|rfl)|(simp[kl,HB1.o]<;>simp_all),K1.o⟩
 |false=>
  go_wp2_with fail
  go_ret
  exact⟨by first|rfl|(show Ending.returned (.bool _)=Ending.returned (.bool _);simp only[kl,HB1.o,bb0];first|done|rfl)|(simp[kl,HB1.o]<;>simp_all),K1.o⟩
set_option maxHeartbeats 8000000 in
theorem vF (w:World) (F:Nat→Prop) (v:Value) (n:Nd) (h:NAt w F v n):
  Calls Tryz.prog 155 #[v] w fun x w'=>x= .returned (.bool (aM n))∧Kept (fun _=>False) w w':=by
 obtain⟨kk,nb,nm,al,ws,rs,ks,xa,xan,xac,xw,xwn,xwc,xr,xrn,xrc,xk,xkn,xkc,rfl,rfl,HN0,⟨H1,H2,H3,H4⟩,⟨HE1,HE2,HE3,HE4⟩,⟨HD1,HD2,HD3,HD4⟩,⟨q1,q2,q3,q4⟩,KA,PA⟩:=nin h
 clear h
 show Calls Tryz.prog 155 #[.agg #[.int .i64 kk,.bool nb,.string (BA nm),.slice xa xan xac,.slice xw xwn xwc,.slice xr xrn xrc,.slice xk xkn xkc]] w fun x w'=>x= .returned (.bool (aM (Nd.mk kk nb nm al ws rs ks)))∧Kept (fun _=>False) w w'
 go_enter Tryz.func155,Tryz.ntmps155
 go_wp2_with fail
 refine(tE _ F _ ks (H4.o.kept KA.o (fun _ _ h=>h))).mono ?_
 rintro x w1 ⟨rfl,k1⟩
 have K1:=jd (KA.o.trans k1 (fun _ _ h=>h))
 have P1:=nbk k1 PA.o
 obtain⟨⟨x0_1,x1_1,x2_1,x3_1,x4_1,x5_1,x6_1⟩,-⟩:=NBx.cells P1
 clear k1
 obtain⟨B1,hB1⟩:∃B,ks.any (fun m=> !dr m)=B:=⟨_,rfl⟩
 have HB1:=jd hB1
 rw[hB1]
 clear hB1
 cases B1 with
 |true=>
  go_wp2_with fail
  go_ret
  exact⟨by first|rfl|(show Ending.returned (.bool _)=Ending.returned (.bool _);simp only[aM,HB1.o,bb0];first|done|rfl)|(simp[aM,HB1.o]<;>simp_all),K1.o⟩
 |false=>
  go_wp2_with fail
  go_ret
  exact⟨by first|rfl|(show Ending.returned (.bool _)=Ending.returned (.bool _);simp only[aM,HB1.o,bb0];first|done|rfl)|(simp[aM,HB1.o]<;>simp_all),K1.o⟩
theorem Du (w:World) (F:Nat→Prop) (v:Value) {kk:Int} {nb:Bool} {nm:List UInt8} {al:List (List UInt8×List Prt)} {ws:List (List Prt)} {rs:List (Int×List Prt)} {ks:List Nd} (h:NAt w F v (.mk kk nb nm al ws rs ks)) (ok:OkM (.mk kk nb nm al ws rs ks)) (hE:bN w):
  Calls Tryz.prog 149 #[v] w fun x w'=>x= .returned (.bool (kl rs))∧Kept (fun _=>False) w w':=oW w F v _ h ok hE
theorem BP (w:World) (F:Nat→Prop) (v:Value) {kk:Int} {nb:Bool} {nm:List UInt8} {al:List (List UInt8×List Prt)} {ws:List (List Prt)} {rs:List (Int×List Prt)} {ks:List Nd} (h:NAt w F v (.mk kk nb nm al ws rs ks)):
  Calls Tryz.prog 155 #[v] w fun x w'=>x= .returned (.bool (!ks.any fun m=> !dr m))∧Kept (fun _=>False) w w':=vF w F v _ h
set_option maxHeartbeats 8000000 in
theorem zO (w:World) (F:Nat→Prop) (v:Value) (n:Nd) (h:NAt w F v n) (ok:OkM n) (hE:bN w):
  Calls Tryz.prog 152 #[v,.bool true] w fun x w'=>x= .returned (.bool (cb n true))∧Kept (fun _=>False) w w':=by
 obtain⟨kk,nb,nm,al,ws,rs,ks,xa,xan,xac,xw,xwn,xwc,xr,xrn,xrc,xk,xkn,xkc,rfl,rfl,HN0,⟨H1,H2,H3,H4⟩,⟨HE1,HE2,HE3,HE4⟩,⟨HD1,HD2,HD3,HD4⟩,⟨q1,q2,q3,q4⟩,KA,PA⟩:=nin h
 obtain⟨HOK,O4,O5,O6,O7,O8,q1,q2,q3,q4⟩:=nok ok HE1 HE2 HE3 HE4
 have HE:=jd hE
 clear h ok hE
 show Calls Tryz.prog 152 #[.agg #[.int .i64 kk,.bool nb,.string (BA nm),.slice xa xan xac,.slice xw xwn xwc,.slice xr xrn xrc,.slice xk xkn xkc],.bool true] w fun x w'=>x= .returned (.bool (cb (Nd.mk kk nb nm al ws rs ks) true))∧Kept (fun _=>False) w w'
 go_enter Tryz.func152,Tryz.ntmps152
 cases nb with
 |true=>
  go_wp2_with fail
  go_ret
  exact⟨by first|rfl|(show Ending.returned (.bool _)=Ending.returned (.bool _);simp only[cb,bb0];first|done|rfl)|(simp[cb]<;>simp_all),KA.o⟩
 |false=>
  by_cases cn:nm=[]
  ·have gnm:nm.isEmpty=true:=by rw[cn];rfl
   have fn1:(BA nm==(⟨#[]⟩:ByteArray))=true:=by rw[cn];rfl
   have fn2:(nm==[])=true:=by rw[cn];rfl
   clear cn
   by_cases cs:xan=0∧xwn=0
   ·have fs1:((xan:Int)+(xwn:Int)==0)=true:=by apply beq_iff_eq.2;omega
    have gs1:al.isEmpty=true:=by rw[HD1.o];exact decide_eq_true cs.1
    have gs2:ws.isEmpty=true:=by rw[HD2.o];exact decide_eq_true cs.2
    clear cs
    by_cases cr:xrn=0
    ·have fr1:((xrn:Int)==0)=true:=by apply beq_iff_eq.2;omega
     have gr1:rs.isEmpty=true:=by rw[HD3.o];exact decide_eq_true cr
     clear cr
     go_wp2_with fail
     go_ret
     exact⟨by first|rfl|(show Ending.returned (.bool _)=Ending.returned (.bool _);simp only[cb,gnm,gs1,gs2,gr1,bb0];first|done|rfl)|(simp[cb,gnm,gs1,gs2,gr1]<;>simp_all),KA.o⟩
    ·have fr1:((xrn:Int)==0)=false:=by apply beq_eq_false_iff_ne.2;omega
     have gr1:rs.isEmpty=false:=by rw[HD3.o];exact decide_eq_false cr
     clear cr
     go_wp2_with fail
     refine(Du _ F _ (HN0.o.kept KA.o (fun _ _ h=>h)) HOK.o (HE.o.ah KA.o)).mono ?_
     rintro x w1 ⟨rfl,k1⟩
     have K1:=jd (KA.o.trans k1 (fun _ _ h=>h))
     have P1:=nbk k1 PA.o
     obtain⟨⟨x0_1,x1_1,x2_1,x3_1,x4_1,x5_1,x6_1⟩,-⟩:=NBx.cells P1
     clear k1
     obtain⟨B1,hB1⟩:∃B,kl rs=B:=⟨_,rfl⟩
     have HB1:=jd hB1
     rw[hB1]
     clear hB1
     cases B1 with
     |true=>
      go_wp2_with fail
      go_ret
      exact⟨by first|rfl|(show Ending.returned (.bool _)=Ending.returned (.bool _);simp only[cb,gnm,gs1,gs2,gr1,HB1.o,bb0];first|done|rfl)|(simp[cb,gnm,gs1,gs2,gr1,HB1.o]<;>simp_all),K1.o⟩
     |false=>
      go_wp2_with fail
      go_ret
      exact⟨by first|rfl|(show Ending.returned (.bool _)=Ending.returned (.bool _);simp only[cb,gnm,gs1,gs2,gr1,HB1.o,bb0];first|done|rfl)|(simp[cb,gnm,gs1,gs2,gr1,HB1.o]<;>simp_all),K1.o⟩
   ·have fs1:((xan:Int)+(xwn:Int)==0)=false:=by apply beq_eq_false_iff_ne.2;omega
    have gs1:(al.isEmpty&&ws.isEmpty)=false:=by rw[HD1.o,HD2.o,Bool.and_eq_false_iff];rcases Nat.eq_zero_or_pos xan with hx|hx;(·exact .inr (decide_eq_false (fun e=>cs ⟨hx,e⟩)));(·exact .inl (decide_eq_false (by omega)))
    clear cs
    go_wp2_with fail
    go_ret
    exact⟨by first|rfl|(show Ending.returned (.bool _)=Ending.returned (.bool _);simp only[cb,gnm,gs1,bb0];first|done|rfl)|(simp[cb,gnm,gs1]<;>simp_all),KA.o⟩
  ·have gnm:nm.isEmpty=false:=by cases nm with|nil=>exact absurd rfl cn|cons a b=>rfl
   have fn1:(BA nm==(⟨#[]⟩:ByteArray))=false:=by have:=bI nm [];rw[show(⟨#[]⟩:ByteArray)=BA [] from rfl,this];simpa using cn
   have fn2:(nm==[])=false:=by simpa using cn
   clear cn
   go_wp2_with fail
   go_ret
   exact⟨by first|rfl|(show Ending.returned (.bool _)=Ending.returned (.bool _);simp only[cb,gnm,bb0];first|done|rfl)|(simp[cb,gnm]<;>simp_all),KA.o⟩
set_option maxHeartbeats 8000000 in
theorem vJ (w:World) (F:Nat→Prop) (v:Value) (n:Nd) (h:NAt w F v n) (ok:OkM n) (hE:bN w):
  Calls Tryz.prog 152 #[v,.bool false] w fun x w'=>x= .returned (.bool (cb n false))∧Kept (fun _=>False) w w':=by
 obtain⟨kk,nb,nm,al,ws,rs,ks,xa,xan,xac,xw,xwn,xwc,xr,xrn,xrc,xk,xkn,xkc,rfl,rfl,HN0,⟨H1,H2,H3,H4⟩,⟨HE1,HE2,HE3,HE4⟩,⟨HD1,HD2,HD3,HD4⟩,⟨q1,q2,q3,q4⟩,KA,PA⟩:=nin h
 obtain⟨HOK,O4,O5,O6,O7,O8,q1,q2,q3,q4⟩:=nok ok HE1 HE2 HE3 HE4
 have HE:=jd hE
 clear h ok hE
 show Calls Tryz.prog 152 #[.agg #[.int .i64 kk,.bool nb,.string (BA nm),.slice xa xan xac,.slice xw xwn xwc,.slice xr xrn xrc,.slice xk xkn xkc],.bool false] w fun x w'=>x= .returned (.bool (cb (Nd.mk kk nb nm al ws rs ks) false))∧Kept (fun _=>False) w w'
 go_enter Tryz.func152,Tryz.ntmps152
 cases nb with
 |true=>
  go_wp2_with fail
  go_ret
  exact⟨by first|rfl|(show Ending.returned (.bool _)=Ending.returned (.bool _);simp only[cb,bb0];first|done|rfl)|(simp[cb]<;>simp_all),KA.o⟩
 |false=>
  by_cases cn:nm=[]
  ·have gnm:nm.isEmpty=true:=by rw[cn];rfl
   have fn1:(BA nm==(⟨#[]⟩:ByteArray))=true:=by rw[cn];rfl
   have fn2:(nm==[])=true:=by rw[cn];rfl
   clear cn
   by_cases cs:xan=0∧xwn=0
   ·have fs1:((xan:Int)+(xwn:Int)==0)=true:=by apply beq_iff_eq.2;omega
    have gs1:al.isEmpty=true:=by rw[HD1.o];exact decide_eq_true cs.1
    have gs2:ws.isEmpty=true:=by rw[HD2.o];exact decide_eq_true cs.2
    clear cs
    by_cases cr:xrn=0
    ·have fr1:((xrn:Int)==0)=true:=by apply beq_iff_eq.2;omega
     have gr1:rs.isEmpty=true:=by rw[HD3.o];exact decide_eq_true cr
     clear cr
     go_wp2_with fail
     go_ret
     exact⟨by first|rfl|(show Ending.returned (.bool _)=Ending.returned (.bool _);simp only[cb,gnm,gs1,gs2,gr1,bb0];first|done|rfl)|(simp[cb,gnm,gs1,gs2,gr1]<;>simp_all),KA.o⟩
    ·have fr1:((xrn:Int)==0)=false:=by apply beq_eq_false_iff_ne.2;omega
     have gr1:rs.isEmpty=false:=by rw[HD3.o];exact decide_eq_false cr
     clear cr
     go_wp2_with fail
     go_ret
     exact⟨by first|rfl|(show Ending.returned (.bool _)=Ending.returned (.bool _);simp only[cb,gnm,gs1,gs2,gr1,bb0];first|done|rfl)|(simp[cb,gnm,gs1,gs2,gr1]<;>simp_all),KA.o⟩
   ·have fs1:((xan:Int)+(xwn:Int)==0)=false:=by apply beq_eq_false_iff_ne.2;omega
    have gs1:(al.isEmpty&&ws.isEmpty)=false:=by rw[HD1.o,HD2.o,Bool.and_eq_false_iff];rcases Nat.eq_zero_or_pos xan with hx|hx;(·exact .inr (decide_eq_false (fun e=>cs ⟨hx,e⟩)));(·exact .inl (decide_eq_false (by omega)))
    clear cs
    go_wp2_with fail
    go_ret
    exact⟨by first|rfl|(show Ending.returned (.bool _)=Ending.returned (.bool _);simp only[cb,gnm,gs1,bb0];first|done|rfl)|(simp[cb,gnm,gs1]<;>simp_all),KA.o⟩
  ·have gnm:nm.isEmpty=false:=by cases nm with|nil=>exact absurd rfl cn|cons a b=>rfl
   have fn1:(BA nm==(⟨#[]⟩:ByteArray))=false:=by have:=bI nm [];rw[show(⟨#[]⟩:ByteArray)=BA [] from rfl,this];simpa using cn
   have fn2:(nm==[])=false:=by simpa using cn
   clear cn
   go_wp2_with fail
   go_ret
   exact⟨by first|rfl|(show Ending.returned (.bool _)=Ending.returned (.bool _);simp only[cb,gnm,bb0];first|done|rfl)|(simp[cb,gnm]<;>simp_all),KA.o⟩
theorem qX (w:World) (F:Nat→Prop) (v:Value) {kk:Int} {nb:Bool} {nm:List UInt8} {al:List (List UInt8×List Prt)} {ws:List (List Prt)} {rs:List (Int×List Prt)} {ks:List Nd} (red:Bool) (h:NAt w F v (.mk kk nb nm al ws rs ks)) (ok:OkM (.mk kk nb nm al ws rs ks)) (hE:bN w):
  Calls Tryz.prog 152 #[v,.bool red] w fun x w'=>x= .returned (.bool (cb (.mk kk nb nm al ws rs ks) red))∧Kept (fun _=>False) w w':=by
 cases red
 ·exact vJ w F v _ h ok hE
 ·exact zO w F v _ h ok hE
set_option maxHeartbeats 8000000 in
theorem AI (w:World) (F:Nat→Prop) (v:Value) (n:Nd) (h:NAt w F v n) (ok:OkM n) (hE:bN w):
  Calls Tryz.prog 141 #[v] w fun x w'=>x= .returned (.bool (ib n))∧Kept (fun _=>False) w w':=by
 obtain⟨kk,nb,nm,al,ws,rs,ks,xa,xan,xac,xw,xwn,xwc,xr,xrn,xrc,xk,xkn,xkc,rfl,rfl,HN0,⟨H1,H2,H3,H4⟩,⟨HE1,HE2,HE3,HE4⟩,⟨HD1,HD2,HD3,HD4⟩,⟨q1,q2,q3,q4⟩,KA,PA⟩:=nin h
 obtain⟨HOK,O4,O5,O6,O7,O8,q1,q2,q3,q4⟩:=nok ok HE1 HE2 HE3 HE4
 have HE:=jd hE
 clear h ok hE
 show Calls Tryz.prog 141 #[.agg #[.int .i64 kk,.bool nb,.string (BA nm),.slice xa xan xac,.slice xw xwn xwc,.slice xr xrn xrc,.slice xk xkn xkc]] w fun x w'=>x= .returned (.bool (ib (Nd.mk kk nb nm al ws rs ks)))∧Kept (fun _=>False) w w'
 go_enter Tryz.func141,Tryz.ntmps141
 go_wp2_with fail
 refine(qX _ F _ false (HN0.o.kept KA.o (fun _ _ h=>h)) HOK.o (HE.o.ah KA.o)).mono ?_
 rintro x w1 ⟨rfl,k1⟩
 have K1:=jd (KA.o.trans k1 (fun _ _ h=>h))
 have P1:=nbk k1 PA.o
 obtain⟨⟨x0_1,x1_1,x2_1,x3_1,x4_1,x5_1,x6_1⟩,-⟩:=NBx.cells P1
 clear k1
 obtain⟨B1,hB1⟩:∃B,cb (Nd.mk kk nb nm al ws rs ks) false=B:=⟨_,rfl⟩
 have HB1:=jd hB1
 rw[hB1]
 clear hB1
 cases B1 with
 |true=>
  by_cases ck:xkn=1
  ·have fk1:((xkn:Int)==1)=true:=by apply beq_iff_eq.2;omega
   have fk2:((xkn:Int) !=1)=false:=by simp[bne,fk1]
   have gk1:decide (ks.length≠1)=false:=decide_eq_false (by rw[←HE4.o];exact fun e=>e ck)
   clear ck
   go_wp2_with fail
   go_ret
   exact⟨by first|rfl|(show Ending.returned (.bool _)=Ending.returned (.bool _);simp only[ib,HB1.o,gk1,bb0];first|done|rfl)|(simp[ib,HB1.o,gk1]<;>simp_all),K1.o⟩
  ·have fk1:((xkn:Int)==1)=false:=by apply beq_eq_false_iff_ne.2;omega
   have fk2:((xkn:Int) !=1)=true:=by simp[bne,fk1]
   have gk1:decide (ks.length≠1)=true:=decide_eq_true (by rw[←HE4.o];exact ck)
   clear ck
   go_wp2_with fail
   refine(yc _ F _ ks (H4.o.kept K1.o (fun _ _ h=>h))).mono ?_
   rintro x w2 ⟨rfl,k2⟩
   have K2:=jd (K1.o.trans k2 (fun _ _ h=>h))
   have P2:=nbk k2 P1
   obtain⟨⟨x0_2,x1_2,x2_2,x3_2,x4_2,x5_2,x6_2⟩,-⟩:=NBx.cells P2
   clear k2
   obtain⟨B2,hB2⟩:∃B,ks.any (fun m=>m.kind==5)=B:=⟨_,rfl⟩
   have HB2:=jd hB2
   rw[hB2]
   clear hB2
   cases B2 with
   |true=>
    go_wp2_with fail
    go_ret
    exact⟨by first|rfl|(show Ending.returned (.bool _)=Ending.returned (.bool _);simp only[ib,HB1.o,gk1,HB2.o,bb0];first|done|rfl)|(simp[ib,HB1.o,gk1,HB2.o]<;>simp_all),K2.o⟩
   |false=>
    go_wp2_with fail
    go_ret
    exact⟨by first|rfl|(show Ending.returned (.bool _)=Ending.returned (.bool _);simp only[ib,HB1.o,gk1,HB2.o,bb0];first|done|rfl)|(simp[ib,HB1.o,gk1,HB2.o]<;>simp_all),K2.o⟩
 |false=>
  go_wp2_with fail
  go_ret
  exact⟨by first|rfl|(show Ending.returned (.bool _)=Ending.returned (.bool _);simp only[ib,HB1.o,bb0];first|done|rfl)|(simp[ib,HB1.o]<;>simp_all),K1.o⟩
set_option maxHeartbeats 8000000 in
theorem r8 (w:World) (F:Nat→Prop) (v:Value) (n:Nd) (h:NAt w F v n) (ok:OkM n) (hE:bN w):
  Calls Tryz.prog 142 #[v] w fun x w'=>x= .returned (.bool (cS n))∧Kept (fun _=>False) w w':=by
 obtain⟨kk,nb,nm,al,ws,rs,ks,xa,xan,xac,xw,xwn,xwc,xr,xrn,xrc,xk,xkn,xkc,rfl,rfl,HN0,⟨H1,H2,H3,H4⟩,⟨HE1,HE2,HE3,HE4⟩,⟨HD1,HD2,HD3,HD4⟩,⟨q1,q2,q3,q4⟩,KA,PA⟩:=nin h
 obtain⟨HOK,O4,O5,O6,O7,O8,q1,q2,q3,q4⟩:=nok ok HE1 HE2 HE3 HE4
 have HE:=jd hE
 clear h ok hE
 show Calls Tryz.prog 142 #[.agg #[.int .i64 kk,.bool nb,.string (BA nm),.slice xa xan xac,.slice xw xwn xwc,.slice xr xrn xrc,.slice xk xkn xkc]] w fun x w'=>x= .returned (.bool (cS (Nd.mk kk nb nm al ws rs ks)))∧Kept (fun _=>False) w w'
 go_enter Tryz.func142,Tryz.ntmps142
 go_wp2_with fail
 refine(qX _ F _ true (HN0.o.kept KA.o (fun _ _ h=>h)) HOK.o (HE.o.ah KA.o)).mono ?_
 rintro x w1 ⟨rfl,k1⟩
 have K1:=jd (KA.o.trans k1 (fun _ _ h=>h))
 have P1:=nbk k1 PA.o
 obtain⟨⟨x0_1,x1_1,x2_1,x3_1,x4_1,x5_1,x6_1⟩,-⟩:=NBx.cells P1
 clear k1
 obtain⟨B1,hB1⟩:∃B,cb (Nd.mk kk nb nm al ws rs ks) true=B:=⟨_,rfl⟩
 have HB1:=jd hB1
 rw[hB1]
 clear hB1
 cases B1 with
 |true=>
  by_cases ck:2≤xkn
  ·have fk1:decide ((xkn:Int)≥2)=true:=decide_eq_true (by omega)
   have fk2:decide (2≤xkn)=true:=decide_eq_true ck
   have gk1:decide (2≤ks.length)=true:=decide_eq_true (by rw[←HE4.o];exact ck)
   clear ck
   go_wp2_with fail
   refine(BP _ F _ (HN0.o.kept K1.o (fun _ _ h=>h))).mono ?_
   rintro x w2 ⟨rfl,k2⟩
   have K2:=jd (K1.o.trans k2 (fun _ _ h=>h))
   have P2:=nbk k2 P1
   obtain⟨⟨x0_2,x1_2,x2_2,x3_2,x4_2,x5_2,x6_2⟩,-⟩:=NBx.cells P2
   clear k2
   obtain⟨B2,hB2⟩:∃B,(!ks.any fun m=> !dr m)=B:=⟨_,rfl⟩
   have HB2:=jd hB2
   rw[hB2]
   clear hB2
   cases B2 with
   |true=>
    go_wp2_with fail
    go_ret
    exact⟨by first|rfl|(show Ending.returned (.bool _)=Ending.returned (.bool _);simp only[cS,aM,HB1.o,gk1,HB2.o,bb0];first|done|rfl)|(simp[cS,aM,HB1.o,gk1,HB2.o]<;>simp_all),K2.o⟩
   |false=>
    go_wp2_with fail
    go_ret
    exact⟨by first|rfl|(show Ending.returned (.bool _)=Ending.returned (.bool _);simp only[cS,aM,HB1.o,gk1,HB2.o,bb0];first|done|rfl)|(simp[cS,aM,HB1.o,gk1,HB2.o]<;>simp_all),K2.o⟩
  ·have fk1:decide ((xkn:Int)≥2)=false:=decide_eq_false (by omega)
   have fk2:decide (2≤xkn)=false:=decide_eq_false ck
   have gk1:decide (2≤ks.length)=false:=decide_eq_false (by rw[←HE4.o];exact ck)
   clear ck
   go_wp2_with fail
   go_ret
   exact⟨by first|rfl|(show Ending.returned (.bool _)=Ending.returned (.bool _);simp only[cS,aM,HB1.o,gk1,bb0];first|done|rfl)|(simp[cS,aM,HB1.o,gk1]<;>simp_all),K1.o⟩
 |false=>
  go_wp2_with fail
  go_ret
  exact⟨by first|rfl|(show Ending.returned (.bool _)=Ending.returned (.bool _);simp only[cS,aM,HB1.o,bb0];first|done|rfl)|(simp[cS,aM,HB1.o]<;>simp_all),K1.o⟩
set_option maxHeartbeats 8000000 in
theorem tD (w:World) (F:Nat→Prop) (v:Value) (n:Nd) (h:NAt w F v n) (ok:OkM n) (hE:bN w):
  Calls Tryz.prog 143 #[v] w fun x w'=>x= .returned (.bool (fJ n))∧Kept (fun _=>False) w w':=by
 obtain⟨kk,nb,nm,al,ws,rs,ks,xa,xan,xac,xw,xwn,xwc,xr,xrn,xrc,xk,xkn,xkc,rfl,rfl,HN0,⟨H1,H2,H3,H4⟩,⟨HE1,HE2,HE3,HE4⟩,⟨HD1,HD2,HD3,HD4⟩,⟨q1,q2,q3,q4⟩,KA,PA⟩:=nin h
 obtain⟨HOK,O4,O5,O6,O7,O8,q1,q2,q3,q4⟩:=nok ok HE1 HE2 HE3 HE4
 have HE:=jd hE
 clear h ok hE
 show Calls Tryz.prog 143 #[.agg #[.int .i64 kk,.bool nb,.string (BA nm),.slice xa xan xac,.slice xw xwn xwc,.slice xr xrn xrc,.slice xk xkn xkc]] w fun x w'=>x= .returned (.bool (fJ (Nd.mk kk nb nm al ws rs ks)))∧Kept (fun _=>False) w w'
 go_enter Tryz.func143,Tryz.ntmps143
 go_wp2_with fail
 refine(qX _ F _ true (HN0.o.kept KA.o (fun _ _ h=>h)) HOK.o (HE.o.ah KA.o)).mono ?_
 rintro x w1 ⟨rfl,k1⟩
 have K1:=jd (KA.o.trans k1 (fun _ _ h=>h))
 have P1:=nbk k1 PA.o
 obtain⟨⟨x0_1,x1_1,x2_1,x3_1,x4_1,x5_1,x6_1⟩,-⟩:=NBx.cells P1
 clear k1
 obtain⟨B1,hB1⟩:∃B,cb (Nd.mk kk nb nm al ws rs ks) true=B:=⟨_,rfl⟩
 have HB1:=jd hB1
 rw[hB1]
 clear hB1
 cases B1 with
 |true=>
  by_cases ck:xkn=2
  ·have fk1:((xkn:Int)==2)=true:=by apply beq_iff_eq.2;omega
   have gk1:decide (ks.length=2)=true:=decide_eq_true (by rw[←HE4.o];exact ck)
   clear ck
   go_wp2_with fail
   refine(BP _ F _ (HN0.o.kept K1.o (fun _ _ h=>h))).mono ?_
   rintro x w2 ⟨rfl,k2⟩
   have K2:=jd (K1.o.trans k2 (fun _ _ h=>h))
   have P2:=nbk k2 P1
   obtain⟨⟨x0_2,x1_2,x2_2,x3_2,x4_2,x5_2,x6_2⟩,-⟩:=NBx.cells P2
   clear k2
   obtain⟨B2,hB2⟩:∃B,(!ks.any fun m=> !dr m)=B:=⟨_,rfl⟩
   have HB2:=jd hB2
   rw[hB2]
   clear hB2
   cases B2 with
   |true=>
    go_wp2_with fail
    go_ret
    exact⟨by first|rfl|(show Ending.returned (.bool _)=Ending.returned (.bool _);simp only[fJ,aM,HB1.o,gk1,HB2.o,bb0];first|done|rfl)|(simp[fJ,aM,HB1.o,gk1,HB2.o]<;>simp_all),K2.o⟩
   |false=>
    go_wp2_with fail
    go_ret
    exact⟨by first|rfl|(show Ending.returned (.bool _)=Ending.returned (.bool _);simp only[fJ,aM,HB1.o,gk1,HB2.o,bb0];first|done|rfl)|(simp[fJ,aM,HB1.o,gk1,HB2.o]<;>simp_all),K2.o⟩
  ·have fk1:((xkn:Int)==2)=false:=by apply beq_eq_false_iff_ne.2;omega
   have gk1:decide (ks.length=2)=false:=decide_eq_false (by rw[←HE4.o];exact ck)
   clear ck
   go_wp2_with fail
   go_ret
   exact⟨by first|rfl|(show Ending.returned (.bool _)=Ending.returned (.bool _);simp only[fJ,aM,HB1.o,gk1,bb0];first|done|rfl)|(simp[fJ,aM,HB1.o,gk1]<;>simp_all),K1.o⟩
 |false=>
  go_wp2_with fail
  go_ret
  exact⟨by first|rfl|(show Ending.returned (.bool _)=Ending.returned (.bool _);simp only[fJ,aM,HB1.o,bb0];first|done|rfl)|(simp[fJ,aM,HB1.o]<;>simp_all),K1.o⟩
set_option maxHeartbeats 8000000 in
theorem zH (w:World) (F:Nat→Prop) (v:Value) (n:Nd) (h:NAt w F v n) (ok:OkM n) (hE:bN w):
  Calls Tryz.prog 145 #[v] w fun x w'=>x= .returned (.bool (eL n))∧Kept (fun _=>False) w w':=by
 obtain⟨kk,nb,nm,al,ws,rs,ks,xa,xan,xac,xw,xwn,xwc,xr,xrn,xrc,xk,xkn,xkc,rfl,rfl,HN0,⟨H1,H2,H3,H4⟩,⟨HE1,HE2,HE3,HE4⟩,⟨HD1,HD2,HD3,HD4⟩,⟨q1,q2,q3,q4⟩,KA,PA⟩:=nin h
 obtain⟨HOK,O4,O5,O6,O7,O8,q1,q2,q3,q4⟩:=nok ok HE1 HE2 HE3 HE4
 have HE:=jd hE
 clear h ok hE
 show Calls Tryz.prog 145 #[.agg #[.int .i64 kk,.bool nb,.string (BA nm),.slice xa xan xac,.slice xw xwn xwc,.slice xr xrn xrc,.slice xk xkn xkc]] w fun x w'=>x= .returned (.bool (eL (Nd.mk kk nb nm al ws rs ks)))∧Kept (fun _=>False) w w'
 go_enter Tryz.func145,Tryz.ntmps145
 go_wp2_with fail
 refine(qX _ F _ true (HN0.o.kept KA.o (fun _ _ h=>h)) HOK.o (HE.o.ah KA.o)).mono ?_
 rintro x w1 ⟨rfl,k1⟩
 have K1:=jd (KA.o.trans k1 (fun _ _ h=>h))
 have P1:=nbk k1 PA.o
 obtain⟨⟨x0_1,x1_1,x2_1,x3_1,x4_1,x5_1,x6_1⟩,-⟩:=NBx.cells P1
 clear k1
 obtain⟨B1,hB1⟩:∃B,cb (Nd.mk kk nb nm al ws rs ks) true=B:=⟨_,rfl⟩
 have HB1:=jd hB1
 rw[hB1]
 clear hB1
 cases B1 with
 |true=>
  by_cases ck:xkn=1
  ·have fk1:((xkn:Int)==1)=true:=by apply beq_iff_eq.2;omega
   have gk1:decide (ks.length=1)=true:=decide_eq_true (by rw[←HE4.o];exact ck)
   clear ck
   go_wp2_with fail
   refine(BP _ F _ (HN0.o.kept K1.o (fun _ _ h=>h))).mono ?_
   rintro x w2 ⟨rfl,k2⟩
   have K2:=jd (K1.o.trans k2 (fun _ _ h=>h))
   have P2:=nbk k2 P1
   obtain⟨⟨x0_2,x1_2,x2_2,x3_2,x4_2,x5_2,x6_2⟩,-⟩:=NBx.cells P2
   clear k2
   obtain⟨B2,hB2⟩:∃B,(!ks.any fun m=> !dr m)=B:=⟨_,rfl⟩
   have HB2:=jd hB2
   rw[hB2]
   clear hB2
   cases B2 with
   |true=>
    go_wp2_with fail
    go_ret
    exact⟨by first|rfl|(show Ending.returned (.bool _)=Ending.returned (.bool _);simp only[eL,aM,HB1.o,gk1,HB2.o,bb0];first|done|rfl)|(simp[eL,aM,HB1.o,gk1,HB2.o]<;>simp_all),K2.o⟩
   |false=>
    go_wp2_with fail
    go_ret
    exact⟨by first|rfl|(show Ending.returned (.bool _)=Ending.returned (.bool _);simp only[eL,aM,HB1.o,gk1,HB2.o,bb0];first|done|rfl)|(simp[eL,aM,HB1.o,gk1,HB2.o]<;>simp_all),K2.o⟩
  ·have fk1:((xkn:Int)==1)=false:=by apply beq_eq_false_iff_ne.2;omega
   have gk1:decide (ks.length=1)=false:=decide_eq_false (by rw[←HE4.o];exact ck)
   clear ck
   go_wp2_with fail
   go_ret
   exact⟨by first|rfl|(show Ending.returned (.bool _)=Ending.returned (.bool _);simp only[eL,aM,HB1.o,gk1,bb0];first|done|rfl)|(simp[eL,aM,HB1.o,gk1]<;>simp_all),K1.o⟩
 |false=>
  go_wp2_with fail
  go_ret
  exact⟨by first|rfl|(show Ending.returned (.bool _)=Ending.returned (.bool _);simp only[eL,aM,HB1.o,bb0];first|done|rfl)|(simp[eL,aM,HB1.o]<;>simp_all),K1.o⟩
theorem D0 {w:World} (s:List UInt8) (hs:s.length≤1000000):Calls Tryz.prog 105 #[.string (BA s)] w fun x w'=>x= .returned (.bool (dH s))∧Kept (fun _=>False) w w':=
 (fI w s hs).mono fun x w' h=>⟨h.1,by rw[h.2];exact Kept.refl _ _⟩
set_option maxHeartbeats 8000000 in
theorem AG (w:World) (F:Nat→Prop) (v:Value) (n:Nd) (h:NAt w F v n) (ok:OkM n) (hE:bN w):
  Calls Tryz.prog 144 #[v] w fun x w'=>x= .returned (.bool (dX n))∧Kept (fun _=>False) w w':=by
 obtain⟨kk,nb,nm,al,ws,rs,ks,xa,xan,xac,xw,xwn,xwc,xr,xrn,xrc,xk,xkn,xkc,rfl,rfl,HN0,⟨H1,H2,H3,H4⟩,⟨HE1,HE2,HE3,HE4⟩,⟨HD1,HD2,HD3,HD4⟩,⟨q1,q2,q3,q4⟩,KA,PA⟩:=nin h
 obtain⟨HOK,O4,O5,O6,O7,O8,q1,q2,q3,q4⟩:=nok ok HE1 HE2 HE3 HE4
 have HE:=jd hE
 clear h ok hE
 show Calls Tryz.prog 144 #[.agg #[.int .i64 kk,.bool nb,.string (BA nm),.slice xa xan xac,.slice xw xwn xwc,.slice xr xrn xrc,.slice xk xkn xkc]] w fun x w'=>x= .returned (.bool (dX (Nd.mk kk nb nm al ws rs ks)))∧Kept (fun _=>False) w w'
 go_enter Tryz.func144,Tryz.ntmps144
 cases nb with
 |true=>
  go_wp2_with fail
  go_ret
  exact⟨by first|rfl|(show Ending.returned (.bool _)=Ending.returned (.bool _);simp only[dX,aM,bb0];first|done|rfl)|(simp[dX,aM]<;>simp_all),KA.o⟩
 |false=>
  by_cases ca:xan=0
  ·have fa1:((xan:Int)==0)=true:=by apply beq_iff_eq.2;omega
   have ga1:al.isEmpty=true:=by rw[HD1.o];exact decide_eq_true ca
   clear ca
   go_wp2_with fail
   refine(D0 nm (Nat.le_trans O5.o (by decide))).mono ?_
   rintro x w1 ⟨rfl,k1⟩
   have K1:=jd (KA.o.trans k1 (fun _ _ h=>h))
   have P1:=nbk k1 PA.o
   obtain⟨⟨x0_1,x1_1,x2_1,x3_1,x4_1,x5_1,x6_1⟩,-⟩:=NBx.cells P1
   clear k1
   obtain⟨B1,hB1⟩:∃B,dH nm=B:=⟨_,rfl⟩
   have HB1:=jd hB1
   rw[hB1]
   clear hB1
   cases B1 with
   |true=>
    go_wp2_with fail
    refine(xy _ F _ ws (H2.o.kept K1.o (fun _ _ h=>h)) O7.o (HE.o.word.ah K1.o)).mono ?_
    rintro x w2 ⟨rfl,k2⟩
    have K2:=jd (K1.o.trans k2 (fun _ _ h=>h))
    have P2:=nbk k2 P1
    obtain⟨⟨x0_2,x1_2,x2_2,x3_2,x4_2,x5_2,x6_2⟩,-⟩:=NBx.cells P2
    clear k2
    obtain⟨B2,hB2⟩:∃B,nK ws=B:=⟨_,rfl⟩
    have HB2:=jd hB2
    rw[hB2]
    clear hB2
    cases B2 with
    |true=>
     go_wp2_with fail
     refine(Du _ F _ (HN0.o.kept K2.o (fun _ _ h=>h)) HOK.o (HE.o.ah K2.o)).mono ?_
     rintro x w3 ⟨rfl,k3⟩
     have K3:=jd (K2.o.trans k3 (fun _ _ h=>h))
     have P3:=nbk k3 P2
     obtain⟨⟨x0_3,x1_3,x2_3,x3_3,x4_3,x5_3,x6_3⟩,-⟩:=NBx.cells P3
     clear k3
     obtain⟨B3,hB3⟩:∃B,kl rs=B:=⟨_,rfl⟩
     have HB3:=jd hB3
     rw[hB3]
     clear hB3
     cases B3 with
     |true=>
      by_cases ck:xkn=1
      ·have fk1:((xkn:Int)==1)=true:=by apply beq_iff_eq.2;omega
       have gk1:decide (ks.length=1)=true:=decide_eq_true (by rw[←HE4.o];exact ck)
       clear ck
       go_wp2_with fail
       refine(BP _ F _ (HN0.o.kept K3.o (fun _ _ h=>h))).mono ?_
       rintro x w4 ⟨rfl,k4⟩
       have K4:=jd (K3.o.trans k4 (fun _ _ h=>h))
       have P4:=nbk k4 P3
       obtain⟨⟨x0_4,x1_4,x2_4,x3_4,x4_4,x5_4,x6_4⟩,-⟩:=NBx.cells P4
       clear k4
       obtain⟨B4,hB4⟩:∃B,(!ks.any fun m=> !dr m)=B:=⟨_,rfl⟩
       have HB4:=jd hB4
       rw[hB4]
       clear hB4
       cases B4 with
       |true=>
        go_wp2_with fail
        go_ret
        exact⟨by first|rfl|(show Ending.returned (.bool _)=Ending.returned (.bool _);simp only[dX,aM,ga1,HB1.o,HB2.o,HB3.o,gk1,HB4.o,bb0];first|done|rfl)|(simp[dX,aM,ga1,HB1.o,HB2.o,HB3.o,gk1,HB4.o]<;>simp_all),K4.o⟩
       |false=>
        go_wp2_with fail
        go_ret
        exact⟨by first|rfl|(show Ending.returned (.bool _)=Ending.returned (.bool _);simp only[dX,aM,ga1,HB1.o,HB2.o,HB3.o,gk1,HB4.o,bb0];first|done|rfl)|(simp[dX,aM,ga1,HB1.o,HB2.o,HB3.o,gk1,HB4.o]<;>simp_all),K4.o⟩
      ·have fk1:((xkn:Int)==1)=false:=by apply beq_eq_false_iff_ne.2;omega
       have gk1:decide (ks.length=1)=false:=decide_eq_false (by rw[←HE4.o];exact ck)
       clear ck
       go_wp2_with fail
       go_ret
       exact⟨by first|rfl|(show Ending.returned (.bool _)=Ending.returned (.bool _);simp only[dX,aM,ga1,HB1.o,HB2.o,HB3.o,gk1,bb0];first|done|rfl)|(simp[dX,aM,ga1,HB1.o,HB2.o,HB3.o,gk1]<;>simp_all),K3.o⟩
     |false=>
      go_wp2_with fail
      go_ret
      exact⟨by first|rfl|(show Ending.returned (.bool _)=Ending.returned (.bool _);simp only[dX,aM,ga1,HB1.o,HB2.o,HB3.o,bb0];first|done|rfl)|(simp[dX,aM,ga1,HB1.o,HB2.o,HB3.o]<;>simp_all),K3.o⟩
    |false=>
     go_wp2_with fail
     go_ret
     exact⟨by first|rfl|(show Ending.returned (.bool _)=Ending.returned (.bool _);simp only[dX,aM,ga1,HB1.o,HB2.o,bb0];first|done|rfl)|(simp[dX,aM,ga1,HB1.o,HB2.o]<;>simp_all),K2.o⟩
   |false=>
    go_wp2_with fail
    go_ret
    exact⟨by first|rfl|(show Ending.returned (.bool _)=Ending.returned (.bool _);simp only[dX,aM,ga1,HB1.o,bb0];first|done|rfl)|(simp[dX,aM,ga1,HB1.o]<;>simp_all),K1.o⟩
  ·have fa1:((xan:Int)==0)=false:=by apply beq_eq_false_iff_ne.2;omega
   have ga1:al.isEmpty=false:=by rw[HD1.o];exact decide_eq_false ca
   clear ca
   go_wp2_with fail
   go_ret
   exact⟨by first|rfl|(show Ending.returned (.bool _)=Ending.returned (.bool _);simp only[dX,aM,ga1,bb0];first|done|rfl)|(simp[dX,aM,ga1]<;>simp_all),KA.o⟩
end Go.Proofs.YtgigdlhcjahejaaGreatDoor
