import Derived.Test.YtgigdlhcjahejaaGreatDoorF15
set_option linter.all false
set_option maxHeartbeats 400000000
namespace Go.Proofs.YtgigdlhcjahejaaGreatDoor
open Go Go.RowKit Go.Lw
set_option maxRecDepth 100000
attribute [local go_sem] aA
theorem Aj (w:World) (F:Nat→Prop) (v:Value) (l:List LP) (h:mI w F v l) (htx:∀x∈l,(aC x).length≤100000000) (hE:dm w):
  Calls Tryz.prog 148 #[v] w fun x w'=>x= .returned (.bool (kJ l))∧Kept (fun _=>False) w w':=by
 have HC:=jd (EH w F v l h htx hE)
 obtain⟨a,m,c,rfl⟩:=h.any
 have hm:=h.len
 have hm9:=h.max
 rw[←hm] at hm9
 by_cases h1:m≤256
 ·have f1:decide ((m:Int)≤256)=true:=Jc (by omega)
  have f2:decide (m≤256)=true:=Jc (by omega)
  have HR:Hid (kJ l= !l.any (fun x=> !fP x)):=jd (by unfold kJ;rw[Jc (by omega:l.length≤256),Bool.true_and])
  rw[HR.o]
  clear h hm h1
  go_enter Tryz.func148,Tryz.ntmps148
  go_wp2_with fail
  refine HC.o.mono ?_
  rintro x w4 ⟨rfl,k4⟩
  have K4:=jd k4
  clear k4
  go_wp2_with fail
  go_ret
  exact⟨rfl,K4.o⟩
 ·have f1:decide ((m:Int)≤256)=false:=Jd (by omega)
  have f2:decide (m≤256)=false:=Jd (by omega)
  have HR:Hid (kJ l=false):=jd (by unfold kJ;rw[Jd (by omega:¬l.length≤256),Bool.false_and])
  rw[HR.o]
  clear h hm h1
  go_enter Tryz.func148,Tryz.ntmps148
  go_wp2_with fail
  go_ret
  exact⟨rfl,Ja _ _⟩
theorem ri (w:World) (F:Nat→Prop) (v:Value) (n:Nd) (h:NAt w F v n) (ok:OkM n) (hE:bW w):
  Calls Tryz.prog 149 #[v] w fun x w'=>x= .returned (.bool (gU n.rs))∧Kept (fun _=>False) w w':=by
 obtain⟨kk,nb,nm,al,ws,rs,ks,xa,xan,xac,xw,xwn,xwc,xr,xrn,xrc,xk,xkn,xkc,rfl,rfl,HN0,⟨H1,H2,H3,H4⟩,⟨HE1,HE2,HE3,HE4⟩,⟨HD1,HD2,HD3,HD4⟩,⟨q1,q2,q3,q4⟩,KA,PA⟩:=nin h
 obtain⟨HOK,O4,O5,O6,O7,O8,q1,q2,q3,q4⟩:=nok ok HE1 HE2 HE3 HE4
 have HE:=jd hE
 clear h ok hE
 show Calls Tryz.prog 149 #[.agg #[.int .i64 kk,.bool nb,.string (BA nm),.slice xa xan xac,.slice xw xwn xwc,.slice xr xrn xrc,.slice xk xkn xkc]] w fun x w'=>x= .returned (.bool (gU rs))∧Kept (fun _=>False) w w'
 go_enter Tryz.func149,Tryz.ntmps149
 go_wp2_with fail
 refine(EP _ F _ rs (H3.o.kept KA.o (fun _ _ h=>h)) O8.o (HE.o.word.au KA.o)).mono ?_
 rintro x w1 ⟨rfl,k1⟩
 have K1:=jd (KA.o.trans k1 (fun _ _ h=>h))
 have P1:=nbk k1 PA.o
 obtain⟨⟨x0_1,x1_1,x2_1,x3_1,x4_1,x5_1,x6_1⟩,-⟩:=NBx.cells P1
 clear k1
 obtain⟨B1,hB1⟩:∃B,rs.any (fun r=> !(decide (7≤r.1)&&decide (r.1≤11)&&fP r.2))=B:=⟨_,rfl⟩
 have HB1:=jd hB1
 rw[hB1]
 clear hB1
 cases B1 with
 |true=>
  go_wp2_with fail
  go_ret
  exact⟨by first|rfl|(show Ending.returned (.bool _)=_;simp only[gU,HB1.o,bb0];first|done|rfl)|(simp[gU,HB1.o]<;>simp_all),K1.o⟩
 |false=>
  go_wp2_with fail
  go_ret
  exact⟨by first|rfl|(show Ending.returned (.bool _)=_;simp only[gU,HB1.o,bb0];first|done|rfl)|(simp[gU,HB1.o]<;>simp_all),K1.o⟩
theorem yt (w:World) (F:Nat→Prop) (v:Value) (n:Nd) (h:NAt w F v n):
  Calls Tryz.prog 155 #[v] w fun x w'=>x= .returned (.bool (aN n))∧Kept (fun _=>False) w w':=by
 obtain⟨kk,nb,nm,al,ws,rs,ks,xa,xan,xac,xw,xwn,xwc,xr,xrn,xrc,xk,xkn,xkc,rfl,rfl,HN0,⟨H1,H2,H3,H4⟩,⟨HE1,HE2,HE3,HE4⟩,⟨HD1,HD2,HD3,HD4⟩,⟨q1,q2,q3,q4⟩,KA,PA⟩:=nin h
 clear h
 show Calls Tryz.prog 155 #[.agg #[.int .i64 kk,.bool nb,.string (BA nm),.slice xa xan xac,.slice xw xwn xwc,.slice xr xrn xrc,.slice xk xkn xkc]] w fun x w'=>x= .returned (.bool (aN (Nd.mk kk nb nm al ws rs ks)))∧Kept (fun _=>False) w w'
 go_enter Tryz.func155,Tryz.ntmps155
 go_wp2_with fail
 refine(xf _ F _ ks (H4.o.kept KA.o (fun _ _ h=>h))).mono ?_
 rintro x w1 ⟨rfl,k1⟩
 have K1:=jd (KA.o.trans k1 (fun _ _ h=>h))
 have P1:=nbk k1 PA.o
 obtain⟨⟨x0_1,x1_1,x2_1,x3_1,x4_1,x5_1,x6_1⟩,-⟩:=NBx.cells P1
 clear k1
 obtain⟨B1,hB1⟩:∃B,ks.any (fun m=> !cj m)=B:=⟨_,rfl⟩
 have HB1:=jd hB1
 rw[hB1]
 clear hB1
 cases B1 with
 |true=>
  go_wp2_with fail
  go_ret
  exact⟨by first|rfl|(show Ending.returned (.bool _)=_;simp only[aN,HB1.o,bb0];first|done|rfl)|(simp[aN,HB1.o]<;>simp_all),K1.o⟩
 |false=>
  go_wp2_with fail
  go_ret
  exact⟨by first|rfl|(show Ending.returned (.bool _)=_;simp only[aN,HB1.o,bb0];first|done|rfl)|(simp[aN,HB1.o]<;>simp_all),K1.o⟩
theorem FP (w:World) (F:Nat→Prop) (v:Value) {kk:Int} {nb:Bool} {nm:LB} {al:List (LB×LP)} {ws:List LP} {rs:List (Int×LP)} {ks:List Nd} (h:NAt w F v (.mk kk nb nm al ws rs ks)) (ok:OkM (.mk kk nb nm al ws rs ks)) (hE:bW w):
  Calls Tryz.prog 149 #[v] w fun x w'=>x= .returned (.bool (gU rs))∧Kept (fun _=>False) w w':=ri w F v _ h ok hE
theorem Ev (w:World) (F:Nat→Prop) (v:Value) {kk:Int} {nb:Bool} {nm:LB} {al:List (LB×LP)} {ws:List LP} {rs:List (Int×LP)} {ks:List Nd} (h:NAt w F v (.mk kk nb nm al ws rs ks)):
  Calls Tryz.prog 155 #[v] w fun x w'=>x= .returned (.bool (!ks.any fun m=> !cj m))∧Kept (fun _=>False) w w':=yt w F v _ h
theorem Ba (w:World) (F:Nat→Prop) (v:Value) (n:Nd) (h:NAt w F v n) (ok:OkM n) (hE:bW w):
  Calls Tryz.prog 152 #[v,.bool true] w fun x w'=>x= .returned (.bool (bQ n true))∧Kept (fun _=>False) w w':=by
 obtain⟨kk,nb,nm,al,ws,rs,ks,xa,xan,xac,xw,xwn,xwc,xr,xrn,xrc,xk,xkn,xkc,rfl,rfl,HN0,⟨H1,H2,H3,H4⟩,⟨HE1,HE2,HE3,HE4⟩,⟨HD1,HD2,HD3,HD4⟩,⟨q1,q2,q3,q4⟩,KA,PA⟩:=nin h
 obtain⟨HOK,O4,O5,O6,O7,O8,q1,q2,q3,q4⟩:=nok ok HE1 HE2 HE3 HE4
 have HE:=jd hE
 clear h ok hE
 show Calls Tryz.prog 152 #[.agg #[.int .i64 kk,.bool nb,.string (BA nm),.slice xa xan xac,.slice xw xwn xwc,.slice xr xrn xrc,.slice xk xkn xkc],.bool true] w fun x w'=>x= .returned (.bool (bQ (Nd.mk kk nb nm al ws rs ks) true))∧Kept (fun _=>False) w w'
 go_enter Tryz.func152,Tryz.ntmps152
 cases nb with
 |true=>
  go_wp2_with fail
  go_ret
  exact⟨by first|rfl|(show Ending.returned (.bool _)=_;simp only[bQ,bb0];first|done|rfl)|(simp[bQ]<;>simp_all),KA.o⟩
 |false=>
  by_cases cn:nm=[]
  ·have gnm:nm.isEmpty=true:=by rw[cn];rfl
   have fn1:(BA nm==(⟨#[]⟩:ByteArray))=true:=by rw[cn];rfl
   have fn2:(nm==[])=true:=by rw[cn];rfl
   clear cn
   by_cases cs:xan=0∧xwn=0
   ·have fs1:((xan:Int)+(xwn:Int)==0)=true:=by apply beq_iff_eq.2;omega
    have gs1:al.isEmpty=true:=by rw[HD1.o];exact Jc cs.1
    have gs2:ws.isEmpty=true:=by rw[HD2.o];exact Jc cs.2
    clear cs
    by_cases cr:xrn=0
    ·have fr1:((xrn:Int)==0)=true:=by apply beq_iff_eq.2;omega
     have gr1:rs.isEmpty=true:=by rw[HD3.o];exact Jc cr
     clear cr
     go_wp2_with fail
     go_ret
     exact⟨by first|rfl|(show Ending.returned (.bool _)=_;simp only[bQ,gnm,gs1,gs2,gr1,bb0];first|done|rfl)|(simp[bQ,gnm,gs1,gs2,gr1]<;>simp_all),KA.o⟩
    ·have fr1:((xrn:Int)==0)=false:=by apply Jq.2;omega
     have gr1:rs.isEmpty=false:=by rw[HD3.o];exact Jd cr
     clear cr
     go_wp2_with fail
     refine(FP _ F _ (HN0.o.kept KA.o (fun _ _ h=>h)) HOK.o (HE.o.au KA.o)).mono ?_
     rintro x w1 ⟨rfl,k1⟩
     have K1:=jd (KA.o.trans k1 (fun _ _ h=>h))
     have P1:=nbk k1 PA.o
     obtain⟨⟨x0_1,x1_1,x2_1,x3_1,x4_1,x5_1,x6_1⟩,-⟩:=NBx.cells P1
     clear k1
     obtain⟨B1,hB1⟩:∃B,gU rs=B:=⟨_,rfl⟩
     have HB1:=jd hB1
     rw[hB1]
     clear hB1
     cases B1 with
     |true=>
      go_wp2_with fail
      go_ret
      exact⟨by first|rfl|(show Ending.returned (.bool _)=_;simp only[bQ,gnm,gs1,gs2,gr1,HB1.o,bb0];first|done|rfl)|(simp[bQ,gnm,gs1,gs2,gr1,HB1.o]<;>simp_all),K1.o⟩
     |false=>
      go_wp2_with fail
      go_ret
      exact⟨by first|rfl|(show Ending.returned (.bool _)=_;simp only[bQ,gnm,gs1,gs2,gr1,HB1.o,bb0];first|done|rfl)|(simp[bQ,gnm,gs1,gs2,gr1,HB1.o]<;>simp_all),K1.o⟩
   ·have fs1:((xan:Int)+(xwn:Int)==0)=false:=by apply Jq.2;omega
    have gs1:(al.isEmpty&&ws.isEmpty)=false:=by rw[HD1.o,HD2.o,Bool.and_eq_false_iff];rcases Nat.eq_zero_or_pos xan with hx|hx;(·exact .inr (Jd (fun e=>cs ⟨hx,e⟩)));(·exact .inl (Jd (by omega)))
    clear cs
    go_wp2_with fail
    go_ret
    exact⟨by first|rfl|(show Ending.returned (.bool _)=_;simp only[bQ,gnm,gs1,bb0];first|done|rfl)|(simp[bQ,gnm,gs1]<;>simp_all),KA.o⟩
  ·have gnm:nm.isEmpty=false:=by cases nm with|nil=>exact absurd rfl cn|cons a b=>rfl
   have fn1:(BA nm==(⟨#[]⟩:ByteArray))=false:=by have:=bU nm [];rw[show(⟨#[]⟩:ByteArray)=BA [] from rfl,this];simpa using cn
   have fn2:(nm==[])=false:=by simpa using cn
   clear cn
   go_wp2_with fail
   go_ret
   exact⟨by first|rfl|(show Ending.returned (.bool _)=_;simp only[bQ,gnm,bb0];first|done|rfl)|(simp[bQ,gnm]<;>simp_all),KA.o⟩
theorem yn (w:World) (F:Nat→Prop) (v:Value) (n:Nd) (h:NAt w F v n) (ok:OkM n) (hE:bW w):
  Calls Tryz.prog 152 #[v,.bool false] w fun x w'=>x= .returned (.bool (bQ n false))∧Kept (fun _=>False) w w':=by
 obtain⟨kk,nb,nm,al,ws,rs,ks,xa,xan,xac,xw,xwn,xwc,xr,xrn,xrc,xk,xkn,xkc,rfl,rfl,HN0,⟨H1,H2,H3,H4⟩,⟨HE1,HE2,HE3,HE4⟩,⟨HD1,HD2,HD3,HD4⟩,⟨q1,q2,q3,q4⟩,KA,PA⟩:=nin h
 obtain⟨HOK,O4,O5,O6,O7,O8,q1,q2,q3,q4⟩:=nok ok HE1 HE2 HE3 HE4
 have HE:=jd hE
 clear h ok hE
 show Calls Tryz.prog 152 #[.agg #[.int .i64 kk,.bool nb,.string (BA nm),.slice xa xan xac,.slice xw xwn xwc,.slice xr xrn xrc,.slice xk xkn xkc],.bool false] w fun x w'=>x= .returned (.bool (bQ (Nd.mk kk nb nm al ws rs ks) false))∧Kept (fun _=>False) w w'
 go_enter Tryz.func152,Tryz.ntmps152
 cases nb with
 |true=>
  go_wp2_with fail
  go_ret
  exact⟨by first|rfl|(show Ending.returned (.bool _)=_;simp only[bQ,bb0];first|done|rfl)|(simp[bQ]<;>simp_all),KA.o⟩
 |false=>
  by_cases cn:nm=[]
  ·have gnm:nm.isEmpty=true:=by rw[cn];rfl
   have fn1:(BA nm==(⟨#[]⟩:ByteArray))=true:=by rw[cn];rfl
   have fn2:(nm==[])=true:=by rw[cn];rfl
   clear cn
   by_cases cs:xan=0∧xwn=0
   ·have fs1:((xan:Int)+(xwn:Int)==0)=true:=by apply beq_iff_eq.2;omega
    have gs1:al.isEmpty=true:=by rw[HD1.o];exact Jc cs.1
    have gs2:ws.isEmpty=true:=by rw[HD2.o];exact Jc cs.2
    clear cs
    by_cases cr:xrn=0
    ·have fr1:((xrn:Int)==0)=true:=by apply beq_iff_eq.2;omega
     have gr1:rs.isEmpty=true:=by rw[HD3.o];exact Jc cr
     clear cr
     go_wp2_with fail
     go_ret
     exact⟨by first|rfl|(show Ending.returned (.bool _)=_;simp only[bQ,gnm,gs1,gs2,gr1,bb0];first|done|rfl)|(simp[bQ,gnm,gs1,gs2,gr1]<;>simp_all),KA.o⟩
    ·have fr1:((xrn:Int)==0)=false:=by apply Jq.2;omega
     have gr1:rs.isEmpty=false:=by rw[HD3.o];exact Jd cr
     clear cr
     go_wp2_with fail
     go_ret
     exact⟨by first|rfl|(show Ending.returned (.bool _)=_;simp only[bQ,gnm,gs1,gs2,gr1,bb0];first|done|rfl)|(simp[bQ,gnm,gs1,gs2,gr1]<;>simp_all),KA.o⟩
   ·have fs1:((xan:Int)+(xwn:Int)==0)=false:=by apply Jq.2;omega
    have gs1:(al.isEmpty&&ws.isEmpty)=false:=by rw[HD1.o,HD2.o,Bool.and_eq_false_iff];rcases Nat.eq_zero_or_pos xan with hx|hx;(·exact .inr (Jd (fun e=>cs ⟨hx,e⟩)));(·exact .inl (Jd (by omega)))
    clear cs
    go_wp2_with fail
    go_ret
    exact⟨by first|rfl|(show Ending.returned (.bool _)=_;simp only[bQ,gnm,gs1,bb0];first|done|rfl)|(simp[bQ,gnm,gs1]<;>simp_all),KA.o⟩
  ·have gnm:nm.isEmpty=false:=by cases nm with|nil=>exact absurd rfl cn|cons a b=>rfl
   have fn1:(BA nm==(⟨#[]⟩:ByteArray))=false:=by have:=bU nm [];rw[show(⟨#[]⟩:ByteArray)=BA [] from rfl,this];simpa using cn
   have fn2:(nm==[])=false:=by simpa using cn
   clear cn
   go_wp2_with fail
   go_ret
   exact⟨by first|rfl|(show Ending.returned (.bool _)=_;simp only[bQ,gnm,bb0];first|done|rfl)|(simp[bQ,gnm]<;>simp_all),KA.o⟩
theorem sD (w:World) (F:Nat→Prop) (v:Value) {kk:Int} {nb:Bool} {nm:LB} {al:List (LB×LP)} {ws:List LP} {rs:List (Int×LP)} {ks:List Nd} (red:Bool) (h:NAt w F v (.mk kk nb nm al ws rs ks)) (ok:OkM (.mk kk nb nm al ws rs ks)) (hE:bW w):
  Calls Tryz.prog 152 #[v,.bool red] w fun x w'=>x= .returned (.bool (bQ (.mk kk nb nm al ws rs ks) red))∧Kept (fun _=>False) w w':=by
 cases red
 ·exact yn w F v _ h ok hE
 ·exact Ba w F v _ h ok hE
theorem DV (w:World) (F:Nat→Prop) (v:Value) (n:Nd) (h:NAt w F v n) (ok:OkM n) (hE:bW w):
  Calls Tryz.prog 141 #[v] w fun x w'=>x= .returned (.bool (iK n))∧Kept (fun _=>False) w w':=by
 obtain⟨kk,nb,nm,al,ws,rs,ks,xa,xan,xac,xw,xwn,xwc,xr,xrn,xrc,xk,xkn,xkc,rfl,rfl,HN0,⟨H1,H2,H3,H4⟩,⟨HE1,HE2,HE3,HE4⟩,⟨HD1,HD2,HD3,HD4⟩,⟨q1,q2,q3,q4⟩,KA,PA⟩:=nin h
 obtain⟨HOK,O4,O5,O6,O7,O8,q1,q2,q3,q4⟩:=nok ok HE1 HE2 HE3 HE4
 have HE:=jd hE
 clear h ok hE
 show Calls Tryz.prog 141 #[.agg #[.int .i64 kk,.bool nb,.string (BA nm),.slice xa xan xac,.slice xw xwn xwc,.slice xr xrn xrc,.slice xk xkn xkc]] w fun x w'=>x= .returned (.bool (iK (Nd.mk kk nb nm al ws rs ks)))∧Kept (fun _=>False) w w'
 go_enter Tryz.func141,Tryz.ntmps141
 go_wp2_with fail
 refine(sD _ F _ false (HN0.o.kept KA.o (fun _ _ h=>h)) HOK.o (HE.o.au KA.o)).mono ?_
 rintro x w1 ⟨rfl,k1⟩
 have K1:=jd (KA.o.trans k1 (fun _ _ h=>h))
 have P1:=nbk k1 PA.o
 obtain⟨⟨x0_1,x1_1,x2_1,x3_1,x4_1,x5_1,x6_1⟩,-⟩:=NBx.cells P1
 clear k1
 obtain⟨B1,hB1⟩:∃B,bQ (Nd.mk kk nb nm al ws rs ks) false=B:=⟨_,rfl⟩
 have HB1:=jd hB1
 rw[hB1]
 clear hB1
 cases B1 with
 |true=>
  by_cases ck:xkn=1
  ·have fk1:((xkn:Int)==1)=true:=by apply beq_iff_eq.2;omega
   have fk2:((xkn:Int) !=1)=false:=by simp[bne,fk1]
   have gk1:decide (ks.length≠1)=false:=Jd (by rw[←HE4.o];exact fun e=>e ck)
   clear ck
   go_wp2_with fail
   go_ret
   exact⟨by first|rfl|(show Ending.returned (.bool _)=_;simp only[iK,HB1.o,gk1,bb0];first|done|rfl)|(simp[iK,HB1.o,gk1]<;>simp_all),K1.o⟩
  ·have fk1:((xkn:Int)==1)=false:=by apply Jq.2;omega
   have fk2:((xkn:Int) !=1)=true:=by simp[bne,fk1]
   have gk1:decide (ks.length≠1)=true:=Jc (by rw[←HE4.o];exact ck)
   clear ck
   go_wp2_with fail
   refine(BP _ F _ ks (H4.o.kept K1.o (fun _ _ h=>h))).mono ?_
   rintro x w2 ⟨rfl,k2⟩
   have K2:=jd (K1.o.trans k2 (fun _ _ h=>h))
   have P2:=nbk k2 P1
   obtain⟨⟨x0_2,x1_2,x2_2,x3_2,x4_2,x5_2,x6_2⟩,-⟩:=NBx.cells P2
   clear k2
   obtain⟨B2,hB2⟩:∃B,ks.any (fun m=>m.kind==5)=B:=⟨_,rfl⟩
   have HB2:=jd hB2
   rw[hB2]
   clear hB2
   cases B2 with
   |true=>
    go_wp2_with fail
    go_ret
    exact⟨by first|rfl|(show Ending.returned (.bool _)=_;simp only[iK,HB1.o,gk1,HB2.o,bb0];first|done|rfl)|(simp[iK,HB1.o,gk1,HB2.o]<;>simp_all),K2.o⟩
   |false=>
    go_wp2_with fail
    go_ret
    exact⟨by first|rfl|(show Ending.returned (.bool _)=_;simp only[iK,HB1.o,gk1,HB2.o,bb0];first|done|rfl)|(simp[iK,HB1.o,gk1,HB2.o]<;>simp_all),K2.o⟩
 |false=>
  go_wp2_with fail
  go_ret
  exact⟨by first|rfl|(show Ending.returned (.bool _)=_;simp only[iK,HB1.o,bb0];first|done|rfl)|(simp[iK,HB1.o]<;>simp_all),K1.o⟩
theorem uz (w:World) (F:Nat→Prop) (v:Value) (n:Nd) (h:NAt w F v n) (ok:OkM n) (hE:bW w):
  Calls Tryz.prog 142 #[v] w fun x w'=>x= .returned (.bool (cL n))∧Kept (fun _=>False) w w':=by
 obtain⟨kk,nb,nm,al,ws,rs,ks,xa,xan,xac,xw,xwn,xwc,xr,xrn,xrc,xk,xkn,xkc,rfl,rfl,HN0,⟨H1,H2,H3,H4⟩,⟨HE1,HE2,HE3,HE4⟩,⟨HD1,HD2,HD3,HD4⟩,⟨q1,q2,q3,q4⟩,KA,PA⟩:=nin h
 obtain⟨HOK,O4,O5,O6,O7,O8,q1,q2,q3,q4⟩:=nok ok HE1 HE2 HE3 HE4
 have HE:=jd hE
 clear h ok hE
 show Calls Tryz.prog 142 #[.agg #[.int .i64 kk,.bool nb,.string (BA nm),.slice xa xan xac,.slice xw xwn xwc,.slice xr xrn xrc,.slice xk xkn xkc]] w fun x w'=>x= .returned (.bool (cL (Nd.mk kk nb nm al ws rs ks)))∧Kept (fun _=>False) w w'
 go_enter Tryz.func142,Tryz.ntmps142
 go_wp2_with fail
 refine(sD _ F _ true (HN0.o.kept KA.o (fun _ _ h=>h)) HOK.o (HE.o.au KA.o)).mono ?_
 rintro x w1 ⟨rfl,k1⟩
 have K1:=jd (KA.o.trans k1 (fun _ _ h=>h))
 have P1:=nbk k1 PA.o
 obtain⟨⟨x0_1,x1_1,x2_1,x3_1,x4_1,x5_1,x6_1⟩,-⟩:=NBx.cells P1
 clear k1
 obtain⟨B1,hB1⟩:∃B,bQ (Nd.mk kk nb nm al ws rs ks) true=B:=⟨_,rfl⟩
 have HB1:=jd hB1
 rw[hB1]
 clear hB1
 cases B1 with
 |true=>
  by_cases ck:2≤xkn
  ·have fk1:decide ((xkn:Int)≥2)=true:=Jc (by omega)
   have fk2:decide (2≤xkn)=true:=Jc ck
   have gk1:decide (2≤ks.length)=true:=Jc (by rw[←HE4.o];exact ck)
   clear ck
   go_wp2_with fail
   refine(Ev _ F _ (HN0.o.kept K1.o (fun _ _ h=>h))).mono ?_
   rintro x w2 ⟨rfl,k2⟩
   have K2:=jd (K1.o.trans k2 (fun _ _ h=>h))
   have P2:=nbk k2 P1
   obtain⟨⟨x0_2,x1_2,x2_2,x3_2,x4_2,x5_2,x6_2⟩,-⟩:=NBx.cells P2
   clear k2
   obtain⟨B2,hB2⟩:∃B,(!ks.any fun m=> !cj m)=B:=⟨_,rfl⟩
   have HB2:=jd hB2
   rw[hB2]
   clear hB2
   cases B2 with
   |true=>
    go_wp2_with fail
    go_ret
    exact⟨by first|rfl|(show Ending.returned (.bool _)=_;simp only[cL,aN,HB1.o,gk1,HB2.o,bb0];first|done|rfl)|(simp[cL,aN,HB1.o,gk1,HB2.o]<;>simp_all),K2.o⟩
   |false=>
    go_wp2_with fail
    go_ret
    exact⟨by first|rfl|(show Ending.returned (.bool _)=_;simp only[cL,aN,HB1.o,gk1,HB2.o,bb0];first|done|rfl)|(simp[cL,aN,HB1.o,gk1,HB2.o]<;>simp_all),K2.o⟩
  ·have fk1:decide ((xkn:Int)≥2)=false:=Jd (by omega)
   have fk2:decide (2≤xkn)=false:=Jd ck
   have gk1:decide (2≤ks.length)=false:=Jd (by rw[←HE4.o];exact ck)
   clear ck
   go_wp2_with fail
   go_ret
   exact⟨by first|rfl|(show Ending.returned (.bool _)=_;simp only[cL,aN,HB1.o,gk1,bb0];first|done|rfl)|(simp[cL,aN,HB1.o,gk1]<;>simp_all),K1.o⟩
 |false=>
  go_wp2_with fail
  go_ret
  exact⟨by first|rfl|(show Ending.returned (.bool _)=_;simp only[cL,aN,HB1.o,bb0];first|done|rfl)|(simp[cL,aN,HB1.o]<;>simp_all),K1.o⟩
theorem vS (w:World) (F:Nat→Prop) (v:Value) (n:Nd) (h:NAt w F v n) (ok:OkM n) (hE:bW w):
  Calls Tryz.prog 143 #[v] w fun x w'=>x= .returned (.bool (fL n))∧Kept (fun _=>False) w w':=by
 obtain⟨kk,nb,nm,al,ws,rs,ks,xa,xan,xac,xw,xwn,xwc,xr,xrn,xrc,xk,xkn,xkc,rfl,rfl,HN0,⟨H1,H2,H3,H4⟩,⟨HE1,HE2,HE3,HE4⟩,⟨HD1,HD2,HD3,HD4⟩,⟨q1,q2,q3,q4⟩,KA,PA⟩:=nin h
 obtain⟨HOK,O4,O5,O6,O7,O8,q1,q2,q3,q4⟩:=nok ok HE1 HE2 HE3 HE4
 have HE:=jd hE
 clear h ok hE
 show Calls Tryz.prog 143 #[.agg #[.int .i64 kk,.bool nb,.string (BA nm),.slice xa xan xac,.slice xw xwn xwc,.slice xr xrn xrc,.slice xk xkn xkc]] w fun x w'=>x= .returned (.bool (fL (Nd.mk kk nb nm al ws rs ks)))∧Kept (fun _=>False) w w'
 go_enter Tryz.func143,Tryz.ntmps143
 go_wp2_with fail
 refine(sD _ F _ true (HN0.o.kept KA.o (fun _ _ h=>h)) HOK.o (HE.o.au KA.o)).mono ?_
 rintro x w1 ⟨rfl,k1⟩
 have K1:=jd (KA.o.trans k1 (fun _ _ h=>h))
 have P1:=nbk k1 PA.o
 obtain⟨⟨x0_1,x1_1,x2_1,x3_1,x4_1,x5_1,x6_1⟩,-⟩:=NBx.cells P1
 clear k1
 obtain⟨B1,hB1⟩:∃B,bQ (Nd.mk kk nb nm al ws rs ks) true=B:=⟨_,rfl⟩
 have HB1:=jd hB1
 rw[hB1]
 clear hB1
 cases B1 with
 |true=>
  by_cases ck:xkn=2
  ·have fk1:((xkn:Int)==2)=true:=by apply beq_iff_eq.2;omega
   have gk1:decide (ks.length=2)=true:=Jc (by rw[←HE4.o];exact ck)
   clear ck
   go_wp2_with fail
   refine(Ev _ F _ (HN0.o.kept K1.o (fun _ _ h=>h))).mono ?_
   rintro x w2 ⟨rfl,k2⟩
   have K2:=jd (K1.o.trans k2 (fun _ _ h=>h))
   have P2:=nbk k2 P1
   obtain⟨⟨x0_2,x1_2,x2_2,x3_2,x4_2,x5_2,x6_2⟩,-⟩:=NBx.cells P2
   clear k2
   obtain⟨B2,hB2⟩:∃B,(!ks.any fun m=> !cj m)=B:=⟨_,rfl⟩
   have HB2:=jd hB2
   rw[hB2]
   clear hB2
   cases B2 with
   |true=>
    go_wp2_with fail
    go_ret
    exact⟨by first|rfl|(show Ending.returned (.bool _)=_;simp only[fL,aN,HB1.o,gk1,HB2.o,bb0];first|done|rfl)|(simp[fL,aN,HB1.o,gk1,HB2.o]<;>simp_all),K2.o⟩
   |false=>
    go_wp2_with fail
    go_ret
    exact⟨by first|rfl|(show Ending.returned (.bool _)=_;simp only[fL,aN,HB1.o,gk1,HB2.o,bb0];first|done|rfl)|(simp[fL,aN,HB1.o,gk1,HB2.o]<;>simp_all),K2.o⟩
  ·have fk1:((xkn:Int)==2)=false:=by apply Jq.2;omega
   have gk1:decide (ks.length=2)=false:=Jd (by rw[←HE4.o];exact ck)
   clear ck
   go_wp2_with fail
   go_ret
   exact⟨by first|rfl|(show Ending.returned (.bool _)=_;simp only[fL,aN,HB1.o,gk1,bb0];first|done|rfl)|(simp[fL,aN,HB1.o,gk1]<;>simp_all),K1.o⟩
 |false=>
  go_wp2_with fail
  go_ret
  exact⟨by first|rfl|(show Ending.returned (.bool _)=_;simp only[fL,aN,HB1.o,bb0];first|done|rfl)|(simp[fL,aN,HB1.o]<;>simp_all),K1.o⟩
theorem AZ (w:World) (F:Nat→Prop) (v:Value) (n:Nd) (h:NAt w F v n) (ok:OkM n) (hE:bW w):
  Calls Tryz.prog 145 #[v] w fun x w'=>x= .returned (.bool (eJ n))∧Kept (fun _=>False) w w':=by
 obtain⟨kk,nb,nm,al,ws,rs,ks,xa,xan,xac,xw,xwn,xwc,xr,xrn,xrc,xk,xkn,xkc,rfl,rfl,HN0,⟨H1,H2,H3,H4⟩,⟨HE1,HE2,HE3,HE4⟩,⟨HD1,HD2,HD3,HD4⟩,⟨q1,q2,q3,q4⟩,KA,PA⟩:=nin h
 obtain⟨HOK,O4,O5,O6,O7,O8,q1,q2,q3,q4⟩:=nok ok HE1 HE2 HE3 HE4
 have HE:=jd hE
 clear h ok hE
 show Calls Tryz.prog 145 #[.agg #[.int .i64 kk,.bool nb,.string (BA nm),.slice xa xan xac,.slice xw xwn xwc,.slice xr xrn xrc,.slice xk xkn xkc]] w fun x w'=>x= .returned (.bool (eJ (Nd.mk kk nb nm al ws rs ks)))∧Kept (fun _=>False) w w'
 go_enter Tryz.func145,Tryz.ntmps145
 go_wp2_with fail
 refine(sD _ F _ true (HN0.o.kept KA.o (fun _ _ h=>h)) HOK.o (HE.o.au KA.o)).mono ?_
 rintro x w1 ⟨rfl,k1⟩
 have K1:=jd (KA.o.trans k1 (fun _ _ h=>h))
 have P1:=nbk k1 PA.o
 obtain⟨⟨x0_1,x1_1,x2_1,x3_1,x4_1,x5_1,x6_1⟩,-⟩:=NBx.cells P1
 clear k1
 obtain⟨B1,hB1⟩:∃B,bQ (Nd.mk kk nb nm al ws rs ks) true=B:=⟨_,rfl⟩
 have HB1:=jd hB1
 rw[hB1]
 clear hB1
 cases B1 with
 |true=>
  by_cases ck:xkn=1
  ·have fk1:((xkn:Int)==1)=true:=by apply beq_iff_eq.2;omega
   have gk1:decide (ks.length=1)=true:=Jc (by rw[←HE4.o];exact ck)
   clear ck
   go_wp2_with fail
   refine(Ev _ F _ (HN0.o.kept K1.o (fun _ _ h=>h))).mono ?_
   rintro x w2 ⟨rfl,k2⟩
   have K2:=jd (K1.o.trans k2 (fun _ _ h=>h))
   have P2:=nbk k2 P1
   obtain⟨⟨x0_2,x1_2,x2_2,x3_2,x4_2,x5_2,x6_2⟩,-⟩:=NBx.cells P2
   clear k2
   obtain⟨B2,hB2⟩:∃B,(!ks.any fun m=> !cj m)=B:=⟨_,rfl⟩
   have HB2:=jd hB2
   rw[hB2]
   clear hB2
   cases B2 with
   |true=>
    go_wp2_with fail
    go_ret
    exact⟨by first|rfl|(show Ending.returned (.bool _)=_;simp only[eJ,aN,HB1.o,gk1,HB2.o,bb0];first|done|rfl)|(simp[eJ,aN,HB1.o,gk1,HB2.o]<;>simp_all),K2.o⟩
   |false=>
    go_wp2_with fail
    go_ret
    exact⟨by first|rfl|(show Ending.returned (.bool _)=_;simp only[eJ,aN,HB1.o,gk1,HB2.o,bb0];first|done|rfl)|(simp[eJ,aN,HB1.o,gk1,HB2.o]<;>simp_all),K2.o⟩
  ·have fk1:((xkn:Int)==1)=false:=by apply Jq.2;omega
   have gk1:decide (ks.length=1)=false:=Jd (by rw[←HE4.o];exact ck)
   clear ck
   go_wp2_with fail
   go_ret
   exact⟨by first|rfl|(show Ending.returned (.bool _)=_;simp only[eJ,aN,HB1.o,gk1,bb0];first|done|rfl)|(simp[eJ,aN,HB1.o,gk1]<;>simp_all),K1.o⟩
 |false=>
  go_wp2_with fail
  go_ret
  exact⟨by first|rfl|(show Ending.returned (.bool _)=_;simp only[eJ,aN,HB1.o,bb0];first|done|rfl)|(simp[eJ,aN,HB1.o]<;>simp_all),K1.o⟩
theorem Gi {w:World} (s:LB) (hs:s.length≤1000000):Calls Tryz.prog 105 #[.string (BA s)] w fun x w'=>x= .returned (.bool (dh s))∧Kept (fun _=>False) w w':=
 (gA w s hs).mono fun x w' h=>⟨h.1,by rw[h.2];exact Ja _ _⟩
theorem DZ (w:World) (F:Nat→Prop) (v:Value) (n:Nd) (h:NAt w F v n) (ok:OkM n) (hE:bW w):
  Calls Tryz.prog 144 #[v] w fun x w'=>x= .returned (.bool (ef n))∧Kept (fun _=>False) w w':=by
 obtain⟨kk,nb,nm,al,ws,rs,ks,xa,xan,xac,xw,xwn,xwc,xr,xrn,xrc,xk,xkn,xkc,rfl,rfl,HN0,⟨H1,H2,H3,H4⟩,⟨HE1,HE2,HE3,HE4⟩,⟨HD1,HD2,HD3,HD4⟩,⟨q1,q2,q3,q4⟩,KA,PA⟩:=nin h
 obtain⟨HOK,O4,O5,O6,O7,O8,q1,q2,q3,q4⟩:=nok ok HE1 HE2 HE3 HE4
 have HE:=jd hE
 clear h ok hE
 show Calls Tryz.prog 144 #[.agg #[.int .i64 kk,.bool nb,.string (BA nm),.slice xa xan xac,.slice xw xwn xwc,.slice xr xrn xrc,.slice xk xkn xkc]] w fun x w'=>x= .returned (.bool (ef (Nd.mk kk nb nm al ws rs ks)))∧Kept (fun _=>False) w w'
 go_enter Tryz.func144,Tryz.ntmps144
 cases nb with
 |true=>
  go_wp2_with fail
  go_ret
  exact⟨by first|rfl|(show Ending.returned (.bool _)=_;simp only[ef,aN,bb0];first|done|rfl)|(simp[ef,aN]<;>simp_all),KA.o⟩
 |false=>
  by_cases ca:xan=0
  ·have fa1:((xan:Int)==0)=true:=by apply beq_iff_eq.2;omega
   have ga1:al.isEmpty=true:=by rw[HD1.o];exact Jc ca
   clear ca
   go_wp2_with fail
   refine(Gi nm (lt9 O5.o (by decide))).mono ?_
   rintro x w1 ⟨rfl,k1⟩
   have K1:=jd (KA.o.trans k1 (fun _ _ h=>h))
   have P1:=nbk k1 PA.o
   obtain⟨⟨x0_1,x1_1,x2_1,x3_1,x4_1,x5_1,x6_1⟩,-⟩:=NBx.cells P1
   clear k1
   obtain⟨B1,hB1⟩:∃B,dh nm=B:=⟨_,rfl⟩
   have HB1:=jd hB1
   rw[hB1]
   clear hB1
   cases B1 with
   |true=>
    go_wp2_with fail
    refine(Aj _ F _ ws (H2.o.kept K1.o (fun _ _ h=>h)) O7.o (HE.o.word.au K1.o)).mono ?_
    rintro x w2 ⟨rfl,k2⟩
    have K2:=jd (K1.o.trans k2 (fun _ _ h=>h))
    have P2:=nbk k2 P1
    obtain⟨⟨x0_2,x1_2,x2_2,x3_2,x4_2,x5_2,x6_2⟩,-⟩:=NBx.cells P2
    clear k2
    obtain⟨B2,hB2⟩:∃B,kJ ws=B:=⟨_,rfl⟩
    have HB2:=jd hB2
    rw[hB2]
    clear hB2
    cases B2 with
    |true=>
     go_wp2_with fail
     refine(FP _ F _ (HN0.o.kept K2.o (fun _ _ h=>h)) HOK.o (HE.o.au K2.o)).mono ?_
     rintro x w3 ⟨rfl,k3⟩
     have K3:=jd (K2.o.trans k3 (fun _ _ h=>h))
     have P3:=nbk k3 P2
     obtain⟨⟨x0_3,x1_3,x2_3,x3_3,x4_3,x5_3,x6_3⟩,-⟩:=NBx.cells P3
     clear k3
     obtain⟨B3,hB3⟩:∃B,gU rs=B:=⟨_,rfl⟩
     have HB3:=jd hB3
     rw[hB3]
     clear hB3
     cases B3 with
     |true=>
      by_cases ck:xkn=1
      ·have fk1:((xkn:Int)==1)=true:=by apply beq_iff_eq.2;omega
       have gk1:decide (ks.length=1)=true:=Jc (by rw[←HE4.o];exact ck)
       clear ck
       go_wp2_with fail
       refine(Ev _ F _ (HN0.o.kept K3.o (fun _ _ h=>h))).mono ?_
       rintro x w4 ⟨rfl,k4⟩
       have K4:=jd (K3.o.trans k4 (fun _ _ h=>h))
       have P4:=nbk k4 P3
       obtain⟨⟨x0_4,x1_4,x2_4,x3_4,x4_4,x5_4,x6_4⟩,-⟩:=NBx.cells P4
       clear k4
       obtain⟨B4,hB4⟩:∃B,(!ks.any fun m=> !cj m)=B:=⟨_,rfl⟩
       have HB4:=jd hB4
       rw[hB4]
       clear hB4
       cases B4 with
       |true=>
        go_wp2_with fail
        go_ret
        exact⟨by first|rfl|(show Ending.returned (.bool _)=_;simp only[ef,aN,ga1,HB1.o,HB2.o,HB3.o,gk1,HB4.o,bb0];first|done|rfl)|(simp[ef,aN,ga1,HB1.o,HB2.o,HB3.o,gk1,HB4.o]<;>simp_all),K4.o⟩
       |false=>
        go_wp2_with fail
        go_ret
        exact⟨by first|rfl|(show Ending.returned (.bool _)=_;simp only[ef,aN,ga1,HB1.o,HB2.o,HB3.o,gk1,HB4.o,bb0];first|done|rfl)|(simp[ef,aN,ga1,HB1.o,HB2.o,HB3.o,gk1,HB4.o]<;>simp_all),K4.o⟩
      ·have fk1:((xkn:Int)==1)=false:=by apply Jq.2;omega
       have gk1:decide (ks.length=1)=false:=Jd (by rw[←HE4.o];exact ck)
       clear ck
       go_wp2_with fail
       go_ret
       exact⟨by first|rfl|(show Ending.returned (.bool _)=_;simp only[ef,aN,ga1,HB1.o,HB2.o,HB3.o,gk1,bb0];first|done|rfl)|(simp[ef,aN,ga1,HB1.o,HB2.o,HB3.o,gk1]<;>simp_all),K3.o⟩
     |false=>
      go_wp2_with fail
      go_ret
      exact⟨by first|rfl|(show Ending.returned (.bool _)=_;simp only[ef,aN,ga1,HB1.o,HB2.o,HB3.o,bb0];first|done|rfl)|(simp[ef,aN,ga1,HB1.o,HB2.o,HB3.o]<;>simp_all),K3.o⟩
    |false=>
     go_wp2_with fail
     go_ret
     exact⟨by first|rfl|(show Ending.returned (.bool _)=_;simp only[ef,aN,ga1,HB1.o,HB2.o,bb0];first|done|rfl)|(simp[ef,aN,ga1,HB1.o,HB2.o]<;>simp_all),K2.o⟩
   |false=>
    go_wp2_with fail
    go_ret
    exact⟨by first|rfl|(show Ending.returned (.bool _)=_;simp only[ef,aN,ga1,HB1.o,bb0];first|done|rfl)|(simp[ef,aN,ga1,HB1.o]<;>simp_all),K1.o⟩
  ·have fa1:((xan:Int)==0)=false:=by apply Jq.2;omega
   have ga1:al.isEmpty=false:=by rw[HD1.o];exact Jd ca
   clear ca
   go_wp2_with fail
   go_ret
   exact⟨by first|rfl|(show Ending.returned (.bool _)=_;simp only[ef,aN,ga1,bb0];first|done|rfl)|(simp[ef,aN,ga1]<;>simp_all),KA.o⟩
