/- Of the proof of ParseKnown: NodeV. -/
import Derived.Test.YtgigdlhcjahejaaGreatDoorC19
namespace Go.Proofs.YtgigdlhcjahejaaGreatDoor
open Go Go.RowKit Go.Lw
set_option maxRecDepth 100000
set_option linter.unusedVariables false
set_option linter.unusedSimpArgs false
attribute [local go_sem] aq
set_option maxHeartbeats 8000000 in
theorem nF (w:World) (F:Nat→Prop) (v:Value) (n:Nd) (h:NAt w F v n) (ok:OkM n) (hE:bu w):
  Calls Tryz.prog 140 #[v] w fun x w'=>x= .returned (.bool (cu n))∧Kept (fun _=>False) w w':=by
 obtain⟨kk,nb,nm,al,ws,rs,ks,xa,xan,xac,xw,xwn,xwc,xr,xrn,xrc,xk,xkn,xkc,rfl,rfl,HN0,⟨H1,H2,H3,H4⟩,⟨HE1,HE2,HE3,HE4⟩,⟨HD1,HD2,HD3,HD4⟩,⟨q1,q2,q3,q4⟩,KA,PA⟩:=nin h
 obtain⟨HOK,O4,O5,O6,O7,O8,q1,q2,q3,q4⟩:=nok ok HE1 HE2 HE3 HE4
 have HE:=jd hE
 clear h ok hE
 show Calls Tryz.prog 140 #[.agg #[.int .i64 kk,.bool nb,.string (BA nm),.slice xa xan xac,.slice xw xwn xwc,.slice xr xrn xrc,.slice xk xkn xkc]] w fun x w'=>x= .returned (.bool (cu (Nd.mk kk nb nm al ws rs ks)))∧Kept (fun _=>False) w w'
 go_enter Tryz.func140,Tryz.ntmps140
 go_wp2_with fail
 refine(pE _ F _ false (HN0.o.kept KA.o (fun _ _ h=>h)) HOK.o (HE.o.af KA.o)).mono ?_
 rintro x w1 ⟨rfl,k1⟩
 have K1:=jd (KA.o.trans k1 (fun _ _ h=>h))
 have P1:=nbk k1 PA.o
 obtain⟨⟨x0_1,x1_1,x2_1,x3_1,x4_1,x5_1,x6_1⟩,-⟩:=NBx.cells P1
 clear k1
 obtain⟨B1,hB1⟩:∃B,bN (Nd.mk kk nb nm al ws rs ks) false=B:=⟨_,rfl⟩
 have HB1:=jd hB1
 rw[hB1]
 clear hB1
 cases B1 with
 |true=>
  by_cases ck:xkn=2
  ·have fk1:((xkn:Int)==2)=true:=by apply beq_iff_eq.2;omega
   have hk2:ks.length=2:=by rw[←HE4.o];exact ck
   obtain⟨ka,kb,rfl⟩:∃a b,ks=[a,b]:=by match ks,hk2 with|[a,b],_=>exact⟨a,b,rfl⟩
   have hka:=bW.elem (H4.o.kept K1.o (fun _ _ h=>h)) (k:=0) (n:=ka) rfl
   have hkb:=bW.elem (H4.o.kept K1.o (fun _ _ h=>h)) (k:=1) (n:=kb) rfl
   obtain⟨b1,o1,_,_,_,_,_,_,_,_,_,_,_,_,e1,p0,_⟩:=hka
   obtain⟨b2,o2,_,_,_,_,_,_,_,_,_,_,_,_,e2,q0,_⟩:=hkb
   obtain⟨rfl,rfl⟩:b2=b1∧o2=o1:=by rw[e1] at e2;cases e2;exact⟨rfl,rfl⟩
   subst e1
   clear e2
   simp only[Nat.zero_mul,Nat.one_mul,Nat.add_zero] at p0 q0
   obtain⟨ak,ab,as_,aa,aw,ar,akk⟩:=ka
   obtain⟨bk,bb,bs_,ba,bw,br,bkk⟩:=kb
   simp only[Nd.kind] at p0 q0
   have gJ:mD [.mk ak ab as_ aa aw ar akk,.mk bk bb bs_ ba bw br bkk]=(ak !=5&&bk !=5&&bk !=3&&bk !=4):=rfl
   have hxk:xkn≤2:=by omega
   have hxk2:2≤xkn:=by omega
   clear ck
   by_cases ck1:ak=5
   ·have gk1:(ak==5)=true:=by simpa using ck1
    have gk1b:(ak !=5)=false:=by simpa using ck1
    clear ck1
    go_wp2_with fail
    go_ret
    exact⟨by first|rfl|(show Ending.returned (.bool _)=Ending.returned (.bool _);simp only[cu,HB1.o,gJ,gk1,gk1b,bb0];first|done|rfl)|(simp[cu,HB1.o,gJ,gk1,gk1b]<;>simp_all),K1.o⟩
   ·have gk1:(ak==5)=false:=by simpa using ck1
    have gk1b:(ak !=5)=true:=by simpa using ck1
    clear ck1
    by_cases ck2:bk=5
    ·have gk2:(bk==5)=true:=by simpa using ck2
     have gk2b:(bk !=5)=false:=by simpa using ck2
     clear ck2
     go_wp2_with fail
     go_ret
     exact⟨by first|rfl|(show Ending.returned (.bool _)=Ending.returned (.bool _);simp only[cu,HB1.o,gJ,gk1,gk1b,gk2,gk2b,bb0];first|done|rfl)|(simp[cu,HB1.o,gJ,gk1,gk1b,gk2,gk2b]<;>simp_all),K1.o⟩
    ·have gk2:(bk==5)=false:=by simpa using ck2
     have gk2b:(bk !=5)=true:=by simpa using ck2
     clear ck2
     by_cases ck3:bk=3
     ·have gk3:(bk==3)=true:=by simpa using ck3
      have gk3b:(bk !=3)=false:=by simpa using ck3
      clear ck3
      go_wp2_with fail
      go_ret
      exact⟨by first|rfl|(show Ending.returned (.bool _)=Ending.returned (.bool _);simp only[cu,HB1.o,gJ,gk1,gk1b,gk2,gk2b,gk3,gk3b,bb0];first|done|rfl)|(simp[cu,HB1.o,gJ,gk1,gk1b,gk2,gk2b,gk3,gk3b]<;>simp_all),K1.o⟩
     ·have gk3:(bk==3)=false:=by simpa using ck3
      have gk3b:(bk !=3)=true:=by simpa using ck3
      clear ck3
      by_cases ck4:bk=4
      ·have gk4:(bk==4)=true:=by simpa using ck4
       have gk4b:(bk !=4)=false:=by simpa using ck4
       clear ck4
       go_wp2_with fail
       go_ret
       exact⟨by first|rfl|(show Ending.returned (.bool _)=Ending.returned (.bool _);simp only[cu,HB1.o,gJ,gk1,gk1b,gk2,gk2b,gk3,gk3b,gk4,gk4b,bb0];first|done|rfl)|(simp[cu,HB1.o,gJ,gk1,gk1b,gk2,gk2b,gk3,gk3b,gk4,gk4b]<;>simp_all),K1.o⟩
      ·have gk4:(bk==4)=false:=by simpa using ck4
       have gk4b:(bk !=4)=true:=by simpa using ck4
       clear ck4
       go_wp2_with fail
       go_ret
       exact⟨by first|rfl|(show Ending.returned (.bool _)=Ending.returned (.bool _);simp only[cu,HB1.o,gJ,gk1,gk1b,gk2,gk2b,gk3,gk3b,gk4,gk4b,bb0];first|done|rfl)|(simp[cu,HB1.o,gJ,gk1,gk1b,gk2,gk2b,gk3,gk3b,gk4,gk4b]<;>simp_all),K1.o⟩
  ·have fk1:((xkn:Int)==2)=false:=by apply beq_eq_false_iff_ne.2;omega
   have gj:mD ks=false:=by unfold mD;split;(·exact absurd HE4.o ck);(·rfl)
   clear ck
   go_wp2_with fail
   go_ret
   exact⟨by first|rfl|(show Ending.returned (.bool _)=Ending.returned (.bool _);simp only[cu,HB1.o,gj,bb0];first|done|rfl)|(simp[cu,HB1.o,gj]<;>simp_all),K1.o⟩
 |false=>
  go_wp2_with fail
  go_ret
  exact⟨by first|rfl|(show Ending.returned (.bool _)=Ending.returned (.bool _);simp only[cu,HB1.o,bb0];first|done|rfl)|(simp[cu,HB1.o]<;>simp_all),K1.o⟩
set_option maxHeartbeats 8000000 in
theorem xG (w:World) (F:Nat→Prop) (v:Value) (n:Nd) (h:NAt w F v n) (ok:OkM n) (hE:bu w):
  Calls Tryz.prog 139 #[v] w fun x w'=>x= .returned (.bool (oP n))∧Kept (fun _=>False) w w':=by
 obtain⟨kk,nb,nm,al,ws,rs,ks,xa,xan,xac,xw,xwn,xwc,xr,xrn,xrc,xk,xkn,xkc,rfl,rfl,HN0,⟨H1,H2,H3,H4⟩,⟨HE1,HE2,HE3,HE4⟩,⟨HD1,HD2,HD3,HD4⟩,⟨q1,q2,q3,q4⟩,KA,PA⟩:=nin h
 obtain⟨HOK,O4,O5,O6,O7,O8,q1,q2,q3,q4⟩:=nok ok HE1 HE2 HE3 HE4
 have HE:=jd hE
 clear h ok hE
 show Calls Tryz.prog 139 #[.agg #[.int .i64 kk,.bool nb,.string (BA nm),.slice xa xan xac,.slice xw xwn xwc,.slice xr xrn xrc,.slice xk xkn xkc]] w fun x w'=>x= .returned (.bool (oP (Nd.mk kk nb nm al ws rs ks)))∧Kept (fun _=>False) w w'
 have HNF:Hid (NAt w F (nv (.mk kk false nm al ws rs ks) (.slice xa xan xac) (.slice xw xwn xwc) (.slice xr xrn xrc) (.slice xk xkn xkc)) (.mk kk false nm al ws rs ks)):=jd (NAt.shut (n:= .mk kk false nm al ws rs ks) H1.o H2.o H3.o H4.o)
 have HOF:Hid (OkM (.mk kk false nm al ws rs ks)):=jd ⟨HOK.o.la,HOK.o.lw,HOK.o.lr,HOK.o.lk,HOK.o.ln,HOK.o.ta,HOK.o.tw,HOK.o.tr⟩
 have KS:Hid (Kept (fun _=>False) w (w.alloc (.cells #[.int .i64 kk,.bool false,.string (BA nm),.slice xa xan xac,.slice xw xwn xwc,.slice xr xrn xrc,.slice xk xkn xkc] 27))):=jd ((Kept.refl _ w).alloc _)
 have PS:NBx (w.alloc (.cells #[.int .i64 kk,.bool false,.string (BA nm),.slice xa xan xac,.slice xw xwn xwc,.slice xr xrn xrc,.slice xk xkn xkc] 27)) w.heap.size #[.int .i64 kk,.bool false,.string (BA nm),.slice xa xan xac,.slice xw xwn xwc,.slice xr xrn xrc,.slice xk xkn xkc]:=heap_alloc w _
 have HPS:=jd PS
 clear PS
 obtain⟨B1,hB1⟩:∃B,bN (Nd.mk kk false nm al ws rs ks) false=B:=⟨_,rfl⟩
 have HBR:=jd (fun wx (kx:Kept (fun _=>False) w wx)=>pE wx F _ false (HNF.o.kept kx (fun _ _ h=>h)) HOF.o (HE.o.af kx))
 rw[hB1] at HBR
 have HPB:Hid (oP (.mk kk nb nm al ws rs ks)=(B1&&(decide (1<ks.length)||nb&&decide (ks.length=1))&& !ks.any fun m=> !cS m.kind)):=jd (by
  show(bN (Nd.mk kk false nm al ws rs ks) false&&(decide (1<ks.length)||nb&&decide (ks.length=1))&& !ks.any fun m=> !cS m.kind)=_
  rw[hB1])
 clear hB1
 go_enter Tryz.func139,Tryz.ntmps139
 go_wp2_with fail
 refine(HBR.o _ KS.o).mono ?_
 rintro x w1 ⟨rfl,k1⟩
 have K1:=jd (KS.o.trans k1 (fun _ _ h=>h))
 have P1:NBx w1 w.heap.size #[.int .i64 kk,.bool false,.string (BA nm),.slice xa xan xac,.slice xw xwn xwc,.slice xr xrn xrc,.slice xk xkn xkc]:=k1.heap HPS.o (fun h=>h)
 obtain⟨⟨x0_1,x1_1,x2_1,x3_1,x4_1,x5_1,x6_1⟩,-⟩:=NBx.cells P1
 clear k1
 cases B1 with
 |false=>
  go_wp2_with fail
  go_ret
  exact⟨by rw[HPB.o];simp,K1.o⟩
 |true=>
  by_cases ck:1<xkn
  ·have fk1:decide ((xkn:Int)>1)=true:=decide_eq_true (by omega)
   have fk2:decide (1<xkn)=true:=decide_eq_true ck
   have gk:1<ks.length:=by rw[←HE4.o];exact ck
   clear ck
   go_wp2_with fail
   refine(oU _ F _ ks (H4.o.kept K1.o (fun _ _ h=>h))).mono ?_
   rintro x w2 ⟨rfl,k2⟩
   have K2:=jd (K1.o.trans k2 (fun _ _ h=>h))
   clear k2
   go_wp2_with fail
   go_ret
   exact⟨by rw[HPB.o];simp[gk],K2.o⟩
  ·have fk1:decide ((xkn:Int)>1)=false:=decide_eq_false (by omega)
   have fk2:decide (1<xkn)=false:=decide_eq_false ck
   have gk:decide (1<ks.length)=false:=decide_eq_false (by rw[←HE4.o];exact ck)
   cases nb with
   |false=>
    clear ck
    go_wp2_with fail
    go_ret
    exact⟨by rw[HPB.o,gk];simp,K1.o⟩
   |true=>
    by_cases c1:xkn=1
    ·have fk3:((xkn:Int)==1)=true:=by apply beq_iff_eq.2;omega
     have gk3:ks.length=1:=by rw[←HE4.o];exact c1
     clear ck c1
     go_wp2_with fail
     refine(oU _ F _ ks (H4.o.kept K1.o (fun _ _ h=>h))).mono ?_
     rintro x w2 ⟨rfl,k2⟩
     have K2:=jd (K1.o.trans k2 (fun _ _ h=>h))
     clear k2
     go_wp2_with fail
     go_ret
     exact⟨by rw[HPB.o];simp[gk3],K2.o⟩
    ·have fk3:((xkn:Int)==1)=false:=by apply beq_eq_false_iff_ne.2;omega
     have gk3:decide (ks.length=1)=false:=decide_eq_false (by rw[←HE4.o];exact c1)
     clear ck c1
     go_wp2_with fail
     go_ret
     exact⟨by rw[HPB.o,gk,gk3];simp,K1.o⟩
set_option maxHeartbeats 8000000 in
theorem sB (w:World) (F:Nat→Prop) (v:Value) (n:Nd) (h:NAt w F v n) (ok:OkM n) (hE:bu w):
  Calls Tryz.prog 138 #[v] w fun x w'=>x= .returned (.bool (bZ n))∧Kept (fun _=>False) w w':=by
 obtain⟨kk,nb,nm,al,ws,rs,ks,xa,xan,xac,xw,xwn,xwc,xr,xrn,xrc,xk,xkn,xkc,rfl,rfl,HN0,⟨H1,H2,H3,H4⟩,⟨HE1,HE2,HE3,HE4⟩,⟨HD1,HD2,HD3,HD4⟩,⟨q1,q2,q3,q4⟩,KA,PA⟩:=nin h
 obtain⟨HOK,O4,O5,O6,O7,O8,q1,q2,q3,q4⟩:=nok ok HE1 HE2 HE3 HE4
 have HE:=jd hE
 clear h ok hE
 show Calls Tryz.prog 138 #[.agg #[.int .i64 kk,.bool nb,.string (BA nm),.slice xa xan xac,.slice xw xwn xwc,.slice xr xrn xrc,.slice xk xkn xkc]] w fun x w'=>x= .returned (.bool (bZ (Nd.mk kk nb nm al ws rs ks)))∧Kept (fun _=>False) w w'
 go_enter Tryz.func138,Tryz.ntmps138
 cases nb with
 |true=>
  go_wp2_with fail
  go_ret
  exact⟨by first|rfl|(show Ending.returned (.bool _)=Ending.returned (.bool _);simp only[bZ,bb0];first|done|rfl)|(simp[bZ]<;>simp_all),KA.o⟩
 |false=>
  by_cases cn:nm=[]
  ·have gnm:nm.isEmpty=true:=by rw[cn];rfl
   have fn1:(BA nm==(⟨#[]⟩:ByteArray))=true:=by rw[cn];rfl
   have fn2:(nm==[])=true:=by rw[cn];rfl
   clear cn
   by_cases ck:xkn=0
   ·have f1:decide ((xkn:Int)>0)=false:=decide_eq_false (by omega)
    have f2:decide (0<xkn)=false:=decide_eq_false (by omega)
    have gk:ks.isEmpty=true:=by rw[HD4.o];exact decide_eq_true ck
    clear ck
    by_cases cs:xan=0∧xwn=0∧xrn=0
    ·have fs1:((xan:Int)+(xwn:Int)+(xrn:Int)==0)=true:=by apply beq_iff_eq.2;omega
     have gs1:(al.isEmpty&&ws.isEmpty&&rs.isEmpty)=true:=by rw[HD1.o,HD2.o,HD3.o,decide_eq_true cs.1,decide_eq_true cs.2.1,decide_eq_true cs.2.2];rfl
     clear cs
     go_wp2_with fail
     go_ret
     exact⟨by first|rfl|(show Ending.returned (.bool _)=Ending.returned (.bool _);simp only[bZ,gnm,gk,gs1,bb0];first|done|rfl)|(simp[bZ,gnm,gk,gs1]<;>simp_all),KA.o⟩
    ·have fs1:((xan:Int)+(xwn:Int)+(xrn:Int)==0)=false:=by apply beq_eq_false_iff_ne.2;omega
     have gs1:(al.isEmpty&&ws.isEmpty&&rs.isEmpty)=false:=by rw[HD1.o,HD2.o,HD3.o];by_cases hx:xan=0;(·by_cases hy:xwn=0;(·rw[decide_eq_false (fun e=>cs ⟨hx,hy,e⟩),Bool.and_false]);(·rw[decide_eq_false hy,Bool.and_false,Bool.false_and]));(·rw[decide_eq_false hx,Bool.false_and,Bool.false_and])
     clear cs
     go_wp2_with fail
     refine(zQ _ F _ al (H1.o.kept KA.o (fun _ _ h=>h)) O6.o (HE.o.word.af KA.o)).mono ?_
     rintro x w1 ⟨rfl,k1⟩
     have K1:=jd (KA.o.trans k1 (fun _ _ h=>h))
     have P1:=nbk k1 PA.o
     obtain⟨⟨x0_1,x1_1,x2_1,x3_1,x4_1,x5_1,x6_1⟩,-⟩:=NBx.cells P1
     clear k1
     obtain⟨B1,hB1⟩:∃B,al.any km=B:=⟨_,rfl⟩
     have HB1:=jd hB1
     rw[hB1]
     clear hB1
     cases B1 with
     |true=>
      go_wp2_with fail
      go_ret
      exact⟨by first|rfl|(show Ending.returned (.bool _)=Ending.returned (.bool _);simp only[bZ,gnm,gk,gs1,HB1.o,bb0];first|done|rfl)|(simp[bZ,gnm,gk,gs1,HB1.o]<;>simp_all),K1.o⟩
     |false=>
      go_wp2_with fail
      refine(um _ F _ ws (H2.o.kept K1.o (fun _ _ h=>h)) O7.o (HE.o.word.af K1.o)).mono ?_
      rintro x w2 ⟨rfl,k2⟩
      have K2:=jd (K1.o.trans k2 (fun _ _ h=>h))
      have P2:=nbk k2 P1
      obtain⟨⟨x0_2,x1_2,x2_2,x3_2,x4_2,x5_2,x6_2⟩,-⟩:=NBx.cells P2
      clear k2
      obtain⟨B2,hB2⟩:∃B,mz ws=B:=⟨_,rfl⟩
      have HB2:=jd hB2
      rw[hB2]
      clear hB2
      cases B2 with
      |true=>
       go_wp2_with fail
       refine(AM _ F _ (HN0.o.kept K2.o (fun _ _ h=>h)) HOK.o (HE.o.af K2.o)).mono ?_
       rintro x w3 ⟨rfl,k3⟩
       have K3:=jd (K2.o.trans k3 (fun _ _ h=>h))
       have P3:=nbk k3 P2
       obtain⟨⟨x0_3,x1_3,x2_3,x3_3,x4_3,x5_3,x6_3⟩,-⟩:=NBx.cells P3
       clear k3
       obtain⟨B3,hB3⟩:∃B,jO rs=B:=⟨_,rfl⟩
       have HB3:=jd hB3
       rw[hB3]
       clear hB3
       cases B3 with
       |true=>
        have HSB:Hid (bZ (.mk kk false nm al ws rs ks)=sL al ws):=jd (by simp only[bZ,gnm,gk,gs1,HB1.o,HB2.o,HB3.o,Bool.not_true,Bool.not_false,Bool.or_false,Bool.false_or,Bool.true_and,Bool.and_true,Bool.false_and,Bool.and_false])
        cases ws with
        |nil=>
         have hw0:((xwn:Int)==0)=true:=by rw[show xwn=0 from HE2.o];rfl
         go_wp2_with fail
         go_ret
         exact⟨by rw[HSB.o];rfl,K3.o⟩
        |cons w0 wl=>
         have hw0:((xwn:Int)==0)=false:=by
          have h:=HE2.o
          simp only[List.length_cons] at h
          apply beq_eq_false_iff_ne.2
          omega
         have hwp:0<xwn:=by have h:=HE2.o;simp only[List.length_cons] at h;omega
         have H2E:Hid (∃(b off:Nat) (oa:Option Addr) (on oc:Nat),xw=some ⟨b,off,none⟩∧WAt w F (.slice oa on oc) w0∧w.cell? ⟨b,off,none⟩=some (.slice oa on oc)):=jd (by
          obtain⟨b,off,oa,on,oc,e1,h1,h2,_⟩:=bh.elem (size:=1) (fun _=>rfl) (by decide) H2.o (k:=0) (x:=w0) rfl
          exact⟨b,off,oa,on,oc,e1,h1,by rw[Nat.zero_mul,Nat.add_zero] at h2;exact h2⟩)
         obtain⟨b1,o1,oa,on,oc,rfl,hwat,hwc⟩:=H2E.o
         have HWA:=jd hwat
         have hall:mz (w0::wl)=true:=by assumption
         have htx:(av w0).length≤1000000:=Nat.le_trans (yE hall w0 List.mem_cons_self) (by decide)
         have HTX:=jd htx
         clear hall
         have hwck:=K3.o.cell hwc (fun h=>h)
         clear hwc hwat htx H2E
         go_wp2_with fail
         refine(yo _ F _ w0 (HWA.o.kept K3.o (fun _ _ h=>h))).mono ?_
         rintro x w20 ⟨rfl,hw20⟩
         obtain rfl:=hw20.symm
         have HFI:Hid (sL al (w0::wl)=((bc (av w0)).isNone&& !((jt w0).isSome&&al.isEmpty&&fz ((jt w0).getD [])))):=jd rfl
         have HFT:=jd (fun wx (kx:Kept (fun _=>False) w wx)=>iB (w:=wx) (Nat.le_trans HTX.o (by decide)) (HWA.o.kept kx (fun _ _ h=>h)))
         have HAS:=jd (fun wx (kx:Kept (fun _=>False) w wx)=>mR wx (av w0) (HE.o.word.af kx) HTX.o)
         obtain⟨bo,hbo⟩:∃bo,jt w0=bo:=⟨_,rfl⟩
         have HBO:=jd hbo
         obtain⟨ao,hao⟩:∃ao,bc (av w0)=ao:=⟨_,rfl⟩
         have HAO:=jd hao
         unfold js
         rw[hbo]
         clear hbo hao
         cases bo with
         |none=>
          go_wp2_with fail
          refine(HFT.o _ K3.o).mono ?_
          rintro x w21 ⟨rfl,k21⟩
          have K21:=jd (K3.o.trans k21 (fun _ _ h=>h))
          have P21:NBx w21 w.heap.size _:=k21.heap (by exact P3) (fun h=>h)
          obtain⟨⟨-,-,-,y3,-,-,-⟩,-⟩:=NBx.cells P21
          clear k21
          go_wp2_with fail
          refine(HAS.o _ K21.o).mono ?_
          rintro x w22 ⟨hx,k22⟩
          have K22:=jd (K21.o.trans k22 (fun _ _ h=>h))
          have P22:NBx w22 w.heap.size _:=k22.heap P21 (fun h=>h)
          clear y3 k22
          obtain⟨⟨-,-,-,y3,-,-,-⟩,-⟩:=NBx.cells P22
          unfold dc at hx
          rw[HAO.o] at hx
          cases ao with
          |some a0=>
           obtain⟨va0,rfl,_⟩:=hx
           go_wp2_with fail
           go_ret
           exact⟨by rw[HSB.o,HFI.o,HAO.o,HBO.o];simp,K22.o⟩
          |none=>
           subst hx
           go_wp2_with fail
           go_ret
           exact⟨by rw[HSB.o,HFI.o,HAO.o,HBO.o];simp,K22.o⟩
         |some s0=>
          go_wp2_with fail
          refine(HFT.o _ K3.o).mono ?_
          rintro x w21 ⟨rfl,k21⟩
          have K21:=jd (K3.o.trans k21 (fun _ _ h=>h))
          have P21:NBx w21 w.heap.size _:=k21.heap (by exact P3) (fun h=>h)
          obtain⟨⟨-,-,-,y3,-,-,-⟩,-⟩:=NBx.cells P21
          clear k21
          go_wp2_with fail
          refine(HAS.o _ K21.o).mono ?_
          rintro x w22 ⟨hx,k22⟩
          have K22:=jd (K21.o.trans k22 (fun _ _ h=>h))
          have P22:NBx w22 w.heap.size _:=k22.heap P21 (fun h=>h)
          clear y3 k22
          obtain⟨⟨-,-,-,y3,-,-,-⟩,-⟩:=NBx.cells P22
          unfold dc at hx
          rw[HAO.o] at hx
          cases ao with
          |some a0=>
           obtain⟨va0,rfl,_⟩:=hx
           go_wp2_with fail
           go_ret
           exact⟨by rw[HSB.o,HFI.o,HAO.o,HBO.o];simp,K22.o⟩
          |none=>
           subst hx
           by_cases ca:xan=0
           ·have fa1:((xan:Int)==0)=true:=by apply beq_iff_eq.2;omega
            have ga1:al.isEmpty=true:=by rw[HD1.o];exact decide_eq_true ca
            clear ca
            go_wp2_with fail
            refine(nO w22 s0 (HE.o.af K22.o)).mono ?_
            rintro x w23 ⟨rfl,hw23⟩
            obtain rfl:=hw23.symm
            go_wp2_with fail
            go_ret
            exact⟨by rw[HSB.o,HFI.o,HAO.o,HBO.o];simp[ga1],K22.o⟩
           ·have fa1:((xan:Int)==0)=false:=by apply beq_eq_false_iff_ne.2;omega
            have ga1:al.isEmpty=false:=by rw[HD1.o];exact decide_eq_false ca
            clear ca
            go_wp2_with fail
            go_ret
            exact⟨by rw[HSB.o,HFI.o,HAO.o,HBO.o];simp[ga1],K22.o⟩
       |false=>
        go_wp2_with fail
        go_ret
        exact⟨by first|rfl|(show Ending.returned (.bool _)=Ending.returned (.bool _);simp only[bZ,gnm,gk,gs1,HB1.o,HB2.o,HB3.o,bb0];first|done|rfl)|(simp[bZ,gnm,gk,gs1,HB1.o,HB2.o,HB3.o]<;>simp_all),K3.o⟩
      |false=>
       go_wp2_with fail
       go_ret
       exact⟨by first|rfl|(show Ending.returned (.bool _)=Ending.returned (.bool _);simp only[bZ,gnm,gk,gs1,HB1.o,HB2.o,bb0];first|done|rfl)|(simp[bZ,gnm,gk,gs1,HB1.o,HB2.o]<;>simp_all),K2.o⟩
   ·have f1:decide ((xkn:Int)>0)=true:=decide_eq_true (by omega)
    have f2:decide (0<xkn)=true:=decide_eq_true (by omega)
    have gk:ks.isEmpty=false:=by rw[HD4.o];exact decide_eq_false ck
    clear ck
    go_wp2_with fail
    go_ret
    exact⟨by first|rfl|(show Ending.returned (.bool _)=Ending.returned (.bool _);simp only[bZ,gnm,gk,bb0];first|done|rfl)|(simp[bZ,gnm,gk]<;>simp_all),KA.o⟩
  ·have gnm:nm.isEmpty=false:=by cases nm with|nil=>exact absurd rfl cn|cons a b=>rfl
   have fn1:(BA nm==(⟨#[]⟩:ByteArray))=false:=by have:=a8 nm [];rw[show(⟨#[]⟩:ByteArray)=BA [] from rfl,this];simpa using cn
   have fn2:(nm==[])=false:=by simpa using cn
   clear cn
   go_wp2_with fail
   go_ret
   exact⟨by first|rfl|(show Ending.returned (.bool _)=Ending.returned (.bool _);simp only[bZ,gnm,bb0];first|done|rfl)|(simp[bZ,gnm]<;>simp_all),KA.o⟩
end Go.Proofs.YtgigdlhcjahejaaGreatDoor
