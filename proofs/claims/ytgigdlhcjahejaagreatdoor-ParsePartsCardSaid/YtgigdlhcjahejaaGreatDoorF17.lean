import Derived.Test.YtgigdlhcjahejaaGreatDoorF16
import Derived.Lib.MinMax
set_option linter.all false
set_option maxHeartbeats 400000000
namespace Go.Proofs.YtgigdlhcjahejaaGreatDoor
open Go Go.RowKit Go.Lw
set_option maxRecDepth 100000
attribute [local go_sem] aA
theorem rP (w:World) (F:Nat→Prop) (v:Value) (n:Nd) (h:NAt w F v n) (ok:OkM n) (hE:bW w):
  Calls Tryz.prog 140 #[v] w fun x w'=>x= .returned (.bool (cN n))∧Kept (fun _=>False) w w':=by
 obtain⟨kk,nb,nm,al,ws,rs,ks,xa,xan,xac,xw,xwn,xwc,xr,xrn,xrc,xk,xkn,xkc,rfl,rfl,HN0,⟨H1,H2,H3,H4⟩,⟨HE1,HE2,HE3,HE4⟩,⟨HD1,HD2,HD3,HD4⟩,⟨q1,q2,q3,q4⟩,KA,PA⟩:=nin h
 obtain⟨HOK,O4,O5,O6,O7,O8,q1,q2,q3,q4⟩:=nok ok HE1 HE2 HE3 HE4
 have HE:=jd hE
 clear h ok hE
 show Calls Tryz.prog 140 #[.agg #[.int .i64 kk,.bool nb,.string (BA nm),.slice xa xan xac,.slice xw xwn xwc,.slice xr xrn xrc,.slice xk xkn xkc]] w fun x w'=>x= .returned (.bool (cN (Nd.mk kk nb nm al ws rs ks)))∧Kept (fun _=>False) w w'
 go_enter Tryz.func140,Tryz.ntmps140
 go_wp2_with fail
 refine(sD _ F _ false (HN0.o.kept KA.o (fun _ _ h=>h)) HOK.o (HE.o.au KA.o)).mono ?_
 rintro x w1 ⟨rfl,k1⟩
 have K1:=jd (KA.o.trans k1 (fun _ _ h=>h))
 have P1:=nbk k1 PA.o
 obtain⟨⟨x0_1,x1_1,x2_1,x3_1,x4_1,x5_1,x6_1⟩,-⟩:=NBx.cells P1
 clear k1
 obtain⟨B1,hB1⟩:∃B,bQ (Nd.mk kk nb nm al ws rs ks) false=B:=⟨_,rfl⟩
 have HB1:=jd hB1
 rw[hB1]
 clear hB1
 cases B1 with
 |true=>
  by_cases ck:xkn=2
  ·have fk1:((xkn:Int)==2)=true:=by apply beq_iff_eq.2;omega
   have hk2:ks.length=2:=by rw[←HE4.o];exact ck
   obtain⟨ka,kb,rfl⟩:∃a b,ks=[a,b]:=by match ks,hk2 with|[a,b],_=>exact⟨a,b,rfl⟩
   have hka:=bJ.elem (H4.o.kept K1.o (fun _ _ h=>h)) (k:=0) (n:=ka) rfl
   have hkb:=bJ.elem (H4.o.kept K1.o (fun _ _ h=>h)) (k:=1) (n:=kb) rfl
   obtain⟨b1,o1,_,_,_,_,_,_,_,_,_,_,_,_,e1,p0,_⟩:=hka
   obtain⟨b2,o2,_,_,_,_,_,_,_,_,_,_,_,_,e2,q0,_⟩:=hkb
   obtain⟨rfl,rfl⟩:b2=b1∧o2=o1:=by rw[e1] at e2;cases e2;exact⟨rfl,rfl⟩
   subst e1
   clear e2
   simp only[Nat.zero_mul,Nat.one_mul,Nat.add_zero] at p0 q0
   obtain⟨ak,ab,as_,aa,aw,ar,akk⟩:=ka
   obtain⟨bk,bb,bs_,ba,bw,br,bkk⟩:=kb
   simp only[Nd.kind] at p0 q0
   have gJ:lF [.mk ak ab as_ aa aw ar akk,.mk bk bb bs_ ba bw br bkk]=(ak !=5&&bk !=5&&bk !=3&&bk !=4):=rfl
   have hxk:xkn≤2:=by omega
   have hxk2:2≤xkn:=by omega
   clear ck
   by_cases ck1:ak=5
   ·have gk1:(ak==5)=true:=by simpa using ck1
    have gk1b:(ak !=5)=false:=by simpa using ck1
    clear ck1
    go_wp2_with fail
    go_ret
    exact⟨by first|rfl|(show Ending.returned (.bool _)=_;simp only[cN,HB1.o,gJ,gk1,gk1b,bb0];first|done|rfl)|(simp[cN,HB1.o,gJ,gk1,gk1b]<;>simp_all),K1.o⟩
   ·have gk1:(ak==5)=false:=by simpa using ck1
    have gk1b:(ak !=5)=true:=by simpa using ck1
    clear ck1
    by_cases ck2:bk=5
    ·have gk2:(bk==5)=true:=by simpa using ck2
     have gk2b:(bk !=5)=false:=by simpa using ck2
     clear ck2
     go_wp2_with fail
     go_ret
     exact⟨by first|rfl|(show Ending.returned (.bool _)=_;simp only[cN,HB1.o,gJ,gk1,gk1b,gk2,gk2b,bb0];first|done|rfl)|(simp[cN,HB1.o,gJ,gk1,gk1b,gk2,gk2b]<;>simp_all),K1.o⟩
    ·have gk2:(bk==5)=false:=by simpa using ck2
     have gk2b:(bk !=5)=true:=by simpa using ck2
     clear ck2
     by_cases ck3:bk=3
     ·have gk3:(bk==3)=true:=by simpa using ck3
      have gk3b:(bk !=3)=false:=by simpa using ck3
      clear ck3
      go_wp2_with fail
      go_ret
      exact⟨by first|rfl|(show Ending.returned (.bool _)=_;simp only[cN,HB1.o,gJ,gk1,gk1b,gk2,gk2b,gk3,gk3b,bb0];first|done|rfl)|(simp[cN,HB1.o,gJ,gk1,gk1b,gk2,gk2b,gk3,gk3b]<;>simp_all),K1.o⟩
     ·have gk3:(bk==3)=false:=by simpa using ck3
      have gk3b:(bk !=3)=true:=by simpa using ck3
      clear ck3
      by_cases ck4:bk=4
      ·have gk4:(bk==4)=true:=by simpa using ck4
       have gk4b:(bk !=4)=false:=by simpa using ck4
       clear ck4
       go_wp2_with fail
       go_ret
       exact⟨by first|rfl|(show Ending.returned (.bool _)=_;simp only[cN,HB1.o,gJ,gk1,gk1b,gk2,gk2b,gk3,gk3b,gk4,gk4b,bb0];first|done|rfl)|(simp[cN,HB1.o,gJ,gk1,gk1b,gk2,gk2b,gk3,gk3b,gk4,gk4b]<;>simp_all),K1.o⟩
      ·have gk4:(bk==4)=false:=by simpa using ck4
       have gk4b:(bk !=4)=true:=by simpa using ck4
       clear ck4
       go_wp2_with fail
       go_ret
       exact⟨by first|rfl|(show Ending.returned (.bool _)=_;simp only[cN,HB1.o,gJ,gk1,gk1b,gk2,gk2b,gk3,gk3b,gk4,gk4b,bb0];first|done|rfl)|(simp[cN,HB1.o,gJ,gk1,gk1b,gk2,gk2b,gk3,gk3b,gk4,gk4b]<;>simp_all),K1.o⟩
  ·have fk1:((xkn:Int)==2)=false:=by apply Jq.2;omega
   have gj:lF ks=false:=by unfold lF;split;(·exact absurd HE4.o ck);(·rfl)
   clear ck
   go_wp2_with fail
   go_ret
   exact⟨by first|rfl|(show Ending.returned (.bool _)=_;simp only[cN,HB1.o,gj,bb0];first|done|rfl)|(simp[cN,HB1.o,gj]<;>simp_all),K1.o⟩
 |false=>
  go_wp2_with fail
  go_ret
  exact⟨by first|rfl|(show Ending.returned (.bool _)=_;simp only[cN,HB1.o,bb0];first|done|rfl)|(simp[cN,HB1.o]<;>simp_all),K1.o⟩
theorem Ci (w:World) (F:Nat→Prop) (v:Value) (n:Nd) (h:NAt w F v n) (ok:OkM n) (hE:bW w):
  Calls Tryz.prog 139 #[v] w fun x w'=>x= .returned (.bool (oU n))∧Kept (fun _=>False) w w':=by
 obtain⟨kk,nb,nm,al,ws,rs,ks,xa,xan,xac,xw,xwn,xwc,xr,xrn,xrc,xk,xkn,xkc,rfl,rfl,HN0,⟨H1,H2,H3,H4⟩,⟨HE1,HE2,HE3,HE4⟩,⟨HD1,HD2,HD3,HD4⟩,⟨q1,q2,q3,q4⟩,KA,PA⟩:=nin h
 obtain⟨HOK,O4,O5,O6,O7,O8,q1,q2,q3,q4⟩:=nok ok HE1 HE2 HE3 HE4
 have HE:=jd hE
 clear h ok hE
 show Calls Tryz.prog 139 #[.agg #[.int .i64 kk,.bool nb,.string (BA nm),.slice xa xan xac,.slice xw xwn xwc,.slice xr xrn xrc,.slice xk xkn xkc]] w fun x w'=>x= .returned (.bool (oU (Nd.mk kk nb nm al ws rs ks)))∧Kept (fun _=>False) w w'
 have HNF:Hid (NAt w F (nv (.mk kk false nm al ws rs ks) (.slice xa xan xac) (.slice xw xwn xwc) (.slice xr xrn xrc) (.slice xk xkn xkc)) (.mk kk false nm al ws rs ks)):=jd (NAt.shut (n:= .mk kk false nm al ws rs ks) H1.o H2.o H3.o H4.o)
 have HOF:Hid (OkM (.mk kk false nm al ws rs ks)):=jd ⟨HOK.o.la,HOK.o.lw,HOK.o.lr,HOK.o.lk,HOK.o.ln,HOK.o.ta,HOK.o.tw,HOK.o.tr⟩
 have KS:Hid (Kept (fun _=>False) w (w.alloc (.cells #[.int .i64 kk,.bool false,.string (BA nm),.slice xa xan xac,.slice xw xwn xwc,.slice xr xrn xrc,.slice xk xkn xkc] 27))):=jd ((Ja _ w).alloc _)
 have PS:NBx (w.alloc (.cells #[.int .i64 kk,.bool false,.string (BA nm),.slice xa xan xac,.slice xw xwn xwc,.slice xr xrn xrc,.slice xk xkn xkc] 27)) w.heap.size #[.int .i64 kk,.bool false,.string (BA nm),.slice xa xan xac,.slice xw xwn xwc,.slice xr xrn xrc,.slice xk xkn xkc]:=heap_alloc w _
 have HPS:=jd PS
 clear PS
 obtain⟨B1,hB1⟩:∃B,bQ (Nd.mk kk false nm al ws rs ks) false=B:=⟨_,rfl⟩
 have HBR:=jd (fun wx (kx:Kept (fun _=>False) w wx)=>sD wx F _ false (HNF.o.kept kx (fun _ _ h=>h)) HOF.o (HE.o.au kx))
 rw[hB1] at HBR
 have HPB:Hid (oU (.mk kk nb nm al ws rs ks)=(B1&&(decide (1<ks.length)||nb&&decide (ks.length=1))&& !ks.any fun m=> !dD m.kind)):=jd (by
  show(bQ (Nd.mk kk false nm al ws rs ks) false&&(decide (1<ks.length)||nb&&decide (ks.length=1))&& !ks.any fun m=> !dD m.kind)=_
  rw[hB1])
 clear hB1
 go_enter Tryz.func139,Tryz.ntmps139
 go_wp2_with fail
 refine(HBR.o _ KS.o).mono ?_
 rintro x w1 ⟨rfl,k1⟩
 have K1:=jd (KS.o.trans k1 (fun _ _ h=>h))
 have P1:NBx w1 w.heap.size #[.int .i64 kk,.bool false,.string (BA nm),.slice xa xan xac,.slice xw xwn xwc,.slice xr xrn xrc,.slice xk xkn xkc]:=k1.heap HPS.o (fun h=>h)
 obtain⟨⟨x0_1,x1_1,x2_1,x3_1,x4_1,x5_1,x6_1⟩,-⟩:=NBx.cells P1
 clear k1
 cases B1 with
 |false=>
  go_wp2_with fail
  go_ret
  exact⟨by rw[HPB.o];simp,K1.o⟩
 |true=>
  by_cases ck:1<xkn
  ·have fk1:decide ((xkn:Int)>1)=true:=Jc (by omega)
   have fk2:decide (1<xkn)=true:=Jc ck
   have gk:1<ks.length:=by rw[←HE4.o];exact ck
   clear ck
   go_wp2_with fail
   refine(si _ F _ ks (H4.o.kept K1.o (fun _ _ h=>h))).mono ?_
   rintro x w2 ⟨rfl,k2⟩
   have K2:=jd (K1.o.trans k2 (fun _ _ h=>h))
   clear k2
   go_wp2_with fail
   go_ret
   exact⟨by rw[HPB.o];simp[gk],K2.o⟩
  ·have fk1:decide ((xkn:Int)>1)=false:=Jd (by omega)
   have fk2:decide (1<xkn)=false:=Jd ck
   have gk:decide (1<ks.length)=false:=Jd (by rw[←HE4.o];exact ck)
   cases nb with
   |false=>
    clear ck
    go_wp2_with fail
    go_ret
    exact⟨by rw[HPB.o,gk];simp,K1.o⟩
   |true=>
    by_cases c1:xkn=1
    ·have fk3:((xkn:Int)==1)=true:=by apply beq_iff_eq.2;omega
     have gk3:ks.length=1:=by rw[←HE4.o];exact c1
     clear ck c1
     go_wp2_with fail
     refine(si _ F _ ks (H4.o.kept K1.o (fun _ _ h=>h))).mono ?_
     rintro x w2 ⟨rfl,k2⟩
     have K2:=jd (K1.o.trans k2 (fun _ _ h=>h))
     clear k2
     go_wp2_with fail
     go_ret
     exact⟨by rw[HPB.o];simp[gk3],K2.o⟩
    ·have fk3:((xkn:Int)==1)=false:=by apply Jq.2;omega
     have gk3:decide (ks.length=1)=false:=Jd (by rw[←HE4.o];exact c1)
     clear ck c1
     go_wp2_with fail
     go_ret
     exact⟨by rw[HPB.o,gk,gk3];simp,K1.o⟩
theorem zl (w:World) (F:Nat→Prop) (v:Value) (n:Nd) (h:NAt w F v n) (ok:OkM n) (hE:bW w):
  Calls Tryz.prog 138 #[v] w fun x w'=>x= .returned (.bool (cA n))∧Kept (fun _=>False) w w':=by
 obtain⟨kk,nb,nm,al,ws,rs,ks,xa,xan,xac,xw,xwn,xwc,xr,xrn,xrc,xk,xkn,xkc,rfl,rfl,HN0,⟨H1,H2,H3,H4⟩,⟨HE1,HE2,HE3,HE4⟩,⟨HD1,HD2,HD3,HD4⟩,⟨q1,q2,q3,q4⟩,KA,PA⟩:=nin h
 obtain⟨HOK,O4,O5,O6,O7,O8,q1,q2,q3,q4⟩:=nok ok HE1 HE2 HE3 HE4
 have HE:=jd hE
 clear h ok hE
 show Calls Tryz.prog 138 #[.agg #[.int .i64 kk,.bool nb,.string (BA nm),.slice xa xan xac,.slice xw xwn xwc,.slice xr xrn xrc,.slice xk xkn xkc]] w fun x w'=>x= .returned (.bool (cA (Nd.mk kk nb nm al ws rs ks)))∧Kept (fun _=>False) w w'
 go_enter Tryz.func138,Tryz.ntmps138
 cases nb with
 |true=>
  go_wp2_with fail
  go_ret
  exact⟨by first|rfl|(show Ending.returned (.bool _)=_;simp only[cA,bb0];first|done|rfl)|(simp[cA]<;>simp_all),KA.o⟩
 |false=>
  by_cases cn:nm=[]
  ·have gnm:nm.isEmpty=true:=by rw[cn];rfl
   have fn1:(BA nm==(⟨#[]⟩:ByteArray))=true:=by rw[cn];rfl
   have fn2:(nm==[])=true:=by rw[cn];rfl
   clear cn
   by_cases ck:xkn=0
   ·have f1:decide ((xkn:Int)>0)=false:=Jd (by omega)
    have f2:decide (0<xkn)=false:=Jd (by omega)
    have gk:ks.isEmpty=true:=by rw[HD4.o];exact Jc ck
    clear ck
    by_cases cs:xan=0∧xwn=0∧xrn=0
    ·have fs1:((xan:Int)+(xwn:Int)+(xrn:Int)==0)=true:=by apply beq_iff_eq.2;omega
     have gs1:(al.isEmpty&&ws.isEmpty&&rs.isEmpty)=true:=by rw[HD1.o,HD2.o,HD3.o,Jc cs.1,Jc cs.2.1,Jc cs.2.2];rfl
     clear cs
     go_wp2_with fail
     go_ret
     exact⟨by first|rfl|(show Ending.returned (.bool _)=_;simp only[cA,gnm,gk,gs1,bb0];first|done|rfl)|(simp[cA,gnm,gk,gs1]<;>simp_all),KA.o⟩
    ·have fs1:((xan:Int)+(xwn:Int)+(xrn:Int)==0)=false:=by apply Jq.2;omega
     have gs1:(al.isEmpty&&ws.isEmpty&&rs.isEmpty)=false:=by rw[HD1.o,HD2.o,HD3.o];by_cases hx:xan=0;(·by_cases hy:xwn=0;(·rw[Jd (fun e=>cs ⟨hx,hy,e⟩),Bool.and_false]);(·rw[Jd hy,Bool.and_false,Bool.false_and]));(·rw[Jd hx,Bool.false_and,Bool.false_and])
     clear cs
     go_wp2_with fail
     refine(Et _ F _ al (H1.o.kept KA.o (fun _ _ h=>h)) O6.o (HE.o.word.au KA.o)).mono ?_
     rintro x w1 ⟨rfl,k1⟩
     have K1:=jd (KA.o.trans k1 (fun _ _ h=>h))
     have P1:=nbk k1 PA.o
     obtain⟨⟨x0_1,x1_1,x2_1,x3_1,x4_1,x5_1,x6_1⟩,-⟩:=NBx.cells P1
     clear k1
     obtain⟨B1,hB1⟩:∃B,al.any lQ=B:=⟨_,rfl⟩
     have HB1:=jd hB1
     rw[hB1]
     clear hB1
     cases B1 with
     |true=>
      go_wp2_with fail
      go_ret
      exact⟨by first|rfl|(show Ending.returned (.bool _)=_;simp only[cA,gnm,gk,gs1,HB1.o,bb0];first|done|rfl)|(simp[cA,gnm,gk,gs1,HB1.o]<;>simp_all),K1.o⟩
     |false=>
      go_wp2_with fail
      refine(Aj _ F _ ws (H2.o.kept K1.o (fun _ _ h=>h)) O7.o (HE.o.word.au K1.o)).mono ?_
      rintro x w2 ⟨rfl,k2⟩
      have K2:=jd (K1.o.trans k2 (fun _ _ h=>h))
      have P2:=nbk k2 P1
      obtain⟨⟨x0_2,x1_2,x2_2,x3_2,x4_2,x5_2,x6_2⟩,-⟩:=NBx.cells P2
      clear k2
      obtain⟨B2,hB2⟩:∃B,kJ ws=B:=⟨_,rfl⟩
      have HB2:=jd hB2
      rw[hB2]
      clear hB2
      cases B2 with
      |true=>
       go_wp2_with fail
       refine(FP _ F _ (HN0.o.kept K2.o (fun _ _ h=>h)) HOK.o (HE.o.au K2.o)).mono ?_
       rintro x w3 ⟨rfl,k3⟩
       have K3:=jd (K2.o.trans k3 (fun _ _ h=>h))
       have P3:=nbk k3 P2
       obtain⟨⟨x0_3,x1_3,x2_3,x3_3,x4_3,x5_3,x6_3⟩,-⟩:=NBx.cells P3
       clear k3
       obtain⟨B3,hB3⟩:∃B,gU rs=B:=⟨_,rfl⟩
       have HB3:=jd hB3
       rw[hB3]
       clear hB3
       cases B3 with
       |true=>
        have HSB:Hid (cA (.mk kk false nm al ws rs ks)=pW al ws):=jd (by simp only[cA,gnm,gk,gs1,HB1.o,HB2.o,HB3.o,Bool.not_true,Bool.not_false,Bool.or_false,Bool.false_or,Bool.true_and,Bool.and_true,Bool.false_and,Bool.and_false])
        cases ws with
        |nil=>
         have hw0:((xwn:Int)==0)=true:=by rw[show xwn=0 from HE2.o];rfl
         go_wp2_with fail
         go_ret
         exact⟨by rw[HSB.o];rfl,K3.o⟩
        |cons w0 wl=>
         have hw0:((xwn:Int)==0)=false:=by
          have h:=HE2.o
          simp only[Jg] at h
          apply Jq.2
          omega
         have hwp:0<xwn:=by have h:=HE2.o;simp only[Jg] at h;omega
         have H2E:Hid (∃(b off:Nat) (oa:Option Addr) (on oc:Nat),xw=some ⟨b,off,none⟩∧WAt w F (.slice oa on oc) w0∧w.cell? ⟨b,off,none⟩=some (.slice oa on oc)):=jd (by
          obtain⟨b,off,oa,on,oc,e1,h1,h2,_⟩:=bT.elem (size:=1) (fun _=>rfl) (by decide) H2.o (k:=0) (x:=w0) rfl
          exact⟨b,off,oa,on,oc,e1,h1,by rw[Nat.zero_mul,Nat.add_zero] at h2;exact h2⟩)
         obtain⟨b1,o1,oa,on,oc,rfl,hwat,hwc⟩:=H2E.o
         have HWA:=jd hwat
         have hall:kJ (w0::wl)=true:=by assumption
         have htx:(aC w0).length≤1000000:=lt9 (D2 hall w0 Jz) (by decide)
         have HTX:=jd htx
         clear hall
         have hwck:=K3.o.cell hwc (fun h=>h)
         clear hwc hwat htx H2E
         go_wp2_with fail
         refine(DQ _ F _ w0 (HWA.o.kept K3.o (fun _ _ h=>h))).mono ?_
         rintro x w20 ⟨rfl,hw20⟩
         obtain rfl:=hw20.symm
         have HFI:Hid (pW al (w0::wl)=((bE (aC w0)).isNone&& !((lU w0).isSome&&al.isEmpty&&gB ((lU w0).getD [])))):=jd rfl
         have HFT:=jd (fun wx (kx:Kept (fun _=>False) w wx)=>j7 (w:=wx) (lt9 HTX.o (by decide)) (HWA.o.kept kx (fun _ _ h=>h)))
         have HAS:=jd (fun wx (kx:Kept (fun _=>False) w wx)=>qn wx (aC w0) (HE.o.word.au kx) HTX.o)
         obtain⟨bo,hbo⟩:∃bo,lU w0=bo:=⟨_,rfl⟩
         have HBO:=jd hbo
         obtain⟨ao,hao⟩:∃ao,bE (aC w0)=ao:=⟨_,rfl⟩
         have HAO:=jd hao
         unfold lY
         rw[hbo]
         clear hbo hao
         cases bo with
         |none=>
          go_wp2_with fail
          refine(HFT.o _ K3.o).mono ?_
          rintro x w21 ⟨rfl,k21⟩
          have K21:=jd (K3.o.trans k21 (fun _ _ h=>h))
          have P21:NBx w21 w.heap.size _:=k21.heap (by exact P3) (fun h=>h)
          obtain⟨⟨-,-,-,y3,-,-,-⟩,-⟩:=NBx.cells P21
          clear k21
          go_wp2_with fail
          refine(HAS.o _ K21.o).mono ?_
          rintro x w22 ⟨hx,k22⟩
          have K22:=jd (K21.o.trans k22 (fun _ _ h=>h))
          have P22:NBx w22 w.heap.size _:=k22.heap P21 (fun h=>h)
          clear y3 k22
          obtain⟨⟨-,-,-,y3,-,-,-⟩,-⟩:=NBx.cells P22
          unfold ek at hx
          rw[HAO.o] at hx
          cases ao with
          |some a0=>
           obtain⟨va0,rfl,_⟩:=hx
           go_wp2_with fail
           go_ret
           exact⟨by rw[HSB.o,HFI.o,HAO.o,HBO.o];simp,K22.o⟩
          |none=>
           subst hx
           go_wp2_with fail
           go_ret
           exact⟨by rw[HSB.o,HFI.o,HAO.o,HBO.o];simp,K22.o⟩
         |some s0=>
          go_wp2_with fail
          refine(HFT.o _ K3.o).mono ?_
          rintro x w21 ⟨rfl,k21⟩
          have K21:=jd (K3.o.trans k21 (fun _ _ h=>h))
          have P21:NBx w21 w.heap.size _:=k21.heap (by exact P3) (fun h=>h)
          obtain⟨⟨-,-,-,y3,-,-,-⟩,-⟩:=NBx.cells P21
          clear k21
          go_wp2_with fail
          refine(HAS.o _ K21.o).mono ?_
          rintro x w22 ⟨hx,k22⟩
          have K22:=jd (K21.o.trans k22 (fun _ _ h=>h))
          have P22:NBx w22 w.heap.size _:=k22.heap P21 (fun h=>h)
          clear y3 k22
          obtain⟨⟨-,-,-,y3,-,-,-⟩,-⟩:=NBx.cells P22
          unfold ek at hx
          rw[HAO.o] at hx
          cases ao with
          |some a0=>
           obtain⟨va0,rfl,_⟩:=hx
           go_wp2_with fail
           go_ret
           exact⟨by rw[HSB.o,HFI.o,HAO.o,HBO.o];simp,K22.o⟩
          |none=>
           subst hx
           by_cases ca:xan=0
           ·have fa1:((xan:Int)==0)=true:=by apply beq_iff_eq.2;omega
            have ga1:al.isEmpty=true:=by rw[HD1.o];exact Jc ca
            clear ca
            go_wp2_with fail
            refine(rJ w22 s0 (HE.o.au K22.o)).mono ?_
            rintro x w23 ⟨rfl,hw23⟩
            obtain rfl:=hw23.symm
            go_wp2_with fail
            go_ret
            exact⟨by rw[HSB.o,HFI.o,HAO.o,HBO.o];simp[ga1],K22.o⟩
           ·have fa1:((xan:Int)==0)=false:=by apply Jq.2;omega
            have ga1:al.isEmpty=false:=by rw[HD1.o];exact Jd ca
            clear ca
            go_wp2_with fail
            go_ret
            exact⟨by rw[HSB.o,HFI.o,HAO.o,HBO.o];simp[ga1],K22.o⟩
       |false=>
        go_wp2_with fail
        go_ret
        exact⟨by first|rfl|(show Ending.returned (.bool _)=_;simp only[cA,gnm,gk,gs1,HB1.o,HB2.o,HB3.o,bb0];first|done|rfl)|(simp[cA,gnm,gk,gs1,HB1.o,HB2.o,HB3.o]<;>simp_all),K3.o⟩
      |false=>
       go_wp2_with fail
       go_ret
       exact⟨by first|rfl|(show Ending.returned (.bool _)=_;simp only[cA,gnm,gk,gs1,HB1.o,HB2.o,bb0];first|done|rfl)|(simp[cA,gnm,gk,gs1,HB1.o,HB2.o]<;>simp_all),K2.o⟩
   ·have f1:decide ((xkn:Int)>0)=true:=Jc (by omega)
    have f2:decide (0<xkn)=true:=Jc (by omega)
    have gk:ks.isEmpty=false:=by rw[HD4.o];exact Jd ck
    clear ck
    go_wp2_with fail
    go_ret
    exact⟨by first|rfl|(show Ending.returned (.bool _)=_;simp only[cA,gnm,gk,bb0];first|done|rfl)|(simp[cA,gnm,gk]<;>simp_all),KA.o⟩
  ·have gnm:nm.isEmpty=false:=by cases nm with|nil=>exact absurd rfl cn|cons a b=>rfl
   have fn1:(BA nm==(⟨#[]⟩:ByteArray))=false:=by have:=bU nm [];rw[show(⟨#[]⟩:ByteArray)=BA [] from rfl,this];simpa using cn
   have fn2:(nm==[])=false:=by simpa using cn
   clear cn
   go_wp2_with fail
   go_ret
   exact⟨by first|rfl|(show Ending.returned (.bool _)=_;simp only[cA,gnm,bb0];first|done|rfl)|(simp[cA,gnm]<;>simp_all),KA.o⟩
theorem ETx:fC Tryz.prog 81 9 1 16:=fC.of (z:= .string ⟨#[]⟩) Tryz.underlying81 (by kernel_rfl) rfl (by decide)
def sv (L:List LB):List Value:=L.map fun x=>.string (BA x)
structure Strs (w:World) (lo:Nat) (v:Value) (L:List LB):Prop where
 own:w.ownsRow 0 9 1 v L.length (sv L)
 blk:∀b,Go.Lw.blk v b→lo≤b
theorem Strs.nil (w:World) (lo:Nat):Strs w lo (.slice none 0 0) []:=⟨World.ownsRow_nil _ _ _ _,fun b hb=>(by cases hb)⟩
theorem Strs.kept {w w':World} {lo:Nat} {v:Value} {L:List LB} (h:Strs w lo v L) (k:Kept (fun _=>False) w w'):Strs w' lo v L:=⟨bH k h.own (fun _ _ e=>e),h.blk⟩
theorem Strs.add {w w8 w9:World} {lo:Nat} {v v':Value} {L:List LB} {x:LB} (h:Strs w lo v L) (hlo:lo≤w.heap.size) (k:Kept (fun _=>False) w w8)
  (ho:w9.ownsRow 0 9 1 v' (L.length+1) (sv L++[.string (BA x)])) (hg:w8.grownBy w9 v.ownBlock) (hf:fQ w8 v v'):Strs w9 lo v' (L++[x])∧Kept (Go.Lw.blk v) w w9:=by
 refine⟨⟨by rw[Jf];unfold sv;rw[List.map_append];exact ho,fun b hb=>?_⟩,(k.mono (fun _ _ h=>h.elim)).grown hg (fun k hk _=>hk)⟩
 rcases hf b hb with h'|h'
 ·exact h.blk b h'
 ·have:=k.size;omega
theorem Strs.cell {w:World} {lo:Nat} {g:Option Addr} {n c:Nat} {L:List LB} (h:Strs w lo (.slice g n c) L) {j:Nat} {x:LB} (hx:L[j]? =some x):∃b,g=some ⟨b,0,none⟩∧w.cell? ⟨b,j,none⟩=some (.string (BA x))∧b<w.heap.size:=by
 obtain⟨ad,cap,e,_,_,hs⟩:=bY h.own
 obtain⟨b,rfl⟩:=hs (by have:=(List.getElem?_eq_some_iff.1 hx).1;omega)
 cases e
 refine⟨b,rfl,?_,df h.own b rfl⟩
 obtain⟨_,a,cap',e,_,_,hc⟩:=Rd.own h.own
 cases e
 obtain⟨g',off,e2,h2⟩:=hc j (.string (BA x)) (by unfold sv;rw[List.getElem?_map,hx];rfl)
 cases e2
 rw[Nat.zero_add] at h2
 exact h2
theorem oi (sep:LB):∀L:List LB,Lib.join ((L.map fun x=>BA x).map (·.data.toList)) sep=bP sep L
 |[]=>rfl
 |[x]=>Lib.join_one x sep
 |x::y::l=>by
  have ih:=oi sep (y::l)
  show x++(sep++Lib.join (((y::l).map fun x=>BA x).map (·.data.toList)) sep)=_
  rw[ih]
  show _=x++sep++bP sep (y::l)
  rw[Jj]
theorem i6 (w:World) (lo:Nat) (v:Value) (L:List LB) (sep:LB) (h:Strs w lo v L) (hl:L.length≤1000000) (hj:(bP sep L).length≤1000000000):
  Calls Tryz.prog 53 #[v,.string (BA sep)] w fun x w'=>x= .returned (.string (BA (bP sep L)))∧Kept (fun _=>False) w w':=by
 obtain⟨ad,cap,rfl,hc1,_,hs⟩:=bY h.own
 cases L with
 |nil=>
  refine(Tryz.strings_Join_none ad cap (BA sep) w).mono ?_
  rintro x w4 ⟨rfl,rfl⟩
  exact⟨rfl,Ja _ _⟩
 |cons y l=>
  obtain⟨b,rfl⟩:=hs (by simp)
  have hb:=df h.own b rfl
  have hxl:((y::l).map fun x=>BA x).length=(y::l).length:=List.length_map ..
  have h2:=Tryz.strings_Join b 0 cap ((y::l).map fun x=>BA x) (BA sep) w (fun j x hx=>by
   rw[List.getElem?_map] at hx
   cases hy:(y::l)[j]? with
   |none=>rw[hy] at hx;cases hx
   |some z=>
    rw[hy] at hx;cases hx
    obtain⟨b',e,hc,_⟩:=h.cell hy
    cases e
    rw[Nat.zero_add];exact hc) hb (by rw[hxl];omega) (by rw[hxl];exact hc1) (by rw[ft,oi];omega)
  rw[hxl,ft,oi] at h2
  refine h2.mono ?_
  rintro x w4 ⟨rfl,hbl⟩
  exact⟨rfl,(Kept.CL hbl).mono (fun i hi h=>by omega)⟩
theorem nz:∀(l:List Nd) (k:Nat) (x:Nd),l[k]? =some x→af (l.take (k+1))=max (af (l.take k)) (aH x)
 |[],k,x,h=>by simp at h
 |y::l,0,x,h=>by
  simp at h;subst h
  have e0:aH.af []=0:=by rw[aH.af]
  show aH.af _=max (aH.af _) _
  rw[List.take_succ_cons,List.take_zero,List.take_zero,e0]
  show aH.af [y]=_
  rw[aH.af,e0]
  omega
 |y::l,k+1,x,h=>by
  have ih:=nz l k x (by simpa using h)
  have ih':aH.af (l.take (k+1))=max (aH.af (l.take k)) (aH x):=ih
  show aH.af _=max (aH.af _) _
  rw[List.take_succ_cons,List.take_succ_cons,aH.af,aH.af,ih']
  omega
theorem rj:∀(m:Nat) (n:Nd),szN n≤m→aH n≤szN n
 |0,n,h=>by have:=je n;omega
 |m+1,.mk k b s a w r l,h=>by
  have key:∀l:List Nd,dq l≤m→af l≤dq l:=by
   intro l
   induction l with
   |nil=>intro _;show aH.af []≤_;rw[aH.af];exact Ju _
   |cons x l ih=>
    intro hl
    have e:dq (x::l)=szN x+dq l:=by show szN.dq _=_;rw[szN.dq]
    have h1:=rj m x (by omega)
    have h2:=ih (by omega)
    have h3:aH.af l≤dq l:=h2
    show aH.af _≤_
    rw[aH.af,e]
    omega
  have e2:szN (.mk k b s a w r l)=1+dq l:=by rw[szN]
  rw[e2] at h⊢
  have:=key l (by omega)
  have h4:aH.af l≤dq l:=this
  rw[aH]
  split<;>omega
def DY (n:Nat):Prop:=n≤100000000→∀(w:World) (F:Nat→Prop) (v:Value) (nd:Nd),szN nd≤n→NAt w F v nd→
 Calls Tryz.prog 13 #[v] w fun x w'=>x= .returned (.int .i64 (aH nd:Int))∧Kept (fun _=>False) w w'
theorem Bb (n:Nat):DY n:=by
 induction n using Nat.strongRecOn with
 |ind n ih=>
  intro hn9 w F v nd hn h
  have hsk:=je nd
  have HS:Hid (DY (n -1)):=jd (ih (n -1) (by omega))
  have HSZ:Hid (dq nd.kids≤n -1):=jd (by omega)
  have HN0:=jd h
  obtain⟨xa,xan,xac,xw,xwn,xwc,xr,xrn,xrc,xk,xkn,xkc,rfl,h1,h2,h3,h4⟩:=h.opens
  obtain⟨kk,nb,nm,al,ws,rs,ks⟩:=nd
  simp only[Nd.kind,Nd.neg,Nd.name,Nd.al,Nd.ws,Nd.rs,Nd.kids,nv] at h1 h2 h3 h4 HSZ
  have E4:=h4.len
  have hm4:=h4.max
  have q4:xkn≤9223372036854775807:=by omega
  have H4:=jd h4;have HE4:=jd E4
  have KA:Hid (Kept (fun _=>False) w (w.alloc (.cells #[.int .i64 kk,.bool nb,.string (BA nm),.slice xa xan xac,.slice xw xwn xwc,.slice xr xrn xrc,.slice xk xkn xkc] 27))):=jd ((Ja _ w).alloc _)
  have PA:Hid (NBx (w.alloc (.cells #[.int .i64 kk,.bool nb,.string (BA nm),.slice xa xan xac,.slice xw xwn xwc,.slice xr xrn xrc,.slice xk xkn xkc] 27)) w.heap.size #[.int .i64 kk,.bool nb,.string (BA nm),.slice xa xan xac,.slice xw xwn xwc,.slice xr xrn xrc,.slice xk xkn xkc]):=jd (heap_alloc w _)
  have HD:Hid (aH (.mk kk nb nm al ws rs ks)=af ks+if ey kk then 1 else 0):=jd (by rw[aH])
  have hdb:af ks≤100000000:=by
   have h1:=rj n (.mk kk nb nm al ws rs ks) hn
   rw[HD.o] at h1
   omega
  have HDB:=jd hdb
  obtain⟨D,hD⟩:∃D,aH (.mk kk nb nm al ws rs ks)=D:=⟨_,rfl⟩
  have HDD:Hid (D=af ks+if ey kk then 1 else 0):=jd (by rw[←hD];exact HD.o)
  rw[hD]
  clear hD HD
  clear ih h h1 h2 h3 h4 hn hsk E4 hm4 hdb
  show Calls Tryz.prog 13 #[.agg #[.int .i64 kk,.bool nb,.string (BA nm),.slice xa xan xac,.slice xw xwn xwc,.slice xr xrn xrc,.slice xk xkn xkc]] w _
  go_enter Tryz.func13,Tryz.ntmps13
  go_wp2_with fail
  go_loopg [3,9] xkn (fun gk s3 s9 wx=>∃k:Nat,gk=xkn -k∧k≤xkn∧s9= .int .i64 (k:Int)∧s3= .int .i64 (af (ks.take k):Int)∧NBx wx w.heap.size #[.int .i64 kk,.bool nb,.string (BA nm),.slice xa xan xac,.slice xw xwn xwc,.slice xr xrn xrc,.slice xk xkn xkc]∧Kept (fun _=>False) w wx)
  case atStart=>exact⟨0,rfl,Ju _,rfl,by rw[List.take_zero];show Value.int .i64 0= .int .i64 ((aH.af []:Nat):Int);rw[aH.af];rfl,PA.o,KA.o⟩
  case round=>
   obtain⟨k,rfl,hk,rfl,rfl,hpa,hkk⟩:=hrel
   have HKK:=jd hkk;have HPA:=jd hpa
   clear hkk hpa
   by_cases hlt:k<xkn
   ·obtain⟨p,hp⟩:∃p,ks[k]? =some p:=⟨_,Je (by rw[←HE4.o];exact hlt)⟩
    have hps:szN p≤n -1:=by have h1:szN p<dq ks:=jk (List.mem_of_getElem? hp);have h2:=HSZ.o;omega
    have HTK:=jd (nz ks k p hp)
    have hdl:decide (k<xkn)=true:=Jc hlt
    obtain⟨b1,o1,ya,yan,yac,yw,ywn,ywc,yr,yrn,yrc,yk,ykn,ykc,e1,p0,p1,p2,p3,p4,p5,p6,hao⟩:=bJ.elem (H4.o.kept HKK.o (fun _ _ h=>h)) hp
    subst e1
    have hbl:b1<wr.heap.size:=World.block_lt_of_cell? wr _ p0
    have K2:Hid (Kept (fun _=>False) wr (wr.alloc (.cells #[.int .i64 p.kind,.bool p.neg,.string (BA p.name),.slice ya yan yac,.slice yw ywn ywc,.slice yr yrn yrc,.slice yk ykn ykc] 27))):=jd ((Ja _ wr).alloc _)
    have HC:=jd (HS.o (by omega) _ F _ p hps (hao.kept K2.o (fun _ _ h=>h)))
    have HPP:=jd ((HPA.o:NBx wr w.heap.size _))
    obtain⟨d0,hd0⟩:∃d0,af (ks.take k)=d0:=⟨_,rfl⟩
    obtain⟨d1,hd1⟩:∃d1,aH p=d1:=⟨_,rfl⟩
    rw[hd0,hd1] at HTK
    rw[hd1] at HC
    rw[hd0]
    clear hp hps hao hd0 hd1
    go_wp2_with fail
    refine HC.o.mono ?_
    rintro x w4 ⟨rfl,k4⟩
    have K4:=jd (HKK.o.trans (K2.o.trans k4 (fun _ _ h=>h)) (fun _ _ h=>h))
    have P4:=jd ((K2.o.trans k4 (fun _ _ h=>h)).heap HPA.o (fun h=>h))
    clear k4
    go_wp2_with fail
    go_roundg (xkn -(k+1))
    case measure=>omega
    case rel=>exact⟨k+1,rfl,hlt,by go_num,by rw[HTK.o];first|rfl|(congr 1;omega),P4.o,K4.o⟩
   ·have hke:k=xkn:=by omega
    have hdl:decide (k<xkn)=false:=Jd hlt
    have HT:Hid (ks.take k=ks):=jd (List.take_of_length_le (by rw[←HE4.o,hke];exact Jb _))
    rw[HT.o]
    have hdb:=HDB.o
    obtain⟨d0,hd0⟩:∃d0,af ks=d0:=⟨_,rfl⟩
    have HD0:=jd hd0
    rw[hd0] at hdb⊢
    have hP:=HPA.o
    obtain⟨⟨c0,c1,c2,c3,c4,c5,c6⟩,-⟩:=NBx.cells hP
    clear hke hd0 hP
    go_wp2_with fail
    refine(DO _ F _ () (HN0.o.kept HKK.o (fun _ _ h=>h))).mono ?_
    rintro x w4 ⟨rfl,k4⟩
    have K4:=jd (HKK.o.trans k4 (fun _ _ h=>h))
    clear k4
    obtain⟨ck,hck⟩:∃ck,ey kk=ck:=⟨_,rfl⟩
    have HCK:=jd hck
    rw[hck]
    clear hck
    cases ck with
    |true=>
     go_wp2_with fail
     go_ret
     exact⟨by rw[HDD.o,HD0.o,HCK.o];simp,K4.o⟩
    |false=>
     go_wp2_with fail
     go_ret
     exact⟨by rw[HDD.o,HD0.o,HCK.o];simp,K4.o⟩
theorem ou {w:World} {F:Nat→Prop} {v:Value} {nd:Nd} (h:NAt w F v nd) (hs:szN nd≤100000000):
  Calls Tryz.prog 13 #[v] w fun x w'=>x= .returned (.int .i64 (aH nd:Int))∧Kept (fun _=>False) w w':=Bb (szN nd) hs w F v nd (Jb _) h
