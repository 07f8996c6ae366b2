import Derived.Test.YtgigdlhcjahejaaGreatDoorF01
set_option maxHeartbeats 400000000
namespace Go.Proofs.YtgigdlhcjahejaaGreatDoor
open Go Go.RowKit Go.Lw
set_option maxRecDepth 100000
set_option linter.all false
attribute [local go_sem] aA
def uq (n:Nat):Prop:=∀(q:Bool) (w:World) (g:Nat) (s:LB) (a d:Nat),bK w g s a d 0→a<s.length→s.length≤1000000→d≤16→dy (.piece q) (s.length -a)≤n→
 Calls Tryz.prog 44 #[.pointer (some ⟨g,0,none⟩),.bool q] w fun x w'=>x= .returned (.tuple #[])∧lX w' g s d (scan n (.piece q) d (s.drop a))∧K1 g w w'
def pG (n:Nat):Prop:=∀(w:World) (g:Nat) (s:LB) (a d:Nat),bK w g s a d 0→a≤s.length→s.length≤1000000→d≤16→dy .double (s.length -a)≤n→
 Calls Tryz.prog 67 #[.pointer (some ⟨g,0,none⟩)] w fun x w'=>x= .returned (.tuple #[])∧lX w' g s d (scan n .double d (s.drop a))∧K1 g w w'
def qu (n:Nat):Prop:=∀(w:World) (g:Nat) (s:LB) (a d:Nat),bK w g s a d 0→a≤s.length→s.length≤1000000→d≤16→dy .brace (s.length -a)≤n→
 Calls Tryz.prog 81 #[.pointer (some ⟨g,0,none⟩)] w fun x w'=>x= .returned (.tuple #[])∧lX w' g s d (scan n .brace d (s.drop a))∧K1 g w w'
def lV (d:Nat) (res:Rs):Rs:=if 16<d+1 then .error 12 else res
theorem wu (w:World) (g:Nat) (s:LB) (a d:Nat) (h:bK w g s a d 0) (ha:a≤s.length) (hs9:s.length≤1000000) (hd:d≤16) (n:Nat) (hn:dy .double (s.length -a)≤n) (HC:Hid (pG n)):
  Calls Tryz.prog 66 #[.pointer (some ⟨g,0,none⟩),.func (.func 67) #[.pointer (some ⟨g,0,none⟩)] #[]] w fun x w'=>x= .returned (.tuple #[])∧lX w' g s d (lV d (scan n .double (d+1) (s.drop a)))∧K1 g w w':=by
 obtain⟨⟨c0,c1,c2,c3⟩,f1,f2,f3⟩:=h.cells
 have H:=jd h;have HA:=jd ha;have HS9:=jd hs9;have HNN:=jd hn
 have H1:Hid (bK (w.setCell ⟨g,2,none⟩ (.int .i64 ((d:Int)+1))) g s a (d+1) 0):=jd (by have:=h.tq (d+1);simpa using this)
 clear h ha hs9 hn
 by_cases hd16:16<d+1
 ·have HD:Hid (lV d (scan n .double (d+1) (s.drop a))= .error 12):=jd (Jt hd16)
  go_enter Tryz.func66,Tryz.ntmps66
  go_wp2_with fail
  refine(cI _ g s a (d+1) 0 H1.o 12 12 rfl).mono ?_
  rintro x w' ⟨rfl,h',k'⟩
  go_wp2_with fail
  refine bodyPost_ret (results_none rfl _ _ _) rfl ?_
  rw[HD.o]
  exact⟨rfl,⟨a,d+1,HA.o,by omega,by omega,h',by decide⟩,((K1.refl g w).set _).then k'⟩
 ·have HD:Hid (lV d (scan n .double (d+1) (s.drop a))=scan n .double (d+1) (s.drop a)):=jd (Js hd16)
  have hd15:d+1≤16:=by omega
  go_enter Tryz.func66,Tryz.ntmps66
  go_wp2_with fail
  refine(HC.o _ g s a (d+1) H1.o HA.o HS9.o hd15 HNN.o).mono ?_
  rintro x w' ⟨rfl,h',k'⟩
  cases hres:scan n .double (d+1) (s.drop a) with
  |error e=>
   rw[hres] at h'
   obtain⟨a',d',ha',hd1,hd2,hsc,he⟩:=h'
   obtain⟨⟨c0,c1,c2,c3⟩,f1,f2,f3⟩:=hsc.cells
   have HSC:=jd hsc;have HA':=jd ha';have K':=jd k';have HE:=jd he
   have HRES:=jd hres
   clear hres hsc ha' k' he
   go_wp2_with fail
   go_end0
   rw[HD.o,HRES.o]
   refine⟨rfl,⟨a',d' -1,HA'.o,by omega,by omega,?_,HE.o⟩,(((K1.refl g w).set _).then K'.o).set _⟩
   have:=HSC.o.tq (d' -1)
   rw[show((d' -1:Nat):Int)=(d':Int) -1 by omega] at this
   exact this
  |ok r'=>
   rw[hres] at h'
   have hsc:bK w' g s (s.length -r'.length) (d+1) 0:=h'
   obtain⟨⟨c0,c1,c2,c3⟩,f1,f2,f3⟩:=hsc.cells
   have HSC:=jd hsc;have K':=jd k'
   have HRES:=jd hres
   clear hres hsc k' h'
   go_wp2_with fail
   go_end0
   rw[HD.o,HRES.o]
   refine⟨rfl,?_,(((K1.refl g w).set _).then K'.o).set _⟩
   show bK _ g s _ d 0
   have:=HSC.o.tq d
   simpa using this
theorem xU (w:World) (g:Nat) (s:LB) (a d:Nat) (h:bK w g s a d 0) (ha:a≤s.length) (hs9:s.length≤1000000) (hd:d≤16) (n:Nat) (hn:dy .brace (s.length -a)≤n) (HC:Hid (qu n)):
  Calls Tryz.prog 66 #[.pointer (some ⟨g,0,none⟩),.func (.func 81) #[.pointer (some ⟨g,0,none⟩)] #[]] w fun x w'=>x= .returned (.tuple #[])∧lX w' g s d (lV d (scan n .brace (d+1) (s.drop a)))∧K1 g w w':=by
 obtain⟨⟨c0,c1,c2,c3⟩,f1,f2,f3⟩:=h.cells
 have H:=jd h;have HA:=jd ha;have HS9:=jd hs9;have HNN:=jd hn
 have H1:Hid (bK (w.setCell ⟨g,2,none⟩ (.int .i64 ((d:Int)+1))) g s a (d+1) 0):=jd (by have:=h.tq (d+1);simpa using this)
 clear h ha hs9 hn
 by_cases hd16:16<d+1
 ·have HD:Hid (lV d (scan n .brace (d+1) (s.drop a))= .error 12):=jd (Jt hd16)
  go_enter Tryz.func66,Tryz.ntmps66
  go_wp2_with fail
  refine(cI _ g s a (d+1) 0 H1.o 12 12 rfl).mono ?_
  rintro x w' ⟨rfl,h',k'⟩
  go_wp2_with fail
  refine bodyPost_ret (results_none rfl _ _ _) rfl ?_
  rw[HD.o]
  exact⟨rfl,⟨a,d+1,HA.o,by omega,by omega,h',by decide⟩,((K1.refl g w).set _).then k'⟩
 ·have HD:Hid (lV d (scan n .brace (d+1) (s.drop a))=scan n .brace (d+1) (s.drop a)):=jd (Js hd16)
  have hd15:d+1≤16:=by omega
  go_enter Tryz.func66,Tryz.ntmps66
  go_wp2_with fail
  refine(HC.o _ g s a (d+1) H1.o HA.o HS9.o hd15 HNN.o).mono ?_
  rintro x w' ⟨rfl,h',k'⟩
  cases hres:scan n .brace (d+1) (s.drop a) with
  |error e=>
   rw[hres] at h'
   obtain⟨a',d',ha',hd1,hd2,hsc,he⟩:=h'
   obtain⟨⟨c0,c1,c2,c3⟩,f1,f2,f3⟩:=hsc.cells
   have HSC:=jd hsc;have HA':=jd ha';have K':=jd k';have HE:=jd he
   have HRES:=jd hres
   clear hres hsc ha' k' he
   go_wp2_with fail
   go_end0
   rw[HD.o,HRES.o]
   refine⟨rfl,⟨a',d' -1,HA'.o,by omega,by omega,?_,HE.o⟩,(((K1.refl g w).set _).then K'.o).set _⟩
   have:=HSC.o.tq (d' -1)
   rw[show((d' -1:Nat):Int)=(d':Int) -1 by omega] at this
   exact this
  |ok r'=>
   rw[hres] at h'
   have hsc:bK w' g s (s.length -r'.length) (d+1) 0:=h'
   obtain⟨⟨c0,c1,c2,c3⟩,f1,f2,f3⟩:=hsc.cells
   have HSC:=jd hsc;have K':=jd k'
   have HRES:=jd hres
   clear hres hsc k' h'
   go_wp2_with fail
   go_end0
   rw[HD.o,HRES.o]
   refine⟨rfl,?_,(((K1.refl g w).set _).then K'.o).set _⟩
   show bK _ g s _ d 0
   have:=HSC.o.tq d
   simpa using this
def eV (n d:Nat) (r:LB):Rs:=
 if r.take 2=[40,40] then bO 0 (r.drop 2)
 else if r.take 1=[40] then .error 5
 else if r.take 1=[123] then lV d (scan n .brace (d+1) (r.drop 1))
 else if r.take 1=[63] then .ok (r.drop 1)
 else .ok (dE true r)
theorem cf (n d:Nat) (q:Bool) (c:UInt8) (r:LB):scan (n+1) (.piece q) d (c::r)=
  if c=92 then fR r
  else if c=39∧q=false then dC 39 r
  else if c=34∧q=false then lV d (scan n .double (d+1) r)
  else if c=36 then eV n d r
  else if c=96∨q=false∧(c=40∨c=41) then .error 5
  else .ok r:=rfl
theorem take_len {l:LB} {k:Nat} {p:LB} (h:l.take k=p) (hp:p.length=k):k≤l.length:=by
 have:=congrArg List.length h
 rw[Jp,hp] at this
 omega
theorem yQ {c:UInt8} {r:LB} {first:Bool} (h:bd c first=true):dE first (c::r)=dE false r:=by
 conv=>lhs;unfold dE
 rw[Jt h]
theorem xZ {c:UInt8} {r:LB} {first:Bool} (h:bd c first=false):dE first (c::r)=c::r:=by
 unfold dE
 rw[Js (by rw[h];decide)]
theorem tA (w:World) (g:Nat) (s:LB) (a d:Nat) (h:bK w g s a d 0) (ha:a≤s.length) (hs9:s.length≤1000000) (hd:d≤16) (n:Nat) (hn:2*(s.length -a)≤n) (HC:Hid (qu n)):
  Calls Tryz.prog 68 #[.pointer (some ⟨g,0,none⟩)] w fun x w'=>x= .returned (.tuple #[])∧lX w' g s d (eV n d (s.drop a))∧K1 g w w':=by
 obtain⟨⟨c0,c1,c2,c3⟩,f1,f2,f3⟩:=h.cells
 have hs:=aq s
 have ht:=fq s a s.length rfl
 have H:=jd h
 have HL:Hid (a+(s.drop a).length=s.length):=jd (by rw[Jo];omega)
 have HD2:Hid (∀k,s.drop (a+k)=(s.drop a).drop k):=jd (fun k=>by rw[List.drop_drop])
 obtain⟨N,hN⟩:∃N,s.length=N:=⟨_,rfl⟩
 have HN:=jd hN
 obtain⟨R,hR⟩:∃R,s.drop a=R:=⟨_,rfl⟩
 have HR:=jd hR
 rw[hR] at HL HD2 ht⊢
 rw[hN] at hs ha hs9 HL ht hn
 have HNN:=jd hn
 clear h hN hR hn
 have l4040:(⟨#[40,40]⟩:ByteArray)=BA [40,40]:=rfl
 have l40:(⟨#[40]⟩:ByteArray)=BA [40]:=rfl
 have l123:(⟨#[123]⟩:ByteArray)=BA [123]:=rfl
 have l63:(⟨#[63]⟩:ByteArray)=BA [63]:=rfl
 go_enter Tryz.func68,Tryz.ntmps68
 go_wp2_with fail
 go_quiet (fail)
 go_wp2_with fail
 by_cases t1:R.take 2=[40,40]
 ·have HDF:Hid (eV n d R=bO 0 (s.drop (a+2))):=jd (by rw[HD2.o];exact Jt t1)
  have h2:a+2≤N:=by have:=take_len t1 rfl;have:=HL.o;omega
  refine(iM R [40,40] true (beq_iff_eq.2 t1) _).mono ?_
  rintro x _ ⟨rfl,rfl⟩
  clear t1
  go_wp2_with fail
  refine(Cw _ g s (a+2) d (H.o.cE (a+2) (by omega)) (by rw[HN.o];exact h2) (by rw[HN.o];exact hs9) (by omega)).mono ?_
  rintro x w' ⟨rfl,h',k'⟩
  go_wp2_with fail
  go_end0
  rw[HDF.o]
  exact⟨rfl,h',((K1.drewN g w _).set _).then k'⟩
 ·have hp1:(R.take [40,40].length==[40,40])=false:=Jq.2 t1
  refine(iM R [40,40] false hp1 _).mono ?_
  rintro x _ ⟨rfl,rfl⟩
  go_wp2_with fail
  by_cases t2:R.take 1=[40]
  ·have HDF:Hid (eV n d R= .error 5):=jd (by unfold eV;rw[Js t1,Jt t2])
   refine(iM R [40] true (beq_iff_eq.2 t2) _).mono ?_
   rintro x _ ⟨rfl,rfl⟩
   clear t1 t2 hp1
   go_wp2_with fail
   refine(cI _ g s a d 0 (H.o.drewN _) 5 5 rfl).mono ?_
   rintro x w' ⟨rfl,h',k'⟩
   go_wp2_with fail
   go_end0
   rw[HDF.o]
   exact⟨rfl,⟨a,d,by rw[HN.o];exact ha,Jb _,by omega,h',by decide⟩,(K1.drewN g w nq).then k'⟩
  ·have hp2:(R.take [40].length==[40])=false:=Jq.2 t2
   refine(iM R [40] false hp2 _).mono ?_
   rintro x _ ⟨rfl,rfl⟩
   go_wp2_with fail
   by_cases t3:R.take 1=[123]
   ·have HDF:Hid (eV n d R=lV d (scan n .brace (d+1) (s.drop (a+1)))):=jd (by rw[HD2.o];unfold eV;rw[Js t1,Js t2,Jt t3])
    have h1:a+1≤N:=by have:=take_len t3 rfl;have:=HL.o;omega
    refine(iM R [123] true (beq_iff_eq.2 t3) _).mono ?_
    rintro x _ ⟨rfl,rfl⟩
    clear t1 t2 t3 hp1 hp2
    go_wp2_with fail
    refine(xU _ g s (a+1) d (H.o.cE (a+1) (by omega)) (by rw[HN.o];exact h1) (by rw[HN.o];exact hs9) hd n (by have:=HNN.o;simp only[dy];rw[HN.o];omega) HC).mono ?_
    rintro x w' ⟨rfl,h',k'⟩
    go_wp2_with fail
    go_end0
    rw[HDF.o]
    exact⟨rfl,h',((K1.drewN g w _).set _).then k'⟩
   ·have hp3:(R.take [123].length==[123])=false:=Jq.2 t3
    refine(iM R [123] false hp3 _).mono ?_
    rintro x _ ⟨rfl,rfl⟩
    go_wp2_with fail
    by_cases t4:R.take 1=[63]
    ·have h1:a+1≤N:=by have:=take_len t4 rfl;have:=HL.o;omega
     have HDF:Hid (eV n d R= .ok (R.drop 1)∧N -(R.drop 1).length=a+1):=jd (by
      refine⟨by unfold eV;rw[Js t1,Js t2,Js t3,Jt t4],?_⟩
      have:=HL.o
      rw[Jo];omega)
     refine(iM R [63] true (beq_iff_eq.2 t4) _).mono ?_
     rintro x _ ⟨rfl,rfl⟩
     clear t1 t2 t3 t4 hp1 hp2 hp3
     go_wp2_with fail
     go_end0
     rw[HDF.o.1]
     refine⟨rfl,?_,((K1.drewN g w _).set _)⟩
     show bK _ g s _ d 0
     rw[HN.o,HDF.o.2]
     exact H.o.cE (a+1) (by omega)
    ·have hp4:(R.take [63].length==[63])=false:=Jq.2 t4
     have HDF:Hid (eV n d R= .ok (dE true R)):=jd (by unfold eV;rw[Js t1,Js t2,Js t3,Js t4])
     refine(iM R [63] false hp4 _).mono ?_
     rintro x _ ⟨rfl,rfl⟩
     clear t1 t2 t3 t4 hp1 hp2 hp3 hp4
     obtain⟨R0,hR0⟩:∃R0,dE true R=R0:=⟨_,rfl⟩
     rw[hR0] at HDF
     have HR0:=jd hR0
     clear hR0
     go_wp2_with fail
     go_loopg [] (N -a+1) (fun gk wx=>∃(a':Nat) (r:LB) (first:Bool),gk=N -a'+1∧a'+r.length=N∧s.drop a'=r∧a≤a'∧((a':Int)==(a:Int))=first∧bK wx g s a' d 0∧dE first r=R0∧K1 g w wx)
     case atStart=>exact⟨a,R,true,rfl,HL.o,HR.o,Jb _,by simp,H.o.drewN _,HR0.o,K1.drewN g w _⟩
     case round=>
      obtain⟨a',r,first,rfl,hr,hdr,haa,hfirst,hsc,hnm,hk⟩:=hrel
      obtain⟨⟨c0,c1,c2,c3⟩,f1,f2,f3⟩:=hsc.cells
      have HSC:=jd hsc;have HK:=jd hk;have HDR:=jd hdr;have HNM:=jd hnm;have HRL:=jd hr
      clear hsc hk hdr hnm hr
      cases r with
      |nil=>
       have hb:(decide ((0:Nat)=0)&&decide (a'<s.length))=false:=by rw[HN.o];have:=HRL.o;simp at this;simp;omega
       have HB:=jd hb
       have HE:Hid (R0=[]∧N -([]:LB).length=a'):=jd ⟨by rw[←HNM.o];unfold dE;rfl,by have:=HRL.o;simp at this;simp;omega⟩
       clear hb
       go_wp2_with fail
       go_quiet ((go_at_call 40;exact Calls.quiet_of (bV _ g s a' d 0 (HSC.o.drewN _) false HB.o)))
       go_wp2_with fail
       go_end0
       rw[HDF.o,HE.o.1]
       refine⟨rfl,?_,HK.o.then (K1.drewN g _ _)⟩
       show bK _ g s _ d 0
       rw[HN.o,HE.o.2]
       exact HSC.o.drewN _
      |cons c r=>
       obtain⟨hc0,hd1,hl1⟩:=drop_cons HDR.o
       have g0:=gm hc0
       have HD1:=jd hd1
       have hlt:a'+1≤N:=by rw[HN.o] at hl1;omega
       have HL1:Hid (a'+1+r.length=N):=jd (by rw[HN.o] at hl1;omega)
       have hb:(decide ((0:Nat)=0)&&decide (a'<s.length))=true:=by rw[HN.o];simp;omega
       have HB:=jd hb
       clear hb hc0 hd1 hl1
       cases hlet:bd c first with
       |true=>
        have HA:Hid (dE false r=R0):=jd (by rw[←HNM.o,yQ hlet])
        have HLET:=jd hlet
        clear hlet
        go_wp2_with fail
        go_quiet ((first|(go_at_call 40;exact Calls.quiet_of (bV _ g s a' d 0 (HSC.o.drewN _) true HB.o))|(go_at_call 82;exact Calls.quiet_of_same (HLET.o▸mr _ c first))))
        go_wp2_with fail
        go_roundg (N -(a'+1)+1)
        case measure=>omega
        case rel=>exact⟨a'+1,r,false,rfl,HL1.o,HD1.o,by omega,Jq.2 (by omega),HSC.o.cE (a'+1) (by omega),HA.o,(HK.o.then (K1.drewN g _ _)).set _⟩
       |false=>
        have HE:Hid (R0=c::r∧N -(c::r).length=a'):=jd ⟨by rw[←HNM.o,xZ hlet],by have:=HL1.o;rw[Jg];omega⟩
        have HLET:=jd hlet
        clear hlet
        go_wp2_with fail
        go_quiet ((first|(go_at_call 40;exact Calls.quiet_of (bV _ g s a' d 0 (HSC.o.drewN _) true HB.o))|(go_at_call 82;exact Calls.quiet_of_same (HLET.o▸mr _ c first))))
        go_wp2_with fail
        go_end0
        rw[HDF.o,HE.o.1]
        refine⟨rfl,?_,HK.o.then (K1.drewN g _ _)⟩
        show bK _ g s _ d 0
        rw[HN.o,HE.o.2]
        exact HSC.o.drewN _
