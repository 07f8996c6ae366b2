/- Of the proof of ParseBreaks: Scan3, Scan4. -/
import Derived.Test.YtgigdlhcjahejaaGreatDoorD01
namespace Go.Proofs.YtgigdlhcjahejaaGreatDoor
open Go Go.RowKit Go.Lw
set_option maxRecDepth 100000
set_option linter.unusedVariables false
set_option linter.unusedSimpArgs false
attribute [local go_sem] av
theorem sB (l p:List UInt8):Lib.hasPrefix l p=(l.take p.length==p):=by
 unfold Lib.hasPrefix
 induction p generalizing l with
 |nil=>simp
 |cons b p ih=>
  cases l with
  |nil=>rfl
  |cons c l=>
   rw[List.isPrefixOf_cons_cons,ih l,List.length_cons,List.take_succ_cons]
   show _=(c==b&&_)
   congr 1
   rw[Bool.eq_iff_iff,beq_iff_eq,beq_iff_eq]
   exact eq_comm
theorem gS (l p:List UInt8) (b:Bool) (hb:(l.take p.length==p)=b) (w:World):Calls Tryz.prog 47 #[.string (BA l),.string (BA p)] w fun e w'=>e= .returned (.bool b)∧w'=w:=by
 refine(Tryz.strings_HasPrefix _ _ w).mono ?_
 rintro e w' ⟨rfl,rfl⟩
 rw[eG,eG,sB,hb]
 exact⟨rfl,rfl⟩
theorem drop_cons {s:List UInt8} {a:Nat} {c:UInt8} {r:List UInt8} (h:s.drop a=c::r):s[a]? =some c∧s.drop (a+1)=r∧a+r.length+1=s.length:=by
 have hk:a<s.length:=by
  rcases Nat.lt_or_ge a s.length with h'|h'
  ·exact h'
  ·rw[List.drop_eq_nil_of_le h'] at h;cases h
 have h2:=List.drop_eq_getElem_cons hk
 rw[h] at h2
 obtain⟨e1,e2⟩:=List.cons.inj h2
 refine⟨by rw[List.getElem?_eq_getElem hk,e1],e2.symm,?_⟩
 rw[e2,List.length_drop];omega
def oi:List UInt8:=[39,34,92,96,36,10]
theorem mo (c:UInt8):oi.contains c=vO c:=by
 rw[Bool.eq_iff_iff]
 simp[oi,vO,or_assoc]
theorem Dm {c:UInt8} {r:List UInt8} (h:(c::r).take 2=[41,41]):bC 0 (c::r)= .ok (r.drop 1):=by
 unfold bC;rw[if_pos ⟨rfl,h⟩]
theorem Dj {o:Nat} {c:UInt8} {r:List UInt8} (h:¬(o=0∧(c::r).take 2=[41,41])) (h1:c=40):bC o (c::r)=bC (o+1) r:=by
 conv=>lhs;unfold bC
 rw[if_neg h,if_pos h1]
theorem Cc {o:Nat} {c:UInt8} {r:List UInt8} (h:¬(o=0∧(c::r).take 2=[41,41])) (h1:¬c=40) (h2:c=41) (h3:0<o):bC o (c::r)=bC (o -1) r:=by
 conv=>lhs;unfold bC
 rw[if_neg h,if_neg h1,if_pos ⟨h2,h3⟩]
theorem uW {o:Nat} {c:UInt8} {r:List UInt8} (h:¬(o=0∧(c::r).take 2=[41,41])) (h1:¬c=40) (h2:¬(c=41∧0<o)) (h3:c=41∨vO c=true):bC o (c::r)= .error 5:=by
 conv=>lhs;unfold bC
 rw[if_neg h,if_neg h1,if_neg h2,if_pos h3]
theorem C7 {o:Nat} {c:UInt8} {r:List UInt8} (h:¬(o=0∧(c::r).take 2=[41,41])) (h1:¬c=40) (h2:¬c=41) (h3:¬vO c=true):bC o (c::r)=bC o r:=by
 conv=>lhs;unfold bC
 rw[if_neg h,if_neg h1,if_neg (fun x=>h2 x.1),if_neg (fun x=>x.elim h2 h3)]
def Ec (w0:World) (g:Nat) (s:List UInt8) (d N:Nat) (R0:Rs) (gk:Nat) (v:Value) (wx:World):Prop:=
 (∃(a o:Nat) (r:List UInt8),gk=N -a+1∧a+r.length=N∧s.drop a=r∧v= .int .i64 (o:Int)∧o≤a∧bu wx g s a d 0∧bC o r=R0∧K1 g w0 wx)∨
 (∃a o:Nat,gk=0∧a≤N∧v= .int .i64 (o:Int)∧o≤N+1∧bu wx g s a d 5∧R0= .error 5∧K1 g w0 wx)
set_option maxHeartbeats 8000000 in
theorem AT (w:World) (g:Nat) (s:List UInt8) (a d:Nat) (h:bu w g s a d 0) (ha:a≤s.length) (hs9:s.length≤1000000) (hd:d≤17):
  Calls Tryz.prog 80 #[.pointer (some ⟨g,0,none⟩)] w fun x w'=>x= .returned (.tuple #[])∧j9 w' g s d (bC 0 (s.drop a))∧K1 g w w':=by
 have hs:=ai s
 have H:=jd h
 have HL:Hid (a+(s.drop a).length=s.length):=jd (by rw[List.length_drop];omega)
 obtain⟨N,hN⟩:∃N,s.length=N:=⟨_,rfl⟩
 have HN:=jd hN
 rw[hN] at hs ha hs9 HL
 obtain⟨R0,hR0⟩:∃R0,bC 0 (s.drop a)=R0:=⟨_,rfl⟩
 have HR0:=jd hR0
 rw[hR0]
 clear h hN hR0
 have l4141:(⟨#[41,41]⟩:ByteArray)=BA [41,41]:=rfl
 have lodd:(⟨#[39,34,92,96,36,10]⟩:ByteArray)=BA oi:=rfl
 go_enter Tryz.func80,Tryz.ntmps80
 go_wp2_with fail
 go_loopg [2] (N -a+1) (fun gk s2 wx=>Ec w g s d N R0 gk s2 wx)
 case atStart=>exact .inl ⟨a,0,s.drop a,rfl,HL.o,rfl,rfl,Nat.zero_le _,H.o,HR0.o,Kept.refl _ _⟩
 case round=>
  rcases hrel with⟨a,o,r,rfl,hr,hdr,rfl,ho,hsc,har,hk⟩|⟨a,o,rfl,han,rfl,ho,hsc,rfl,hk⟩
  ·have HSC:=jd hsc;have HK:=jd hk;have HDR:=jd hdr;have HAR:=jd har;have HRL:=jd hr
   clear hsc hk hdr har hr
   cases r with
   |nil=>
    have hb:(decide ((0:Nat)=0)&&decide (a<s.length))=false:=by rw[HN.o];have:=HRL.o;simp at this;simp;omega
    have HB:=jd hb
    have HRE:Hid (R0= .error 5):=jd (by rw[←HAR.o];unfold bC;rfl)
    clear hb
    go_wp2_with fail
    refine(bL _ g s a d 0 HSC.o false HB.o).mono ?_
    rintro x _ ⟨rfl,n1,rfl⟩
    go_wp2_with fail
    refine(cx _ g s a d 0 (HSC.o.drewN _) 5 5 rfl).mono ?_
    rintro x w' ⟨rfl,h',k'⟩
    go_wp2_with fail
    go_end0
    rw[HRE.o]
    exact⟨rfl,⟨a,d,by have:=HRL.o;rw[HN.o];simp at this;omega,Nat.le_refl _,hd,h',by decide⟩,(HK.o.then (K1.drewN g _ n1)).then k'⟩
   |cons c r=>
    obtain⟨hc0,hd1,hl1⟩:=drop_cons HDR.o
    have g0:=fp hc0
    have HD1:=jd hd1
    have hlt:a+1≤N:=by rw[HN.o] at hl1;omega
    have HL1:Hid (a+1+r.length=N):=jd (by rw[HN.o] at hl1;omega)
    have hb:(decide ((0:Nat)=0)&&decide (a<s.length))=true:=by rw[HN.o];simp;omega
    have HB:=jd hb
    have ht:=eJ s a N HN.o.symm
    rw[HDR.o] at ht
    clear hb hc0 hd1 hl1
    go_wp2_with fail
    refine(bL _ g s a d 0 HSC.o true HB.o).mono ?_
    rintro x _ ⟨rfl,n1,rfl⟩
    obtain⟨⟨c0,c1,c2,c3⟩,f1,f2,f3⟩:=HSC.o.cells
    by_cases ho0:o=0
    ·subst ho0
     by_cases hp:((c::r).take 2==[41,41])=true
     ·have HP:=jd hp
      have HE:Hid (R0= .ok (r.drop 1)∧N -(r.drop 1).length=a+2):=jd (by
       have h2:(c::r).take 2=[41,41]:=beq_iff_eq.1 hp
       refine⟨by rw[←HAR.o,Dm h2],?_⟩
       have h3:=congrArg List.length h2
       rw[List.length_take] at h3
       simp at h3
       have h4:=HL1.o
       rw[List.length_drop];omega)
      have ha2:a+2≤N:=by have h1:=HE.o.2;have h2:=List.length_drop (i:=1) (l:=r);omega
      clear hp
      go_wp2_with fail
      go_quiet (fail)
      go_wp2_with fail
      go_quiet ((go_at_call 47;exact dT (gS (c::r) [41,41] true HP.o _)))
      go_wp2_with fail
      refine bodyPost_ret (results_none rfl _ _ _) rfl ?_
      rw[HE.o.1]
      refine⟨rfl,?_,((HK.o.then (K1.drewN g _ _)).set _)⟩
      show bu _ g s _ d 0
      rw[HN.o,HE.o.2]
      exact HSC.o.cp (a+2) (by omega)
     ·have hp':((c::r).take 2==[41,41])=false:=by simpa using hp
      have HP:=jd hp'
      have HNE:Hid (¬((0:Nat)=0∧(c::r).take 2=[41,41])):=jd (fun x=>hp (beq_iff_eq.2 x.2))
      have hoo:((0:Int)==0)=true:=rfl
      clear hp hp'
      by_cases h40:c=40
      ·have b40:((c.toNat:Int)==40)=true:=yQ (k:=40) rfl h40
       have HA:Hid (bC (0+1) r=R0):=jd (by rw[←HAR.o,Dj HNE.o h40])
       clear h40
       go_wp2_with fail
       go_quiet (fail)
       go_wp2_with fail
       go_quiet ((go_at_call 47;exact dT (gS (c::r) [41,41] false HP.o _)))
       go_wp2_with fail
       go_roundg (N -(a+1)+1)
       case measure=>omega
       case rel=>exact .inl ⟨a+1,0+1,r,rfl,HL1.o,HD1.o,by go_num,by omega,HSC.o.cp (a+1) (by omega),HA.o,((HK.o.then (K1.drewN g _ _)).set _)⟩
      ·have b40:((c.toNat:Int)==40)=false:=gb (k:=40) rfl h40
       by_cases h41:c=41
       ·have b41:((c.toNat:Int)==41)=true:=yQ (k:=41) rfl h41
        have HA:Hid (R0= .error 5):=jd (by rw[←HAR.o,uW HNE.o h40 (fun x=>absurd x.2 (by decide)) (.inl h41)])
        clear h40 h41
        go_wp2_with fail
        go_quiet (fail)
        go_wp2_with fail
        go_quiet ((go_at_call 47;exact dT (gS (c::r) [41,41] false HP.o _)))
        go_wp2_with fail
        clear c0 c1 c2 c3 f1 f2 f3
        refine(cx _ g s a d 0 (HSC.o.drewN _) 5 5 rfl).mono ?_
        rintro x w' ⟨rfl,h',k'⟩
        obtain⟨⟨c0,c1,c2,c3⟩,f1,f2,f3⟩:=h'.cells
        have H':=jd h';have K':=jd ((HK.o.then (K1.drewN g _ _)).then k')
        clear h' k'
        go_wp2_with fail
        go_roundg 0
        case measure=>omega
        case rel=>exact .inr ⟨a+1,0,rfl,hlt,rfl,by omega,H'.o.xE (a+1) (by omega),HA.o,K'.o.set _⟩
       ·have b41:((c.toNat:Int)==41)=false:=gb (k:=41) rfl h41
        by_cases hodd:vO c=true
        ·have HI:=jd ((gT oi c).1 (by rw[mo];exact hodd))
         have HA:Hid (R0= .error 5):=jd (by rw[←HAR.o,uW HNE.o h40 (fun x=>absurd x.2 (by decide)) (.inr hodd)])
         obtain⟨i,hi⟩:=HI.o
         have HI:=jd hi
         clear h40 h41 hodd hi
         go_wp2_with fail
         go_quiet (fail)
         go_wp2_with fail
         go_quiet ((go_at_call 47;exact dT (gS (c::r) [41,41] false HP.o _)))
         go_wp2_with fail
         refine(dB oi c (i:Int) HI.o _).mono ?_
         rintro x _ ⟨rfl,rfl⟩
         go_wp2_with fail
         clear c0 c1 c2 c3 f1 f2 f3
         refine(cx _ g s a d 0 (HSC.o.drewN _) 5 5 rfl).mono ?_
         rintro x w' ⟨rfl,h',k'⟩
         obtain⟨⟨c0,c1,c2,c3⟩,f1,f2,f3⟩:=h'.cells
         have H':=jd h';have K':=jd ((HK.o.then (K1.drewN g _ _)).then k')
         clear h' k'
         go_wp2_with fail
         go_roundg 0
         case measure=>omega
         case rel=>exact .inr ⟨a+1,0,rfl,hlt,rfl,by omega,H'.o.xE (a+1) (by omega),HA.o,K'.o.set _⟩
        ·have HI:=jd ((gT oi c).2 (by rw[mo];simpa using hodd))
         have HA:Hid (bC 0 r=R0):=jd (by rw[←HAR.o,C7 HNE.o h40 h41 hodd])
         clear h40 h41 hodd
         go_wp2_with fail
         go_quiet (fail)
         go_wp2_with fail
         go_quiet ((go_at_call 47;exact dT (gS (c::r) [41,41] false HP.o _)))
         go_wp2_with fail
         refine(dB oi c (-1) HI.o _).mono ?_
         rintro x _ ⟨rfl,rfl⟩
         go_wp2_with fail
         go_roundg (N -(a+1)+1)
         case measure=>omega
         case rel=>exact .inl ⟨a+1,0,r,rfl,HL1.o,HD1.o,rfl,by omega,HSC.o.cp (a+1) (by omega),HA.o,((HK.o.then (K1.drewN g _ _)).set _)⟩
    ·have HNE:Hid (¬(o=0∧(c::r).take 2=[41,41])):=jd (fun x=>ho0 x.1)
     have ho1:1≤o:=by omega
     have hob:((o:Int)==0)=false:=by simp;omega
     clear ho0
     by_cases h40:c=40
     ·have b40:((c.toNat:Int)==40)=true:=yQ (k:=40) rfl h40
      have HA:Hid (bC (o+1) r=R0):=jd (by rw[←HAR.o,Dj HNE.o h40])
      clear h40
      go_wp2_with fail
      go_quiet (fail)
      go_wp2_with fail
      go_quiet (fail)
      go_wp2_with fail
      go_roundg (N -(a+1)+1)
      case measure=>omega
      case rel=>exact .inl ⟨a+1,o+1,r,rfl,HL1.o,HD1.o,by go_num,by omega,HSC.o.cp (a+1) (by omega),HA.o,((HK.o.then (K1.drewN g _ _)).set _)⟩
     ·have b40:((c.toNat:Int)==40)=false:=gb (k:=40) rfl h40
      by_cases h41:c=41
      ·have b41:((c.toNat:Int)==41)=true:=yQ (k:=41) rfl h41
       have HA:Hid (bC (o -1) r=R0):=jd (by rw[←HAR.o,Cc HNE.o h40 h41 (by omega)])
       have ho2:((o -1:Nat):Int)=(o:Int) -1:=by omega
       clear h40 h41
       go_wp2_with fail
       go_quiet (fail)
       go_wp2_with fail
       go_quiet (fail)
       go_wp2_with fail
       go_roundg (N -(a+1)+1)
       case measure=>omega
       case rel=>exact .inl ⟨a+1,o -1,r,rfl,HL1.o,HD1.o,by rw[ho2],by omega,HSC.o.cp (a+1) (by omega),HA.o,((HK.o.then (K1.drewN g _ _)).set _)⟩
      ·have b41:((c.toNat:Int)==41)=false:=gb (k:=41) rfl h41
       by_cases hodd:vO c=true
       ·have HI:=jd ((gT oi c).1 (by rw[mo];exact hodd))
        have HA:Hid (R0= .error 5):=jd (by rw[←HAR.o,uW HNE.o h40 (fun x=>h41 x.1) (.inr hodd)])
        obtain⟨i,hi⟩:=HI.o
        have HI:=jd hi
        clear h40 h41 hodd hi
        go_wp2_with fail
        go_quiet (fail)
        go_wp2_with fail
        go_quiet (fail)
        go_wp2_with fail
        refine(dB oi c (i:Int) HI.o _).mono ?_
        rintro x _ ⟨rfl,rfl⟩
        go_wp2_with fail
        clear c0 c1 c2 c3 f1 f2 f3
        refine(cx _ g s a d 0 (HSC.o.drewN _) 5 5 rfl).mono ?_
        rintro x w' ⟨rfl,h',k'⟩
        obtain⟨⟨c0,c1,c2,c3⟩,f1,f2,f3⟩:=h'.cells
        have H':=jd h';have K':=jd ((HK.o.then (K1.drewN g _ _)).then k')
        clear h' k'
        go_wp2_with fail
        go_roundg 0
        case measure=>omega
        case rel=>exact .inr ⟨a+1,o,rfl,hlt,rfl,by omega,H'.o.xE (a+1) (by omega),HA.o,K'.o.set _⟩
       ·have HI:=jd ((gT oi c).2 (by rw[mo];simpa using hodd))
        have HA:Hid (bC o r=R0):=jd (by rw[←HAR.o,C7 HNE.o h40 h41 hodd])
        clear h40 h41 hodd
        go_wp2_with fail
        go_quiet (fail)
        go_wp2_with fail
        go_quiet (fail)
        go_wp2_with fail
        refine(dB oi c (-1) HI.o _).mono ?_
        rintro x _ ⟨rfl,rfl⟩
        go_wp2_with fail
        go_roundg (N -(a+1)+1)
        case measure=>omega
        case rel=>exact .inl ⟨a+1,o,r,rfl,HL1.o,HD1.o,rfl,by omega,HSC.o.cp (a+1) (by omega),HA.o,((HK.o.then (K1.drewN g _ _)).set _)⟩
  ·have HSC:=jd hsc;have HK:=jd hk
   clear hsc hk
   have hb:(decide ((5:Nat)=0)&&decide (a<s.length))=false:=rfl
   have HB:=jd hb
   clear hb
   go_wp2_with fail
   refine(bL _ g s a d 5 HSC.o false HB.o).mono ?_
   rintro x _ ⟨rfl,n1,rfl⟩
   go_wp2_with fail
   refine(cx _ g s a d 5 (HSC.o.drewN _) 5 5 rfl).mono ?_
   rintro x w' ⟨rfl,h',k'⟩
   go_wp2_with fail
   go_end0
   exact⟨rfl,⟨a,d,by rw[HN.o];exact han,Nat.le_refl _,hd,h',by decide⟩,(HK.o.then (K1.drewN g _ n1)).then k'⟩
def sf (n:Nat):Prop:=∀(q:Bool) (w:World) (g:Nat) (s:List UInt8) (a d:Nat),bu w g s a d 0→a<s.length→s.length≤1000000→d≤16→de (.piece q) (s.length -a)≤n→
 Calls Tryz.prog 44 #[.pointer (some ⟨g,0,none⟩),.bool q] w fun x w'=>x= .returned (.tuple #[])∧j9 w' g s d (scan n (.piece q) d (s.drop a))∧K1 g w w'
def nT (n:Nat):Prop:=∀(w:World) (g:Nat) (s:List UInt8) (a d:Nat),bu w g s a d 0→a≤s.length→s.length≤1000000→d≤16→de .double (s.length -a)≤n→
 Calls Tryz.prog 67 #[.pointer (some ⟨g,0,none⟩)] w fun x w'=>x= .returned (.tuple #[])∧j9 w' g s d (scan n .double d (s.drop a))∧K1 g w w'
def pE (n:Nat):Prop:=∀(w:World) (g:Nat) (s:List UInt8) (a d:Nat),bu w g s a d 0→a≤s.length→s.length≤1000000→d≤16→de .brace (s.length -a)≤n→
 Calls Tryz.prog 81 #[.pointer (some ⟨g,0,none⟩)] w fun x w'=>x= .returned (.tuple #[])∧j9 w' g s d (scan n .brace d (s.drop a))∧K1 g w w'
def ki (d:Nat) (res:Rs):Rs:=if 16<d+1 then .error 12 else res
set_option maxHeartbeats 2000000 in
theorem tF (w:World) (g:Nat) (s:List UInt8) (a d:Nat) (h:bu w g s a d 0) (ha:a≤s.length) (hs9:s.length≤1000000) (hd:d≤16) (n:Nat) (hn:de .double (s.length -a)≤n) (HC:Hid (nT n)):
  Calls Tryz.prog 66 #[.pointer (some ⟨g,0,none⟩),.func (.func 67) #[.pointer (some ⟨g,0,none⟩)] #[]] w fun x w'=>x= .returned (.tuple #[])∧j9 w' g s d (ki d (scan n .double (d+1) (s.drop a)))∧K1 g w w':=by
 obtain⟨⟨c0,c1,c2,c3⟩,f1,f2,f3⟩:=h.cells
 have H:=jd h;have HA:=jd ha;have HS9:=jd hs9;have HNN:=jd hn
 have H1:Hid (bu (w.setCell ⟨g,2,none⟩ (.int .i64 ((d:Int)+1))) g s a (d+1) 0):=jd (by have:=h.qZ (d+1);simpa using this)
 clear h ha hs9 hn
 by_cases hd16:16<d+1
 ·have HD:Hid (ki d (scan n .double (d+1) (s.drop a))= .error 12):=jd (if_pos hd16)
  go_enter Tryz.func66,Tryz.ntmps66
  go_wp2_with fail
  refine(cx _ g s a (d+1) 0 H1.o 12 12 rfl).mono ?_
  rintro x w' ⟨rfl,h',k'⟩
  go_wp2_with fail
  refine bodyPost_ret (results_none rfl _ _ _) rfl ?_
  rw[HD.o]
  exact⟨rfl,⟨a,d+1,HA.o,by omega,by omega,h',by decide⟩,((K1.refl g w).set _).then k'⟩
 ·have HD:Hid (ki d (scan n .double (d+1) (s.drop a))=scan n .double (d+1) (s.drop a)):=jd (if_neg hd16)
  have hd15:d+1≤16:=by omega
  go_enter Tryz.func66,Tryz.ntmps66
  go_wp2_with fail
  refine(HC.o _ g s a (d+1) H1.o HA.o HS9.o hd15 HNN.o).mono ?_
  rintro x w' ⟨rfl,h',k'⟩
  cases hres:scan n .double (d+1) (s.drop a) with
  |error e=>
   rw[hres] at h'
   obtain⟨a',d',ha',hd1,hd2,hsc,he⟩:=h'
   obtain⟨⟨c0,c1,c2,c3⟩,f1,f2,f3⟩:=hsc.cells
   have HSC:=jd hsc;have HA':=jd ha';have K':=jd k';have HE:=jd he
   have HRES:=jd hres
   clear hres hsc ha' k' he
   go_wp2_with fail
   go_end0
   rw[HD.o,HRES.o]
   refine⟨rfl,⟨a',d' -1,HA'.o,by omega,by omega,?_,HE.o⟩,(((K1.refl g w).set _).then K'.o).set _⟩
   have:=HSC.o.qZ (d' -1)
   rw[show((d' -1:Nat):Int)=(d':Int) -1 by omega] at this
   exact this
  |ok r'=>
   rw[hres] at h'
   have hsc:bu w' g s (s.length -r'.length) (d+1) 0:=h'
   obtain⟨⟨c0,c1,c2,c3⟩,f1,f2,f3⟩:=hsc.cells
   have HSC:=jd hsc;have K':=jd k'
   have HRES:=jd hres
   clear hres hsc k' h'
   go_wp2_with fail
   go_end0
   rw[HD.o,HRES.o]
   refine⟨rfl,?_,(((K1.refl g w).set _).then K'.o).set _⟩
   show bu _ g s _ d 0
   have:=HSC.o.qZ d
   simpa using this
set_option maxHeartbeats 2000000 in
theorem uQ (w:World) (g:Nat) (s:List UInt8) (a d:Nat) (h:bu w g s a d 0) (ha:a≤s.length) (hs9:s.length≤1000000) (hd:d≤16) (n:Nat) (hn:de .brace (s.length -a)≤n) (HC:Hid (pE n)):
  Calls Tryz.prog 66 #[.pointer (some ⟨g,0,none⟩),.func (.func 81) #[.pointer (some ⟨g,0,none⟩)] #[]] w fun x w'=>x= .returned (.tuple #[])∧j9 w' g s d (ki d (scan n .brace (d+1) (s.drop a)))∧K1 g w w':=by
 obtain⟨⟨c0,c1,c2,c3⟩,f1,f2,f3⟩:=h.cells
 have H:=jd h;have HA:=jd ha;have HS9:=jd hs9;have HNN:=jd hn
 have H1:Hid (bu (w.setCell ⟨g,2,none⟩ (.int .i64 ((d:Int)+1))) g s a (d+1) 0):=jd (by have:=h.qZ (d+1);simpa using this)
 clear h ha hs9 hn
 by_cases hd16:16<d+1
 ·have HD:Hid (ki d (scan n .brace (d+1) (s.drop a))= .error 12):=jd (if_pos hd16)
  go_enter Tryz.func66,Tryz.ntmps66
  go_wp2_with fail
  refine(cx _ g s a (d+1) 0 H1.o 12 12 rfl).mono ?_
  rintro x w' ⟨rfl,h',k'⟩
  go_wp2_with fail
  refine bodyPost_ret (results_none rfl _ _ _) rfl ?_
  rw[HD.o]
  exact⟨rfl,⟨a,d+1,HA.o,by omega,by omega,h',by decide⟩,((K1.refl g w).set _).then k'⟩
 ·have HD:Hid (ki d (scan n .brace (d+1) (s.drop a))=scan n .brace (d+1) (s.drop a)):=jd (if_neg hd16)
  have hd15:d+1≤16:=by omega
  go_enter Tryz.func66,Tryz.ntmps66
  go_wp2_with fail
  refine(HC.o _ g s a (d+1) H1.o HA.o HS9.o hd15 HNN.o).mono ?_
  rintro x w' ⟨rfl,h',k'⟩
  cases hres:scan n .brace (d+1) (s.drop a) with
  |error e=>
   rw[hres] at h'
   obtain⟨a',d',ha',hd1,hd2,hsc,he⟩:=h'
   obtain⟨⟨c0,c1,c2,c3⟩,f1,f2,f3⟩:=hsc.cells
   have HSC:=jd hsc;have HA':=jd ha';have K':=jd k';have HE:=jd he
   have HRES:=jd hres
   clear hres hsc ha' k' he
   go_wp2_with fail
   go_end0
   rw[HD.o,HRES.o]
   refine⟨rfl,⟨a',d' -1,HA'.o,by omega,by omega,?_,HE.o⟩,(((K1.refl g w).set _).then K'.o).set _⟩
   have:=HSC.o.qZ (d' -1)
   rw[show((d' -1:Nat):Int)=(d':Int) -1 by omega] at this
   exact this
  |ok r'=>
   rw[hres] at h'
   have hsc:bu w' g s (s.length -r'.length) (d+1) 0:=h'
   obtain⟨⟨c0,c1,c2,c3⟩,f1,f2,f3⟩:=hsc.cells
   have HSC:=jd hsc;have K':=jd k'
   have HRES:=jd hres
   clear hres hsc k' h'
   go_wp2_with fail
   go_end0
   rw[HD.o,HRES.o]
   refine⟨rfl,?_,(((K1.refl g w).set _).then K'.o).set _⟩
   show bu _ g s _ d 0
   have:=HSC.o.qZ d
   simpa using this
def eo (n d:Nat) (r:List UInt8):Rs:=
 if r.take 2=[40,40] then bC 0 (r.drop 2)
 else if r.take 1=[40] then .error 5
 else if r.take 1=[123] then ki d (scan n .brace (d+1) (r.drop 1))
 else if r.take 1=[63] then .ok (r.drop 1)
 else .ok (da true r)
theorem bW (n d:Nat) (q:Bool) (c:UInt8) (r:List UInt8):scan (n+1) (.piece q) d (c::r)=
  if c=92 then fj r
  else if c=39∧q=false then cY 39 r
  else if c=34∧q=false then ki d (scan n .double (d+1) r)
  else if c=36 then eo n d r
  else if c=96∨q=false∧(c=40∨c=41) then .error 5
  else .ok r:=rfl
theorem take_len {l:List UInt8} {k:Nat} {p:List UInt8} (h:l.take k=p) (hp:p.length=k):k≤l.length:=by
 have:=congrArg List.length h
 rw[List.length_take,hp] at this
 omega
theorem uU {c:UInt8} {r:List UInt8} {first:Bool} (h:bJ c first=true):da first (c::r)=da false r:=by
 conv=>lhs;unfold da
 rw[if_pos h]
theorem vN {c:UInt8} {r:List UInt8} {first:Bool} (h:bJ c first=false):da first (c::r)=c::r:=by
 unfold da
 rw[if_neg (by rw[h];decide)]
set_option maxHeartbeats 8000000 in
theorem qK (w:World) (g:Nat) (s:List UInt8) (a d:Nat) (h:bu w g s a d 0) (ha:a≤s.length) (hs9:s.length≤1000000) (hd:d≤16) (n:Nat) (hn:2*(s.length -a)≤n) (HC:Hid (pE n)):
  Calls Tryz.prog 68 #[.pointer (some ⟨g,0,none⟩)] w fun x w'=>x= .returned (.tuple #[])∧j9 w' g s d (eo n d (s.drop a))∧K1 g w w':=by
 obtain⟨⟨c0,c1,c2,c3⟩,f1,f2,f3⟩:=h.cells
 have hs:=ai s
 have ht:=eJ s a s.length rfl
 have H:=jd h
 have HL:Hid (a+(s.drop a).length=s.length):=jd (by rw[List.length_drop];omega)
 have HD2:Hid (∀k,s.drop (a+k)=(s.drop a).drop k):=jd (fun k=>by rw[List.drop_drop])
 obtain⟨N,hN⟩:∃N,s.length=N:=⟨_,rfl⟩
 have HN:=jd hN
 obtain⟨R,hR⟩:∃R,s.drop a=R:=⟨_,rfl⟩
 have HR:=jd hR
 rw[hR] at HL HD2 ht⊢
 rw[hN] at hs ha hs9 HL ht hn
 have HNN:=jd hn
 clear h hN hR hn
 have l4040:(⟨#[40,40]⟩:ByteArray)=BA [40,40]:=rfl
 have l40:(⟨#[40]⟩:ByteArray)=BA [40]:=rfl
 have l123:(⟨#[123]⟩:ByteArray)=BA [123]:=rfl
 have l63:(⟨#[63]⟩:ByteArray)=BA [63]:=rfl
 go_enter Tryz.func68,Tryz.ntmps68
 go_wp2_with fail
 go_quiet (fail)
 go_wp2_with fail
 by_cases t1:R.take 2=[40,40]
 ·have HDF:Hid (eo n d R=bC 0 (s.drop (a+2))):=jd (by rw[HD2.o];exact if_pos t1)
  have h2:a+2≤N:=by have:=take_len t1 rfl;have:=HL.o;omega
  refine(gS R [40,40] true (beq_iff_eq.2 t1) _).mono ?_
  rintro x _ ⟨rfl,rfl⟩
  clear t1
  go_wp2_with fail
  refine(AT _ g s (a+2) d (H.o.cp (a+2) (by omega)) (by rw[HN.o];exact h2) (by rw[HN.o];exact hs9) (by omega)).mono ?_
  rintro x w' ⟨rfl,h',k'⟩
  go_wp2_with fail
  go_end0
  rw[HDF.o]
  exact⟨rfl,h',((K1.drewN g w _).set _).then k'⟩
 ·have hp1:(R.take [40,40].length==[40,40])=false:=beq_eq_false_iff_ne.2 t1
  refine(gS R [40,40] false hp1 _).mono ?_
  rintro x _ ⟨rfl,rfl⟩
  go_wp2_with fail
  by_cases t2:R.take 1=[40]
  ·have HDF:Hid (eo n d R= .error 5):=jd (by unfold eo;rw[if_neg t1,if_pos t2])
   refine(gS R [40] true (beq_iff_eq.2 t2) _).mono ?_
   rintro x _ ⟨rfl,rfl⟩
   clear t1 t2 hp1
   go_wp2_with fail
   refine(cx _ g s a d 0 (H.o.drewN _) 5 5 rfl).mono ?_
   rintro x w' ⟨rfl,h',k'⟩
   go_wp2_with fail
   go_end0
   rw[HDF.o]
   exact⟨rfl,⟨a,d,by rw[HN.o];exact ha,Nat.le_refl _,by omega,h',by decide⟩,(K1.drewN g w nq).then k'⟩
  ·have hp2:(R.take [40].length==[40])=false:=beq_eq_false_iff_ne.2 t2
   refine(gS R [40] false hp2 _).mono ?_
   rintro x _ ⟨rfl,rfl⟩
   go_wp2_with fail
   by_cases t3:R.take 1=[123]
   ·have HDF:Hid (eo n d R=ki d (scan n .brace (d+1) (s.drop (a+1)))):=jd (by rw[HD2.o];unfold eo;rw[if_neg t1,if_neg t2,if_pos t3])
    have h1:a+1≤N:=by have:=take_len t3 rfl;have:=HL.o;omega
    refine(gS R [123] true (beq_iff_eq.2 t3) _).mono ?_
    rintro x _ ⟨rfl,rfl⟩
    clear t1 t2 t3 hp1 hp2
    go_wp2_with fail
    refine(uQ _ g s (a+1) d (H.o.cp (a+1) (by omega)) (by rw[HN.o];exact h1) (by rw[HN.o];exact hs9) hd n (by have:=HNN.o;simp only[de];rw[HN.o];omega) HC).mono ?_
    rintro x w' ⟨rfl,h',k'⟩
    go_wp2_with fail
    go_end0
    rw[HDF.o]
    exact⟨rfl,h',((K1.drewN g w _).set _).then k'⟩
   ·have hp3:(R.take [123].length==[123])=false:=beq_eq_false_iff_ne.2 t3
    refine(gS R [123] false hp3 _).mono ?_
    rintro x _ ⟨rfl,rfl⟩
    go_wp2_with fail
    by_cases t4:R.take 1=[63]
    ·have h1:a+1≤N:=by have:=take_len t4 rfl;have:=HL.o;omega
     have HDF:Hid (eo n d R= .ok (R.drop 1)∧N -(R.drop 1).length=a+1):=jd (by
      refine⟨by unfold eo;rw[if_neg t1,if_neg t2,if_neg t3,if_pos t4],?_⟩
      have:=HL.o
      rw[List.length_drop];omega)
     refine(gS R [63] true (beq_iff_eq.2 t4) _).mono ?_
     rintro x _ ⟨rfl,rfl⟩
     clear t1 t2 t3 t4 hp1 hp2 hp3
     go_wp2_with fail
     go_end0
     rw[HDF.o.1]
     refine⟨rfl,?_,((K1.drewN g w _).set _)⟩
     show bu _ g s _ d 0
     rw[HN.o,HDF.o.2]
     exact H.o.cp (a+1) (by omega)
    ·have hp4:(R.take [63].length==[63])=false:=beq_eq_false_iff_ne.2 t4
     have HDF:Hid (eo n d R= .ok (da true R)):=jd (by unfold eo;rw[if_neg t1,if_neg t2,if_neg t3,if_neg t4])
     refine(gS R [63] false hp4 _).mono ?_
     rintro x _ ⟨rfl,rfl⟩
     clear t1 t2 t3 t4 hp1 hp2 hp3 hp4
     obtain⟨R0,hR0⟩:∃R0,da true R=R0:=⟨_,rfl⟩
     rw[hR0] at HDF
     have HR0:=jd hR0
     clear hR0
     go_wp2_with fail
     go_loopg [] (N -a+1) (fun gk wx=>∃(a':Nat) (r:List UInt8) (first:Bool),gk=N -a'+1∧a'+r.length=N∧s.drop a'=r∧a≤a'∧((a':Int)==(a:Int))=first∧bu wx g s a' d 0∧da first r=R0∧K1 g w wx)
     case atStart=>exact⟨a,R,true,rfl,HL.o,HR.o,Nat.le_refl _,by simp,H.o.drewN _,HR0.o,K1.drewN g w _⟩
     case round=>
      obtain⟨a',r,first,rfl,hr,hdr,haa,hfirst,hsc,hnm,hk⟩:=hrel
      obtain⟨⟨c0,c1,c2,c3⟩,f1,f2,f3⟩:=hsc.cells
      have HSC:=jd hsc;have HK:=jd hk;have HDR:=jd hdr;have HNM:=jd hnm;have HRL:=jd hr
      clear hsc hk hdr hnm hr
      cases r with
      |nil=>
       have hb:(decide ((0:Nat)=0)&&decide (a'<s.length))=false:=by rw[HN.o];have:=HRL.o;simp at this;simp;omega
       have HB:=jd hb
       have HE:Hid (R0=[]∧N -([]:List UInt8).length=a'):=jd ⟨by rw[←HNM.o];unfold da;rfl,by have:=HRL.o;simp at this;simp;omega⟩
       clear hb
       go_wp2_with fail
       go_quiet ((go_at_call 40;exact Calls.quiet_of (bL _ g s a' d 0 (HSC.o.drewN _) false HB.o)))
       go_wp2_with fail
       go_end0
       rw[HDF.o,HE.o.1]
       refine⟨rfl,?_,HK.o.then (K1.drewN g _ _)⟩
       show bu _ g s _ d 0
       rw[HN.o,HE.o.2]
       exact HSC.o.drewN _
      |cons c r=>
       obtain⟨hc0,hd1,hl1⟩:=drop_cons HDR.o
       have g0:=fp hc0
       have HD1:=jd hd1
       have hlt:a'+1≤N:=by rw[HN.o] at hl1;omega
       have HL1:Hid (a'+1+r.length=N):=jd (by rw[HN.o] at hl1;omega)
       have hb:(decide ((0:Nat)=0)&&decide (a'<s.length))=true:=by rw[HN.o];simp;omega
       have HB:=jd hb
       clear hb hc0 hd1 hl1
       cases hlet:bJ c first with
       |true=>
        have HA:Hid (da false r=R0):=jd (by rw[←HNM.o,uU hlet])
        have HLET:=jd hlet
        clear hlet
        go_wp2_with fail
        go_quiet ((first|(go_at_call 40;exact Calls.quiet_of (bL _ g s a' d 0 (HSC.o.drewN _) true HB.o))|(go_at_call 82;exact Calls.quiet_of_same (HLET.o▸kI _ c first))))
        go_wp2_with fail
        go_roundg (N -(a'+1)+1)
        case measure=>omega
        case rel=>exact⟨a'+1,r,false,rfl,HL1.o,HD1.o,by omega,beq_eq_false_iff_ne.2 (by omega),HSC.o.cp (a'+1) (by omega),HA.o,(HK.o.then (K1.drewN g _ _)).set _⟩
       |false=>
        have HE:Hid (R0=c::r∧N -(c::r).length=a'):=jd ⟨by rw[←HNM.o,vN hlet],by have:=HL1.o;rw[List.length_cons];omega⟩
        have HLET:=jd hlet
        clear hlet
        go_wp2_with fail
        go_quiet ((first|(go_at_call 40;exact Calls.quiet_of (bL _ g s a' d 0 (HSC.o.drewN _) true HB.o))|(go_at_call 82;exact Calls.quiet_of_same (HLET.o▸kI _ c first))))
        go_wp2_with fail
        go_end0
        rw[HDF.o,HE.o.1]
        refine⟨rfl,?_,HK.o.then (K1.drewN g _ _)⟩
        show bu _ g s _ d 0
        rw[HN.o,HE.o.2]
        exact HSC.o.drewN _
end Go.Proofs.YtgigdlhcjahejaaGreatDoor
