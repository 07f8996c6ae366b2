/- Of the proof of ParseKnown: ParB, ParC. -/
import Derived.Test.YtgigdlhcjahejaaGreatDoorC28
namespace Go.Proofs.YtgigdlhcjahejaaGreatDoor
open Go Go.RowKit Go.Lw
set_option maxRecDepth 100000
set_option linter.unusedVariables false
set_option linter.unusedSimpArgs false
attribute [local go_sem] aq
set_option maxHeartbeats 8000000 in
theorem pv (T:TT) (w:World) (g d:Nat) (p:Ps) (h:RP T w g d p):
  Calls Tryz.prog 57 #[.pointer (some ⟨g,0,none⟩)] w (sw T w g d (.bool (aW p).1) (aW p).2):=by
 have H1:=jd (ed T w g d p h 3 (by decide))
 by_cases h3:aj p=3
 ·have e1:(aW p).1=true:=by unfold aW;rw[if_pos (.inl h3)]
  have e2:(aW p).2=az p:=by unfold aW;rw[if_pos (.inl h3)]
  rw[if_pos h3,decide_eq_true h3] at H1
  rw[e1,e2]
  clear h3 e1 e2 h
  go_enter Tryz.func57,Tryz.ntmps57
  go_wp2_with fail
  refine H1.o.mono ?_
  rintro x w1 ⟨rfl,r1,k1⟩
  have R1:=jd r1;have K1:=jd k1
  clear r1 k1
  go_wp2_with fail
  go_ret
  exact⟨rfl,R1.o,K1.o⟩
 ·rw[if_neg h3,decide_eq_false h3] at H1
  have H2:=jd (fun w1 (h1:RP T w1 g d p)=>ed T w1 g d p h1 2 (by decide))
  by_cases h2:aj p=2
  ·have e1:(aW p).1=true:=by unfold aW;rw[if_pos (.inr h2)]
   have e2:(aW p).2=az p:=by unfold aW;rw[if_pos (.inr h2)]
   rw[if_pos h2,decide_eq_true h2] at H2
   rw[e1,e2]
   clear h3 h2 e1 e2 h
   go_enter Tryz.func57,Tryz.ntmps57
   go_wp2_with fail
   refine H1.o.mono ?_
   rintro x w1 ⟨rfl,r1,k1⟩
   have R1:=jd r1;have K1:=jd k1
   clear r1 k1
   go_wp2_with fail
   refine(H2.o _ R1.o).mono ?_
   rintro x w2 ⟨rfl,r2,k2⟩
   have R2:=jd r2;have K2:=jd (K1.o.trans k2 (fun _ _ h=>h))
   clear r2 k2
   go_wp2_with fail
   go_ret
   exact⟨rfl,R2.o,K2.o⟩
  ·have e1:(aW p).1=false:=by unfold aW;rw[if_neg (fun e=>e.elim h3 h2)]
   have e2:(aW p).2=p:=by unfold aW;rw[if_neg (fun e=>e.elim h3 h2)]
   rw[if_neg h2,decide_eq_false h2] at H2
   rw[e1,e2]
   clear h3 h2 e1 e2 h
   go_enter Tryz.func57,Tryz.ntmps57
   go_wp2_with fail
   refine H1.o.mono ?_
   rintro x w1 ⟨rfl,r1,k1⟩
   have R1:=jd r1;have K1:=jd k1
   clear r1 k1
   go_wp2_with fail
   refine(H2.o _ R1.o).mono ?_
   rintro x w2 ⟨rfl,r2,k2⟩
   have R2:=jd r2;have K2:=jd (K1.o.trans k2 (fun _ _ h=>h))
   clear r2 k2
   go_wp2_with fail
   go_ret
   exact⟨rfl,R2.o,K2.o⟩
theorem yn {p:Ps} (h:aj p=2):aB (az p)=aB p:=by
 obtain⟨r,e⟩:=p
 cases r with
 |nil=>cases h
 |cons t r=>
  have h':t.kind=2:=h
  unfold aB az
  simp[h']
theorem yS {p:Ps} (h:aj p≠2):aB p=p:=by
 obtain⟨r,e⟩:=p
 cases r with
 |nil=>rfl
 |cons t r=>
  have h':t.kind≠2:=h
  unfold aB
  simp[h']
theorem eI {p:Ps} (h:aj p≠0):(az p).r.length+1=p.r.length:=by
 obtain⟨r,e⟩:=p
 cases r with
 |nil=>exact absurd rfl h
 |cons t r=>rfl
theorem qY (p:Ps):(az p).r.length≤p.r.length:=by
 obtain⟨r,e⟩:=p
 cases r with
 |nil=>exact Nat.le_refl _
 |cons t r=>exact Nat.le_succ _
theorem oe (p:Ps):(aB p).r.length≤p.r.length:=by
 unfold aB
 exact(List.dropWhile_suffix _).length_le
set_option maxHeartbeats 8000000 in
theorem eo (T:TT) (w:World) (g d:Nat) (p:Ps) (h:RP T w g d p):
  Calls Tryz.prog 25 #[.pointer (some ⟨g,0,none⟩)] w (sw T w g d (.tuple #[]) (aB p)):=by
 have HH:=jd h
 obtain⟨N,hN⟩:∃N,p.r.length=N:=⟨_,rfl⟩
 have HN:=jd hN
 clear h hN
 go_enter Tryz.func25,Tryz.ntmps25
 go_wp2_with fail
 go_loopg [2] N (fun gk s2 wx=>∃q:Ps,gk=q.r.length∧RP T wx g d q∧aB q=aB p∧Kept (fun b=>b=g) w wx)
 case atStart=>exact⟨p,HN.o.symm,HH.o,rfl,Kept.refl _ _⟩
 case round=>
  obtain⟨q,rfl,hq,hqr,hqk⟩:=hrel
  have HQ:=jd hq;have HQR:=jd hqr;have HQK:=jd hqk
  have H2:=jd (ed T wr g d q hq 2 (by decide))
  clear hq hqr hqk
  by_cases h2:aj q=2
  ·rw[if_pos h2,decide_eq_true h2] at H2
   have HE:=jd (yn h2)
   have HL:=jd (eI (p:=q) (by omega))
   clear h2
   go_wp2_with fail
   refine H2.o.mono ?_
   rintro x w2 ⟨rfl,r2,k2⟩
   have R2:=jd r2;have K2:=jd (HQK.o.trans k2 (fun _ _ h=>h))
   clear r2 k2
   try (go_wp2_with fail)
   go_roundg ((az q).r.length)
   case measure=>have:=HL.o;omega
   case rel=>exact⟨az q,rfl,R2.o,by rw[HE.o,HQR.o],K2.o⟩
  ·rw[if_neg h2,decide_eq_false h2] at H2
   have HE:=jd (yS h2)
   clear h2
   go_wp2_with fail
   refine H2.o.mono ?_
   rintro x w2 ⟨rfl,r2,k2⟩
   have R2:=jd r2;have K2:=jd (HQK.o.trans k2 (fun _ _ h=>h))
   clear r2 k2
   go_wp2_with fail
   go_end0
   exact⟨rfl,by rw[←HQR.o,HE.o];exact R2.o,K2.o⟩
set_option maxHeartbeats 8000000 in
theorem vG (w:World) (s:List UInt8):Calls Tryz.prog 58 #[.string (BA s)] w fun x w'=>x= .returned (.bool (gm s))∧w'=w:=by
 by_cases h0:s=[125]
 ·have HB:Hid (gm s=true):=jd (by rw[h0];decide)
  have f0:(BA s==(⟨#[125]⟩:ByteArray))=true:=by rw[h0];exact(a8 [125] [125]).trans (by decide)
  have e0:(s==[125])=true:=by rw[h0];decide
  clear h0
  go_enter Tryz.func58,Tryz.ntmps58
  go_wp2_with fail
  go_ret
  exact⟨by rw[HB.o];rfl,rfl⟩
 have f0:(BA s==(⟨#[125]⟩:ByteArray))=false:=(a8 s [125]).trans (by simpa using h0)
 have e0:(s==[125])=false:=by simpa using h0
 by_cases h1:s=[116,104,101,110]
 ·have HB:Hid (gm s=true):=jd (by rw[h1];decide)
  have f1:(BA s==(⟨#[116,104,101,110]⟩:ByteArray))=true:=by rw[h1];exact(a8 [116,104,101,110] [116,104,101,110]).trans (by decide)
  have e1:(s==[116,104,101,110])=true:=by rw[h1];decide
  clear h1
  go_enter Tryz.func58,Tryz.ntmps58
  go_wp2_with fail
  go_ret
  exact⟨by rw[HB.o];rfl,rfl⟩
 have f1:(BA s==(⟨#[116,104,101,110]⟩:ByteArray))=false:=(a8 s [116,104,101,110]).trans (by simpa using h1)
 have e1:(s==[116,104,101,110])=false:=by simpa using h1
 by_cases h2:s=[101,108,105,102]
 ·have HB:Hid (gm s=true):=jd (by rw[h2];decide)
  have f2:(BA s==(⟨#[101,108,105,102]⟩:ByteArray))=true:=by rw[h2];exact(a8 [101,108,105,102] [101,108,105,102]).trans (by decide)
  have e2:(s==[101,108,105,102])=true:=by rw[h2];decide
  clear h2
  go_enter Tryz.func58,Tryz.ntmps58
  go_wp2_with fail
  go_ret
  exact⟨by rw[HB.o];rfl,rfl⟩
 have f2:(BA s==(⟨#[101,108,105,102]⟩:ByteArray))=false:=(a8 s [101,108,105,102]).trans (by simpa using h2)
 have e2:(s==[101,108,105,102])=false:=by simpa using h2
 by_cases h3:s=[101,108,115,101]
 ·have HB:Hid (gm s=true):=jd (by rw[h3];decide)
  have f3:(BA s==(⟨#[101,108,115,101]⟩:ByteArray))=true:=by rw[h3];exact(a8 [101,108,115,101] [101,108,115,101]).trans (by decide)
  have e3:(s==[101,108,115,101])=true:=by rw[h3];decide
  clear h3
  go_enter Tryz.func58,Tryz.ntmps58
  go_wp2_with fail
  go_ret
  exact⟨by rw[HB.o];rfl,rfl⟩
 have f3:(BA s==(⟨#[101,108,115,101]⟩:ByteArray))=false:=(a8 s [101,108,115,101]).trans (by simpa using h3)
 have e3:(s==[101,108,115,101])=false:=by simpa using h3
 by_cases h4:s=[102,105]
 ·have HB:Hid (gm s=true):=jd (by rw[h4];decide)
  have f4:(BA s==(⟨#[102,105]⟩:ByteArray))=true:=by rw[h4];exact(a8 [102,105] [102,105]).trans (by decide)
  have e4:(s==[102,105])=true:=by rw[h4];decide
  clear h4
  go_enter Tryz.func58,Tryz.ntmps58
  go_wp2_with fail
  go_ret
  exact⟨by rw[HB.o];rfl,rfl⟩
 have f4:(BA s==(⟨#[102,105]⟩:ByteArray))=false:=(a8 s [102,105]).trans (by simpa using h4)
 have e4:(s==[102,105])=false:=by simpa using h4
 by_cases h5:s=[100,111]
 ·have HB:Hid (gm s=true):=jd (by rw[h5];decide)
  have f5:(BA s==(⟨#[100,111]⟩:ByteArray))=true:=by rw[h5];exact(a8 [100,111] [100,111]).trans (by decide)
  have e5:(s==[100,111])=true:=by rw[h5];decide
  clear h5
  go_enter Tryz.func58,Tryz.ntmps58
  go_wp2_with fail
  go_ret
  exact⟨by rw[HB.o];rfl,rfl⟩
 have f5:(BA s==(⟨#[100,111]⟩:ByteArray))=false:=(a8 s [100,111]).trans (by simpa using h5)
 have e5:(s==[100,111])=false:=by simpa using h5
 by_cases h6:s=[100,111,110,101]
 ·have HB:Hid (gm s=true):=jd (by rw[h6];decide)
  have f6:(BA s==(⟨#[100,111,110,101]⟩:ByteArray))=true:=by rw[h6];exact(a8 [100,111,110,101] [100,111,110,101]).trans (by decide)
  have e6:(s==[100,111,110,101])=true:=by rw[h6];decide
  clear h6
  go_enter Tryz.func58,Tryz.ntmps58
  go_wp2_with fail
  go_ret
  exact⟨by rw[HB.o];rfl,rfl⟩
 have f6:(BA s==(⟨#[100,111,110,101]⟩:ByteArray))=false:=(a8 s [100,111,110,101]).trans (by simpa using h6)
 have e6:(s==[100,111,110,101])=false:=by simpa using h6
 have HB:Hid (gm s=false):=jd (by unfold gm;simp[jv,eB,dU,et,rFi,rDo,cy,-List.cons.injEq,h0,h1,h2,h3,h4,h5,h6])
 clear h0 h1 h2 h3 h4 h5 h6
 go_enter Tryz.func58,Tryz.ntmps58
 go_wp2_with fail
 go_ret
 exact⟨by rw[HB.o];rfl,rfl⟩
theorem tz {p:Ps} (h:aj p≠1):aT p=[]:=by
 obtain⟨r,e⟩:=p
 cases r with
 |nil=>rfl
 |cons t r=>
  have h':¬t.kind=1:=h
  unfold aT
  simp[h']
theorem xU {t:Tk} {r:List Tk} {e:Nat} (h:fz t.text=false):aT ⟨t::r,e⟩=[]:=by
 unfold aT
 simp[h]
theorem yB {t:Tk} {r:List Tk} {e:Nat} (hk:t.kind=1) (h:fz t.text=true):aT ⟨t::r,e⟩=t.text:=by
 unfold aT
 simp[h,hk]
set_option maxHeartbeats 16000000 in
theorem fH (T:TT) (w:World) (g d:Nat) (p:Ps) (h:RP T w g d p) (hE:bu w):
  Calls Tryz.prog 59 #[.pointer (some ⟨g,0,none⟩)] w fun x w'=>x= .returned (.string (BA (aT p)))∧Kept (fun _=>False) w w':=by
 have HP:=jd h;have HE:=jd hE
 obtain⟨at_,hd,hr⟩:=h
 have HR:=jd hr
 have hs:=hr.short;have hle:=hr.le;have hlt:=hr.lt
 obtain⟨N,hN⟩:∃N,T.L.length=N:=⟨_,rfl⟩
 rw[hN] at hs hle
 have HN:=jd hN
 by_cases hk:aj p=1
 ·obtain⟨r,e⟩:=p
  cases r with
  |nil=>cases hk
  |cons t r=>
   obtain⟨ha,ht,_⟩:=cx hd
   have ha':at_<N:=by rw[←hN];exact ha
   have hkt:t.kind=1:=hk
   obtain⟨b,off,e1,t0,t1,tl⟩:=gA hr.tok ht
   have HAD:=jd e1;have HT1:=jd t1
   obtain⟨p,hp⟩:∃p,(⟨t::r,e⟩:Ps)=p:=⟨_,rfl⟩
   have hkp:aj p=1:=by rw[←hp];exact hk
   rw[hp] at HP
   obtain⟨rb,hrb⟩:∃rb,fz t.text=rb:=⟨_,rfl⟩
   have HKP:=jd hkp
   have HRV:Hid (aT p=if rb then t.text else[]):=jd (by
    rw[←hp]
    cases rb with
    |true=>exact yB hkt hrb
    |false=>exact xU hrb)
   have HRB:=jd hrb
   obtain⟨tx,htx⟩:∃tx,t.text=tx:=⟨_,rfl⟩
   rw[htx] at HRB HRV HT1
   rw[hp]
   clear hd hr hN hk ha ht e1 t0 t1 hp hkp hrb htx hkt
   go_enter Tryz.func59,Tryz.ntmps59
   go_wp2_with fail
   refine aY 17 [stV (.pointer (some ⟨g,0,none⟩)),stV (.int .i64 ((1:Nat):Int)),stV (.bool false),stV (.bool false),stV (.pointer (some ⟨g,0,none⟩)),stV (.pointer (some ⟨g,0,none⟩)),stV (.pointer (some ⟨g,0,none⟩)),stV (.slice (some ⟨b,off,none⟩) N T.c),stV (.pointer (some ⟨g,0,none⟩)),stV (.pointer (some ⟨g,0,none⟩)),stV (.pointer (some ⟨g,1,none⟩)),stV (.int .i64 (at_:Int)),stV (.pointer (some ⟨b,off+at_*3,none⟩)),stV (.pointer (some ⟨b,off+at_*3+1,none⟩)),stV (.string (BA tx)),stV (.bool rb),stV (.bool (!rb))] (by kernel_rfl) (by kernel_rfl) ?_ ?_
   ·refine ae (fun a' w' hI hag hf K hK=>?_) ?_
    ·have s0:=hag.same 0 (by decide)
     clear hag
     go_wp2_with fail
     exact hK _ _ hI (Kept.refl _ _) rfl
    refine ae (fun a' w' hI hag hf K hK=>?_) ?_
    ·obtain⟨⟨_,h0,rfl⟩,-⟩:ay _ _ a' w' [0]:=hf
     clear hag
     go_wp2_with fail
     refine(ct T _ g d p (HP.o.af hI)).mono ?_
     rintro e wn ⟨rfl,hkn⟩
     rw[HKP.o]
     go_wp2_with fail
     exact hK _ _ (hI.trans hkn (fun _ _ h=>h)) hkn rfl
    iterate 13
     refine ae (fun a' w' hI hag hf K hK=>?_) ?_
     ·obtain⟨⟨_,h0,rfl⟩,⟨_,h1,rfl⟩,⟨_,h2,rfl⟩,-⟩:=hf
      have s0:=hag.same 0 (by decide)
      clear hag
      have RX:=HR.o.af hI
      obtain⟨⟨c0,c1,c2,c3⟩,-⟩:=RX.cells
      rw[HN.o] at c0
      clear RX
      rw[HAD.o] at c0
      have RX:=HR.o.af hI
      obtain⟨⟨c0,c1,c2,c3⟩,-⟩:=RX.cells
      rw[HN.o] at c0
      clear RX
      have tt:=hI.cell HT1.o (fun h=>h)
      go_wp2_with fail
      exact hK _ _ hI (Kept.refl _ _) rfl
    refine ae (fun a' w' hI hag hf K hK=>?_) ?_
    ·obtain⟨⟨_,h14,rfl⟩,⟨_,h3,rfl⟩,-⟩:ay _ _ a' w' [14,3]:=hf
     clear hag
     go_wp2_with fail
     refine(nO _ tx (HE.o.af hI)).mono ?_
     rintro e wn ⟨rfl,hwn⟩
     obtain rfl:=hwn.symm
     rw[HRB.o]
     go_wp2_with fail
     exact hK _ _ hI (Kept.refl _ _) rfl
    refine ae (fun a' w' hI hag hf K hK=>?_) ?_
    ·obtain⟨⟨_,h0,rfl⟩,⟨_,h1,rfl⟩,-⟩:=hf
     clear hag
     go_wp2_with fail
     exact hK _ _ hI (Kept.refl _ _) rfl
    exact trivial
   ·intro vs wz hI hvs
    simp only[pzz,aK,Act.put,Nat.reduceAdd,spv (hvs 0 _ _ rfl rfl) rfl,spv (hvs 1 _ _ rfl rfl) rfl,spv (hvs 2 _ _ rfl rfl) rfl,spv (hvs 3 _ _ rfl rfl) rfl,spv (hvs 4 _ _ rfl rfl) rfl,spv (hvs 5 _ _ rfl rfl) rfl,spv (hvs 6 _ _ rfl rfl) rfl,spv (hvs 7 _ _ rfl rfl) rfl,spv (hvs 8 _ _ rfl rfl) rfl,spv (hvs 9 _ _ rfl rfl) rfl,spv (hvs 10 _ _ rfl rfl) rfl,spv (hvs 11 _ _ rfl rfl) rfl,spv (hvs 12 _ _ rfl rfl) rfl,spv (hvs 13 _ _ rfl rfl) rfl,spv (hvs 14 _ _ rfl rfl) rfl,spv (hvs 15 _ _ rfl rfl) rfl,spv (hvs 16 _ _ rfl rfl) rfl]
    clear hvs
    have KZ:=jd hI
    clear hI
    cases rb with
    |false=>
     go_wp2_with fail
     go_ret
     exact⟨by rw[HRV.o];rfl,KZ.o⟩
    |true=>
     obtain⟨wy,rfl⟩:∃wy:World,wy=wz:=⟨_,rfl⟩
     have HR0:=jd HR.o
     replace HR:=jd (HR.o.af KZ.o)
     replace HT1:=jd (KZ.o.cell HT1.o (fun h=>h))
     go_wp2_with fail
     refine aY 11 [stV (.pointer (some ⟨g,0,none⟩)),stV (.pointer (some ⟨g,0,none⟩)),stV (.pointer (some ⟨g,0,none⟩)),stV (.slice (some ⟨b,off,none⟩) N T.c),stV (.pointer (some ⟨g,0,none⟩)),stV (.pointer (some ⟨g,0,none⟩)),stV (.pointer (some ⟨g,1,none⟩)),stV (.int .i64 (at_:Int)),stV (.pointer (some ⟨b,off+at_*3,none⟩)),stV (.pointer (some ⟨b,off+at_*3+1,none⟩)),stV (.string (BA tx))] (by kernel_rfl) (by kernel_rfl) ?_ ?_
     ·iterate 11
       refine ae (fun a' w' hI hag hf K hK=>?_) ?_
       ·obtain⟨⟨_,h0,rfl⟩,⟨_,h1,rfl⟩,-⟩:=hf
        have s0:=hag.same 0 (by decide)
        clear hag
        have RX:=HR.o.af hI
        obtain⟨⟨c0,c1,c2,c3⟩,-⟩:=RX.cells
        rw[HN.o] at c0
        clear RX
        rw[HAD.o] at c0
        have RX:=HR.o.af hI
        obtain⟨⟨c0,c1,c2,c3⟩,-⟩:=RX.cells
        rw[HN.o] at c0
        clear RX
        have tt:=hI.cell HT1.o (fun h=>h)
        go_wp2_with fail
        exact hK _ _ hI (Kept.refl _ _) rfl
      exact trivial
     ·intro vs wq hI hvs
      simp only[pzz,aK,Act.put,Nat.reduceAdd,spv (hvs 0 _ _ rfl rfl) rfl,spv (hvs 1 _ _ rfl rfl) rfl,spv (hvs 2 _ _ rfl rfl) rfl,spv (hvs 3 _ _ rfl rfl) rfl,spv (hvs 4 _ _ rfl rfl) rfl,spv (hvs 5 _ _ rfl rfl) rfl,spv (hvs 6 _ _ rfl rfl) rfl,spv (hvs 7 _ _ rfl rfl) rfl,spv (hvs 8 _ _ rfl rfl) rfl,spv (hvs 9 _ _ rfl rfl) rfl,spv (hvs 10 _ _ rfl rfl) rfl]
      clear hvs
      have KQ:=jd hI
      clear hI
      go_wp2_with fail
      go_ret
      exact⟨by rw[HRV.o];rfl,KZ.o.trans KQ.o (fun _ _ h=>h)⟩
 ·have HKV:=jd (tz hk)
  have hne:((aj p:Int) !=1)=true:=by simp[bne];omega
  have hne2:(aj p !=1)=true:=by simp[bne];exact hk
  obtain⟨kp,hkp⟩:∃kp,aj p=kp:=⟨_,rfl⟩
  have HKP:=jd hkp
  rw[hkp] at hne hne2
  clear hd hr hN hk hkp
  go_enter Tryz.func59,Tryz.ntmps59
  go_wp2_with fail
  refine aY 17 [stV (.pointer (some ⟨g,0,none⟩)),stV (.int .i64 (kp:Int)),stV (.bool true),stV (.bool true),stV undef,stV undef,stV undef,stV undef,stV undef,stV undef,stV undef,stV undef,stV undef,stV undef,stV undef,stV undef,stV undef] (by kernel_rfl) (by kernel_rfl) ?_ ?_
  ·refine ae (fun a' w' hI hag hf K hK=>?_) ?_
   ·have s0:=hag.same 0 (by decide)
    clear hag
    go_wp2_with fail
    exact hK _ _ hI (Kept.refl _ _) rfl
   refine ae (fun a' w' hI hag hf K hK=>?_) ?_
   ·obtain⟨⟨_,h0,rfl⟩,-⟩:ay _ _ a' w' [0]:=hf
    clear hag
    go_wp2_with fail
    refine(ct T _ g d p (HP.o.af hI)).mono ?_
    rintro e wn ⟨rfl,hkn⟩
    rw[HKP.o]
    go_wp2_with fail
    exact hK _ _ (hI.trans hkn (fun _ _ h=>h)) hkn rfl
   iterate 15
    refine ae (fun a' w' hI hag hf K hK=>?_) ?_
    ·obtain⟨⟨_,h0,rfl⟩,⟨_,h1,rfl⟩,⟨_,h2,rfl⟩,-⟩:=hf
     have s0:=hag.same 0 (by decide)
     clear hag
     go_wp2_with fail
     exact hK _ _ hI (Kept.refl _ _) rfl
   exact trivial
  ·intro vs wz hI hvs
   simp only[pzz,aK,Act.put,Nat.reduceAdd,spv (hvs 0 _ _ rfl rfl) rfl,spv (hvs 1 _ _ rfl rfl) rfl,spv (hvs 2 _ _ rfl rfl) rfl,spv (hvs 3 _ _ rfl rfl) rfl,spv (hvs 4 _ _ rfl rfl) rfl,spv (hvs 5 _ _ rfl rfl) rfl,spv (hvs 6 _ _ rfl rfl) rfl,spv (hvs 7 _ _ rfl rfl) rfl,spv (hvs 8 _ _ rfl rfl) rfl,spv (hvs 9 _ _ rfl rfl) rfl,spv (hvs 10 _ _ rfl rfl) rfl,spv (hvs 11 _ _ rfl rfl) rfl,spv (hvs 12 _ _ rfl rfl) rfl,spv (hvs 13 _ _ rfl rfl) rfl,spv (hvs 14 _ _ rfl rfl) rfl,spv (hvs 15 _ _ rfl rfl) rfl,spv (hvs 16 _ _ rfl rfl) rfl]
   clear hvs
   have KZ:=jd hI
   clear hI
   go_wp2_with fail
   go_ret
   exact⟨by rw[HKV.o];rfl,KZ.o⟩
theorem nA {p:Ps} {s:List UInt8} (h:aT p=s) (hs:s≠[]):∃t r,p.r=t::r∧t.kind=1∧t.text=s∧fz s=true:=by
 obtain⟨r,e⟩:=p
 cases r with
 |nil=>exact absurd h.symm hs
 |cons t r=>
  unfold aT at h
  dsimp only at h
  split at h
  ·rename_i h1
   exact⟨t,r,rfl,h1.1,h,by rw[←h];exact h1.2⟩
  ·exact absurd h.symm hs
set_option maxHeartbeats 8000000 in
theorem eM (T:TT) (w:World) (g d:Nat) (p:Ps) (h:RP T w g d p) (hE:bu w) (s:List UInt8) (hs0:s≠[]):
  Calls Tryz.prog 108 #[.pointer (some ⟨g,0,none⟩),.string (BA s)] w (sw T w g d (.tuple #[]) (aH s p)):=by
 have HV:=jd (fH T w g d p h hE)
 have HP:=jd h
 obtain⟨rv,hrv⟩:∃rv,aT p=rv:=⟨_,rfl⟩
 rw[hrv] at HV
 by_cases hs:rv=s
 ·have HM:Hid (aH s p=az p):=jd (by unfold aH;rw[if_pos (hrv.trans hs)])
  obtain⟨t,r,hpr,_⟩:=nA (hrv.trans hs) hs0
  have HPR:=jd hpr
  have d1:(BA rv !=BA s)=false:=by rw[hs];simp[bne,a8]
  have d2:(rv !=s)=false:=by rw[hs];simp
  have d3:(rv==s)=true:=by rw[hs];simp
  clear hs h hE hrv hpr hs0
  go_enter Tryz.func108,Tryz.ntmps108
  go_wp2_with fail
  refine HV.o.mono ?_
  rintro x w1 ⟨rfl,k1⟩
  obtain⟨at_,hd,hr⟩:=HP.o.af k1
  rw[HPR.o] at hd
  obtain⟨ha,ht,hd2⟩:=cx hd
  obtain⟨⟨c0,c1,c2,c3⟩,f1,f2,f3⟩:=hr.cells
  have hs:=hr.short
  have hlt:=hr.lt
  have HRR:=jd hr;have HA:=jd ha;have HD2:=jd hd2;have K1:=jd k1
  have q1:at_≤2048:=by omega
  have KK:Hid (Kept (fun b=>b=g) w1 (w1.setCell ⟨g,1,none⟩ (.int .i64 ((at_+1:Nat):Int)))):=jd ((Kept.refl (fun b=>b=g) w1).set g 1 (fun _=>rfl) _)
  clear hd hr ht ha hd2 hs k1
  go_wp2_with fail
  go_end0
  exact⟨rfl,by rw[HM.o];exact⟨at_+1,by unfold az;rw[HPR.o];exact HD2.o,HRR.o.setAt HA.o⟩,(K1.o.mono (fun _ _ h=>h.elim)).trans KK.o (fun _ _ h=>h)⟩
 ·have HM:Hid (aH s p=bd p 5):=jd (by unfold aH;rw[if_neg (fun e=>hs (hrv.symm.trans e))])
  have d1:(BA rv !=BA s)=true:=by simp[bne,a8,hs]
  have d2:(rv !=s)=true:=by simp[bne,hs]
  have d3:(rv==s)=false:=by simp[hs]
  clear hs h hE hrv hs0
  go_enter Tryz.func108,Tryz.ntmps108
  go_wp2_with fail
  refine HV.o.mono ?_
  rintro x w1 ⟨rfl,k1⟩
  have K1:=jd k1
  have HFL:=jd (cV T w1 g d p (HP.o.af k1) 5)
  clear k1
  go_wp2_with fail
  refine HFL.o.mono ?_
  rintro x w2 ⟨rfl,r2,k2⟩
  have R2:=jd r2;have K2:=jd ((K1.o.mono (S':=fun b=>b=g) (fun _ _ h=>h.elim)).trans k2 (fun _ _ h=>h))
  clear r2 k2
  go_wp2_with fail
  go_end0
  exact⟨rfl,by rw[HM.o];exact R2.o,K2.o⟩
def uA (T:TT) (w:World) (g d:Nat) (l:List Prt) (p:Ps) (x:Ending) (w':World):Prop:=
 ∃v,x= .returned v∧WAt w' (fun b=>w.heap.size≤b) v l∧RP T w' g d p∧Kept (fun b=>b=g) w w'
def stW (F:Nat→Prop) (l:List Prt):ey:=⟨fun v w=>WAt w F v l,fun _ _ _ hk h=>h.kept hk (fun _ _ h=>h)⟩
def Bd (F:Nat→Prop) (l:List Prt) (e:Nat):ey:=⟨fun v w=>∃u,v= .tuple #[u,.int .i64 (e:Int)]∧WAt w F u l,fun _ _ _ hk ⟨u,h1,h2⟩=>⟨u,h1,h2.kept hk (fun _ _ h=>h)⟩⟩
theorem tC {p:Ps} (h:aj p≠1):aQ p=([],bd p 5):=by
 obtain⟨r,e⟩:=p
 cases r with
 |nil=>rfl
 |cons t r=>
  have h':¬t.kind=1:=h
  unfold aQ
  simp[h']
def pwF (s:List UInt8):List Prt×Nat:=match bG s with
 |.ok l=>(l,0)
 |.error e=>([],e)
theorem ye {t:Tk} {r:List Tk} {e:Nat} (hk:t.kind=1):aQ ⟨t::r,e⟩=((pwF t.text).1,if(pwF t.text).2=0 then⟨r,e⟩ else bd ⟨r,e⟩ (pwF t.text).2):=by
 unfold aQ pwF
 simp only[hk,if_true]
 cases hp:bG t.text with
 |ok l=>rfl
 |error e'=>
  have:e'≠0:=nU hp
  simp[this]
set_option maxHeartbeats 16000000 in
theorem iX (T:TT) (w:World) (g d:Nat) (p:Ps) (h:RP T w g d p) (hE:cG w):
  Calls Tryz.prog 98 #[.pointer (some ⟨g,0,none⟩)] w (uA T w g d (aQ p).1 (aQ p).2):=by
 have HK:=jd (ct T w g d p h)
 have HP:=jd h;have HE:=jd hE
 by_cases hk:aj p=1
 ·obtain⟨at_,hd,hr⟩:=h
  have hs:=hr.short;have hle:=hr.le;have hlt:=hr.lt
  have HR0:=jd hr
  obtain⟨r,e⟩:=p
  cases r with
  |nil=>cases hk
  |cons t r=>
   obtain⟨ha,ht,hd2⟩:=cx hd
   obtain⟨N,hN⟩:∃N,T.L.length=N:=⟨_,rfl⟩
   rw[hN] at hs hle
   have HN:=jd hN
   have ha':at_<N:=by rw[←hN];exact ha
   have hkt:t.kind=1:=hk
   obtain⟨b,off,e1,t0,t1,tl⟩:=gA hr.tok ht
   have hbg:b≠g:=hr.ne b (by rw[show T.v= .slice T.ad T.L.length T.c from rfl,e1];exact rfl)
   have htl:=(hr.toks t (List.mem_of_getElem? ht)).2
   have HAD:=jd e1;have HT0:=jd t1;have HD2:=jd hd2;have HBG:=jd hbg;have HA:=jd ha
   have HWE:=jd (ye (r:=r) (e:=e) hkt)
   obtain⟨p,hp⟩:∃p,(⟨t::r,e⟩:Ps)=p:=⟨_,rfl⟩
   have hkp:aj p=1:=by rw[←hp];exact hk
   rw[hp] at HP HK HWE⊢
   rw[hkp] at HK
   obtain⟨tx,htx⟩:∃tx,t.text=tx:=⟨_,rfl⟩
   rw[htx] at HT0 HWE htl
   have HTL:=jd htl
   have htz:(BA tx).size≤2048:=by rw[ag];exact htl
   clear hd hr hN hk ha ht e1 t0 t1 hp hkp htx hkt hd2 htl hbg
   go_enter Tryz.func98,Tryz.ntmps98
   go_wp2_with fail
   refine HK.o.mono ?_
   rintro x w1 ⟨rfl,k1⟩
   have K1:=jd k1
   have HR:=jd (HR0.o.af k1)
   have HT1:=jd (k1.cell HT0.o (fun h=>h))
   have hblt:b<w1.heap.size:=World.block_lt_of_cell? w1 _ HT1.o
   have HPW:=jd (fun wx (kx:Kept (fun _=>False) w1 wx)=>iT wx tx ((HE.o.af k1).af kx) (by have:=HTL.o;omega))
   have hz1:=k1.size
   have HZ1:=jd hz1
   obtain⟨wl,hwl⟩:∃wl,(pwF tx).1=wl:=⟨_,rfl⟩
   obtain⟨we,hwe⟩:∃we,(pwF tx).2=we:=⟨_,rfl⟩
   rw[hwl,hwe] at HWE
   have HPF:Hid (∀{wx:World} {x:Ending} {w':World},w1.heap.size≤wx.heap.size→cq wx tx x w'→∃u,x= .returned (.tuple #[u,.int .i64 (we:Int)])∧WAt w' (fun b=>w1.heap.size≤b) u wl):=jd (by
    intro hz hx
    unfold cq at hx
    unfold pwF at hwl hwe
    cases hp:bG tx with
    |ok l=>
     rw[hp] at hx hwl hwe
     obtain⟨v,rfl,hv⟩:=hx
     subst hwl;subst hwe
     exact⟨v,rfl,hv.mono (fun b _ hb=>Nat.le_trans hz hb)⟩
    |error e'=>
     rw[hp] at hx hwl hwe
     subst hwl;subst hwe
     exact⟨_,hx,WAt.nil _ _⟩)
   clear k1 hwl hwe
   go_wp2_with fail
   refine aY 16 [stV (.pointer (some ⟨g,0,none⟩)),stV (.pointer (some ⟨g,0,none⟩)),stV (.pointer (some ⟨g,0,none⟩)),stV (.slice (some ⟨b,off,none⟩) N T.c),stV (.pointer (some ⟨g,0,none⟩)),stV (.pointer (some ⟨g,0,none⟩)),stV (.pointer (some ⟨g,1,none⟩)),stV (.int .i64 (at_:Int)),stV (.pointer (some ⟨b,off+at_*3,none⟩)),stV (.pointer (some ⟨b,off+at_*3+1,none⟩)),stV (.string (BA tx)),Bd (fun b=>w1.heap.size≤b) wl we,Bd (fun b=>w1.heap.size≤b) wl we,stW (fun b=>w1.heap.size≤b) wl,stV (.int .i64 (we:Int)),stW (fun b=>w1.heap.size≤b) wl] (by kernel_rfl) (by kernel_rfl) ?_ ?_
   ·iterate 11
     refine ae (fun a' w' hI hag hf K hK=>?_) ?_
     ·obtain⟨⟨_,h0,rfl⟩,⟨_,h1,rfl⟩,-⟩:=hf
      have s0:=hag.same 0 (by decide)
      clear hag
      have RX:=HR.o.af hI
      obtain⟨⟨c0,c1,c2,c3⟩,-⟩:=RX.cells
      rw[HN.o] at c0
      clear RX
      rw[HAD.o] at c0
      have RX:=HR.o.af hI
      obtain⟨⟨c0,c1,c2,c3⟩,-⟩:=RX.cells
      rw[HN.o] at c0
      clear RX
      have tt:=hI.cell HT1.o (fun h=>h)
      go_wp2_with fail
      exact hK _ _ hI (Kept.refl _ _) rfl
    refine ae (fun a' w' hI hag hf K hK=>?_) ?_
    ·obtain⟨⟨_,h10,rfl⟩,-⟩:ay _ _ a' w' [10]:=hf
     clear hag
     go_wp2_with fail
     refine(HPW.o _ hI).mono ?_
     rintro ex wn ⟨hx,hkn⟩
     obtain⟨u,rfl,hu⟩:=HPF.o hI.size hx
     go_wp2_with fail
     exact hK _ _ (hI.trans hkn (fun _ _ h=>h)) hkn ⟨u,rfl,hu⟩
    refine ae (fun a' w' hI hag hf K hK=>?_) ?_
    ·obtain⟨⟨v11,h11,e11⟩,-⟩:ay _ _ a' w' [11]:=hf
     clear hag
     go_wp2_with fail
     exact hK _ _ hI (Kept.refl _ _) e11
    refine ae (fun a' w' hI hag hf K hK=>?_) ?_
    ·obtain⟨⟨v12,h12,e12⟩,-⟩:ay _ _ a' w' [12]:=hf
     clear hag
     obtain⟨u,rfl,hu⟩:=e12
     go_wp2_with fail
     exact hK _ _ hI (Kept.refl _ _) hu
    refine ae (fun a' w' hI hag hf K hK=>?_) ?_
    ·obtain⟨⟨v12,h12,e12⟩,-⟩:ay _ _ a' w' [12]:=hf
     clear hag
     obtain⟨u,rfl,hu⟩:=e12
     go_wp2_with fail
     exact hK _ _ hI (Kept.refl _ _) rfl
    refine ae (fun a' w' hI hag hf K hK=>?_) ?_
    ·obtain⟨⟨v13,h13,e13⟩,-⟩:ay _ _ a' w' [13,11,0,1,2,3,4,5,6,7,8,9,10,12]:=hf
     clear hag
     go_wp2_with fail
     exact hK _ _ hI (Kept.refl _ _) e13
    exact trivial
   ·intro vs wz hI hvs
    have q11:=hvs 11 _ _ rfl rfl
    have q12:=hvs 12 _ _ rfl rfl
    have q13:=hvs 13 _ _ rfl rfl
    have q15:=hvs 15 _ _ rfl rfl
    simp only[pzz,aK,Act.put,Nat.reduceAdd,spv (hvs 0 _ _ rfl rfl) rfl,spv (hvs 1 _ _ rfl rfl) rfl,spv (hvs 2 _ _ rfl rfl) rfl,spv (hvs 3 _ _ rfl rfl) rfl,spv (hvs 4 _ _ rfl rfl) rfl,spv (hvs 5 _ _ rfl rfl) rfl,spv (hvs 6 _ _ rfl rfl) rfl,spv (hvs 7 _ _ rfl rfl) rfl,spv (hvs 8 _ _ rfl rfl) rfl,spv (hvs 9 _ _ rfl rfl) rfl,spv (hvs 10 _ _ rfl rfl) rfl,spv (hvs 14 _ _ rfl rfl) rfl]
    clear hvs
    generalize vs 11=x11 at*
    generalize vs 12=x12 at*
    generalize vs 13=x13 at*
    generalize vs 15=x15 at*
    have KZ:=jd hI
    have RZ:=jd (HR.o.af hI)
    have HW:=jd (show WAt wz _ x15 wl from q15)
    clear hI q11 q12 q13 q15
    obtain⟨⟨c0,c1,c2,c3⟩,f1,f2,f3⟩:=RZ.o.cells
    have hlz:g<wz.heap.size:=RZ.o.lt
    have q1:at_≤2048:=by omega
    have KS:Hid (Kept (fun b=>b=g) wz (wz.setCell ⟨g,1,none⟩ (.int .i64 ((at_+1:Nat):Int)))):=jd ((Kept.refl (fun b=>b=g) wz).set g 1 (fun _=>rfl) _)
    have RS:Hid (RA T (wz.setCell ⟨g,1,none⟩ (.int .i64 ((at_+1:Nat):Int))) g (at_+1) d e):=jd (RZ.o.setAt HA.o)
    have HWS:=jd (HW.o.kept KS.o (fun b hb e=>by have e':b=g:=e;have hb':w1.heap.size≤b:=hb;have:=HR.o.lt;omega))
    have KW:Hid (Kept (fun b=>b=g) w (wz.setCell ⟨g,1,none⟩ (.int .i64 ((at_+1:Nat):Int)))):=jd ((((K1.o.trans KZ.o (fun _ _ h=>h)).mono (S':=fun b=>b=g) (fun _ _ h=>h.elim))).trans KS.o (fun _ _ h=>h))
    by_cases hw0:we=0
    ·have d1:((we:Int) !=0)=false:=by rw[hw0];rfl
     have d2:(we !=0)=false:=by rw[hw0];rfl
     rw[if_pos hw0] at HWE
     clear hw0
     go_wp2_with fail
     go_ret
     exact⟨_,rfl,by rw[HWE.o];exact HWS.o.mono (fun b _ hb=>Nat.le_trans HZ1.o hb),by rw[HWE.o];exact⟨at_+1,HD2.o,RS.o⟩,KW.o⟩
    ·have d1:((we:Int) !=0)=true:=by simp[bne];omega
     have d2:(we !=0)=true:=by simp[bne];omega
     rw[if_neg hw0] at HWE
     have HFL:=jd (cV T (wz.setCell ⟨g,1,none⟩ (.int .i64 ((at_+1:Nat):Int))) g d ⟨r,e⟩ ⟨at_+1,HD2.o,RS.o⟩ we)
     clear hw0
     go_wp2_with fail
     refine HFL.o.mono ?_
     rintro ex w9 ⟨rfl,r9,k9⟩
     have R9:=jd r9;have K9:=jd k9
     clear r9 k9
     go_wp2_with fail
     go_ret
     exact⟨_,rfl,by rw[HWE.o];exact(HWS.o.kept K9.o (fun b hb e=>by have e':b=g:=e;have hb':w1.heap.size≤b:=hb;have:=HR.o.lt;omega)).mono (fun b _ hb=>Nat.le_trans HZ1.o hb),by rw[HWE.o];exact R9.o,KW.o.trans K9.o (fun _ _ h=>h)⟩
 ·have HWE:=jd (tC hk)
  have d1:((aj p:Int) !=1)=true:=by simp[bne];omega
  have d2:(aj p !=1)=true:=by simp[bne];exact hk
  obtain⟨kp,hkp⟩:∃kp,aj p=kp:=⟨_,rfl⟩
  rw[hkp] at d1 d2 HK
  rw[HWE.o]
  clear hk hkp h
  go_enter Tryz.func98,Tryz.ntmps98
  go_wp2_with fail
  refine HK.o.mono ?_
  rintro x w1 ⟨rfl,k1⟩
  have K1:=jd k1
  have HFL:=jd (cV T w1 g d p (HP.o.af k1) 5)
  clear k1
  go_wp2_with fail
  refine HFL.o.mono ?_
  rintro x w2 ⟨rfl,r2,k2⟩
  have R2:=jd r2;have K2:=jd ((K1.o.mono (S':=fun b=>b=g) (fun _ _ h=>h.elim)).trans k2 (fun _ _ h=>h))
  clear r2 k2
  go_wp2_with fail
  go_ret
  exact⟨_,rfl,WAt.nil _ _,R2.o,K2.o⟩
end Go.Proofs.YtgigdlhcjahejaaGreatDoor
