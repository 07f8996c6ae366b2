/- Of the proof of ParseBreaks: ParC. -/
import Derived.Test.YtgigdlhcjahejaaGreatDoorD26
namespace Go.Proofs.YtgigdlhcjahejaaGreatDoor
open Go Go.RowKit Go.Lw
set_option maxRecDepth 100000
set_option linter.unusedVariables false
set_option linter.unusedSimpArgs false
attribute [local go_sem] av
theorem oN {p:Ps} {s:List UInt8} (h:aG p=s) (hs:s≠[]):∃t r,p.r=t::r∧t.kind=1∧t.text=s∧fV s=true:=by
 obtain⟨r,e⟩:=p
 cases r with
 |nil=>exact absurd h.symm hs
 |cons t r=>
  unfold aG at h
  dsimp only at h
  split at h
  ·rename_i h1
   exact⟨t,r,rfl,h1.1,h,by rw[←h];exact h1.2⟩
  ·exact absurd h.symm hs
set_option maxHeartbeats 8000000 in
theorem ft (T:TT) (w:World) (g d:Nat) (p:Ps) (h:RP T w g d p) (hE:bN w) (s:List UInt8) (hs0:s≠[]):
  Calls Tryz.prog 108 #[.pointer (some ⟨g,0,none⟩),.string (BA s)] w (sQ T w g d (.tuple #[]) (ay s p)):=by
 have HV:=jd (gm T w g d p h hE)
 have HP:=jd h
 obtain⟨rv,hrv⟩:∃rv,aG p=rv:=⟨_,rfl⟩
 rw[hrv] at HV
 by_cases hs:rv=s
 ·have HM:Hid (ay s p=aC p):=jd (by unfold ay;rw[if_pos (hrv.trans hs)])
  obtain⟨t,r,hpr,_⟩:=oN (hrv.trans hs) hs0
  have HPR:=jd hpr
  have d1:(BA rv !=BA s)=false:=by rw[hs];simp[bne,bI]
  have d2:(rv !=s)=false:=by rw[hs];simp
  have d3:(rv==s)=true:=by rw[hs];simp
  clear hs h hE hrv hpr hs0
  go_enter Tryz.func108,Tryz.ntmps108
  go_wp2_with fail
  refine HV.o.mono ?_
  rintro x w1 ⟨rfl,k1⟩
  obtain⟨at_,hd,hr⟩:=HP.o.ah k1
  rw[HPR.o] at hd
  obtain⟨ha,ht,hd2⟩:=cO hd
  obtain⟨⟨c0,c1,c2,c3⟩,f1,f2,f3⟩:=hr.cells
  have hs:=hr.short
  have hlt:=hr.lt
  have HRR:=jd hr;have HA:=jd ha;have HD2:=jd hd2;have K1:=jd k1
  have q1:at_≤2048:=by omega
  have KK:Hid (Kept (fun b=>b=g) w1 (w1.setCell ⟨g,1,none⟩ (.int .i64 ((at_+1:Nat):Int)))):=jd ((Kept.refl (fun b=>b=g) w1).set g 1 (fun _=>rfl) _)
  clear hd hr ht ha hd2 hs k1
  go_wp2_with fail
  go_end0
  exact⟨rfl,by rw[HM.o];exact⟨at_+1,by unfold aC;rw[HPR.o];exact HD2.o,HRR.o.setAt HA.o⟩,(K1.o.mono (fun _ _ h=>h.elim)).trans KK.o (fun _ _ h=>h)⟩
 ·have HM:Hid (ay s p=aX p 5):=jd (by unfold ay;rw[if_neg (fun e=>hs (hrv.symm.trans e))])
  have d1:(BA rv !=BA s)=true:=by simp[bne,bI,hs]
  have d2:(rv !=s)=true:=by simp[bne,hs]
  have d3:(rv==s)=false:=by simp[hs]
  clear hs h hE hrv hs0
  go_enter Tryz.func108,Tryz.ntmps108
  go_wp2_with fail
  refine HV.o.mono ?_
  rintro x w1 ⟨rfl,k1⟩
  have K1:=jd k1
  have HFL:=jd (dm T w1 g d p (HP.o.ah k1) 5)
  clear k1
  go_wp2_with fail
  refine HFL.o.mono ?_
  rintro x w2 ⟨rfl,r2,k2⟩
  have R2:=jd r2;have K2:=jd ((K1.o.mono (S':=fun b=>b=g) (fun _ _ h=>h.elim)).trans k2 (fun _ _ h=>h))
  clear r2 k2
  go_wp2_with fail
  go_end0
  exact⟨rfl,by rw[HM.o];exact R2.o,K2.o⟩
def xp (T:TT) (w:World) (g d:Nat) (l:List Prt) (p:Ps) (x:Ending) (w':World):Prop:=
 ∃v,x= .returned v∧WAt w' (fun b=>w.heap.size≤b) v l∧RP T w' g d p∧Kept (fun b=>b=g) w w'
def stW (F:Nat→Prop) (l:List Prt):fa:=⟨fun v w=>WAt w F v l,fun _ _ _ hk h=>h.kept hk (fun _ _ h=>h)⟩
def Ea (F:Nat→Prop) (l:List Prt) (e:Nat):fa:=⟨fun v w=>∃u,v= .tuple #[u,.int .i64 (e:Int)]∧WAt w F u l,fun _ _ _ hk ⟨u,h1,h2⟩=>⟨u,h1,h2.kept hk (fun _ _ h=>h)⟩⟩
theorem vL {p:Ps} (h:af p≠1):aL p=([],aX p 5):=by
 obtain⟨r,e⟩:=p
 cases r with
 |nil=>rfl
 |cons t r=>
  have h':¬t.kind=1:=h
  unfold aL
  simp[h']
def pwF (s:List UInt8):List Prt×Nat:=match bF s with
 |.ok l=>(l,0)
 |.error e=>([],e)
theorem Af {t:Tk} {r:List Tk} {e:Nat} (hk:t.kind=1):aL ⟨t::r,e⟩=((pwF t.text).1,if(pwF t.text).2=0 then⟨r,e⟩ else aX ⟨r,e⟩ (pwF t.text).2):=by
 unfold aL pwF
 simp only[hk,if_true]
 cases hp:bF t.text with
 |ok l=>rfl
 |error e'=>
  have:e'≠0:=o9 hp
  simp[this]
set_option maxHeartbeats 16000000 in
theorem jQ (T:TT) (w:World) (g d:Nat) (p:Ps) (h:RP T w g d p) (hE:cV w):
  Calls Tryz.prog 98 #[.pointer (some ⟨g,0,none⟩)] w (xp T w g d (aL p).1 (aL p).2):=by
 have HK:=jd (cN T w g d p h)
 have HP:=jd h;have HE:=jd hE
 by_cases hk:af p=1
 ·obtain⟨at_,hd,hr⟩:=h
  have hs:=hr.short;have hle:=hr.le;have hlt:=hr.lt
  have HR0:=jd hr
  obtain⟨r,e⟩:=p
  cases r with
  |nil=>cases hk
  |cons t r=>
   obtain⟨ha,ht,hd2⟩:=cO hd
   obtain⟨N,hN⟩:∃N,T.L.length=N:=⟨_,rfl⟩
   rw[hN] at hs hle
   have HN:=jd hN
   have ha':at_<N:=by rw[←hN];exact ha
   have hkt:t.kind=1:=hk
   obtain⟨b,off,e1,t0,t1,tl⟩:=iB hr.tok ht
   have hbg:b≠g:=hr.ne b (by rw[show T.v= .slice T.ad T.L.length T.c from rfl,e1];exact rfl)
   have htl:=(hr.toks t (List.mem_of_getElem? ht)).2
   have HAD:=jd e1;have HT0:=jd t1;have HD2:=jd hd2;have HBG:=jd hbg;have HA:=jd ha
   have HWE:=jd (Af (r:=r) (e:=e) hkt)
   obtain⟨p,hp⟩:∃p,(⟨t::r,e⟩:Ps)=p:=⟨_,rfl⟩
   have hkp:af p=1:=by rw[←hp];exact hk
   rw[hp] at HP HK HWE⊢
   rw[hkp] at HK
   obtain⟨tx,htx⟩:∃tx,t.text=tx:=⟨_,rfl⟩
   rw[htx] at HT0 HWE htl
   have HTL:=jd htl
   have htz:(BA tx).size≤2048:=by rw[ai];exact htl
   clear hd hr hN hk ha ht e1 t0 t1 hp hkp htx hkt hd2 htl hbg
   go_enter Tryz.func98,Tryz.ntmps98
   go_wp2_with fail
   refine HK.o.mono ?_
   rintro x w1 ⟨rfl,k1⟩
   have K1:=jd k1
   have HR:=jd (HR0.o.ah k1)
   have HT1:=jd (k1.cell HT0.o (fun h=>h))
   have hblt:b<w1.heap.size:=World.block_lt_of_cell? w1 _ HT1.o
   have HPW:=jd (fun wx (kx:Kept (fun _=>False) w1 wx)=>jH wx tx ((HE.o.ah k1).ah kx) (by have:=HTL.o;omega))
   have hz1:=k1.size
   have HZ1:=jd hz1
   obtain⟨wl,hwl⟩:∃wl,(pwF tx).1=wl:=⟨_,rfl⟩
   obtain⟨we,hwe⟩:∃we,(pwF tx).2=we:=⟨_,rfl⟩
   rw[hwl,hwe] at HWE
   have HPF:Hid (∀{wx:World} {x:Ending} {w':World},w1.heap.size≤wx.heap.size→cK wx tx x w'→∃u,x= .returned (.tuple #[u,.int .i64 (we:Int)])∧WAt w' (fun b=>w1.heap.size≤b) u wl):=jd (by
    intro hz hx
    unfold cK at hx
    unfold pwF at hwl hwe
    cases hp:bF tx with
    |ok l=>
     rw[hp] at hx hwl hwe
     obtain⟨v,rfl,hv⟩:=hx
     subst hwl;subst hwe
     exact⟨v,rfl,hv.mono (fun b _ hb=>Nat.le_trans hz hb)⟩
    |error e'=>
     rw[hp] at hx hwl hwe
     subst hwl;subst hwe
     exact⟨_,hx,WAt.nil _ _⟩)
   clear k1 hwl hwe
   go_wp2_with fail
   refine bt 16 [stV (.pointer (some ⟨g,0,none⟩)),stV (.pointer (some ⟨g,0,none⟩)),stV (.pointer (some ⟨g,0,none⟩)),stV (.slice (some ⟨b,off,none⟩) N T.c),stV (.pointer (some ⟨g,0,none⟩)),stV (.pointer (some ⟨g,0,none⟩)),stV (.pointer (some ⟨g,1,none⟩)),stV (.int .i64 (at_:Int)),stV (.pointer (some ⟨b,off+at_*3,none⟩)),stV (.pointer (some ⟨b,off+at_*3+1,none⟩)),stV (.string (BA tx)),Ea (fun b=>w1.heap.size≤b) wl we,Ea (fun b=>w1.heap.size≤b) wl we,stW (fun b=>w1.heap.size≤b) wl,stV (.int .i64 (we:Int)),stW (fun b=>w1.heap.size≤b) wl] (by kernel_rfl) (by kernel_rfl) ?_ ?_
   ·iterate 11
     refine ag (fun a' w' hI hag hf K hK=>?_) ?_
     ·obtain⟨⟨_,h0,rfl⟩,⟨_,h1,rfl⟩,-⟩:=hf
      have s0:=hag.same 0 (by decide)
      clear hag
      have RX:=HR.o.ah hI
      obtain⟨⟨c0,c1,c2,c3⟩,-⟩:=RX.cells
      rw[HN.o] at c0
      clear RX
      rw[HAD.o] at c0
      have RX:=HR.o.ah hI
      obtain⟨⟨c0,c1,c2,c3⟩,-⟩:=RX.cells
      rw[HN.o] at c0
      clear RX
      have tt:=hI.cell HT1.o (fun h=>h)
      go_wp2_with fail
      exact hK _ _ hI (Kept.refl _ _) rfl
    refine ag (fun a' w' hI hag hf K hK=>?_) ?_
    ·obtain⟨⟨_,h10,rfl⟩,-⟩:aB _ _ a' w' [10]:=hf
     clear hag
     go_wp2_with fail
     refine(HPW.o _ hI).mono ?_
     rintro ex wn ⟨hx,hkn⟩
     obtain⟨u,rfl,hu⟩:=HPF.o hI.size hx
     go_wp2_with fail
     exact hK _ _ (hI.trans hkn (fun _ _ h=>h)) hkn ⟨u,rfl,hu⟩
    refine ag (fun a' w' hI hag hf K hK=>?_) ?_
    ·obtain⟨⟨v11,h11,e11⟩,-⟩:aB _ _ a' w' [11]:=hf
     clear hag
     go_wp2_with fail
     exact hK _ _ hI (Kept.refl _ _) e11
    refine ag (fun a' w' hI hag hf K hK=>?_) ?_
    ·obtain⟨⟨v12,h12,e12⟩,-⟩:aB _ _ a' w' [12]:=hf
     clear hag
     obtain⟨u,rfl,hu⟩:=e12
     go_wp2_with fail
     exact hK _ _ hI (Kept.refl _ _) hu
    refine ag (fun a' w' hI hag hf K hK=>?_) ?_
    ·obtain⟨⟨v12,h12,e12⟩,-⟩:aB _ _ a' w' [12]:=hf
     clear hag
     obtain⟨u,rfl,hu⟩:=e12
     go_wp2_with fail
     exact hK _ _ hI (Kept.refl _ _) rfl
    refine ag (fun a' w' hI hag hf K hK=>?_) ?_
    ·obtain⟨⟨v13,h13,e13⟩,-⟩:aB _ _ a' w' [13,11,0,1,2,3,4,5,6,7,8,9,10,12]:=hf
     clear hag
     go_wp2_with fail
     exact hK _ _ hI (Kept.refl _ _) e13
    exact trivial
   ·intro vs wz hI hvs
    have q11:=hvs 11 _ _ rfl rfl
    have q12:=hvs 12 _ _ rfl rfl
    have q13:=hvs 13 _ _ rfl rfl
    have q15:=hvs 15 _ _ rfl rfl
    simp only[pzz,aS,Act.put,Nat.reduceAdd,spv (hvs 0 _ _ rfl rfl) rfl,spv (hvs 1 _ _ rfl rfl) rfl,spv (hvs 2 _ _ rfl rfl) rfl,spv (hvs 3 _ _ rfl rfl) rfl,spv (hvs 4 _ _ rfl rfl) rfl,spv (hvs 5 _ _ rfl rfl) rfl,spv (hvs 6 _ _ rfl rfl) rfl,spv (hvs 7 _ _ rfl rfl) rfl,spv (hvs 8 _ _ rfl rfl) rfl,spv (hvs 9 _ _ rfl rfl) rfl,spv (hvs 10 _ _ rfl rfl) rfl,spv (hvs 14 _ _ rfl rfl) rfl]
    clear hvs
    generalize vs 11=x11 at*
    generalize vs 12=x12 at*
    generalize vs 13=x13 at*
    generalize vs 15=x15 at*
    have KZ:=jd hI
    have RZ:=jd (HR.o.ah hI)
    have HW:=jd (show WAt wz _ x15 wl from q15)
    clear hI q11 q12 q13 q15
    obtain⟨⟨c0,c1,c2,c3⟩,f1,f2,f3⟩:=RZ.o.cells
    have hlz:g<wz.heap.size:=RZ.o.lt
    have q1:at_≤2048:=by omega
    have KS:Hid (Kept (fun b=>b=g) wz (wz.setCell ⟨g,1,none⟩ (.int .i64 ((at_+1:Nat):Int)))):=jd ((Kept.refl (fun b=>b=g) wz).set g 1 (fun _=>rfl) _)
    have RS:Hid (RA T (wz.setCell ⟨g,1,none⟩ (.int .i64 ((at_+1:Nat):Int))) g (at_+1) d e):=jd (RZ.o.setAt HA.o)
    have HWS:=jd (HW.o.kept KS.o (fun b hb e=>by have e':b=g:=e;have hb':w1.heap.size≤b:=hb;have:=HR.o.lt;omega))
    have KW:Hid (Kept (fun b=>b=g) w (wz.setCell ⟨g,1,none⟩ (.int .i64 ((at_+1:Nat):Int)))):=jd ((((K1.o.trans KZ.o (fun _ _ h=>h)).mono (S':=fun b=>b=g) (fun _ _ h=>h.elim))).trans KS.o (fun _ _ h=>h))
    by_cases hw0:we=0
    ·have d1:((we:Int) !=0)=false:=by rw[hw0];rfl
     have d2:(we !=0)=false:=by rw[hw0];rfl
     rw[if_pos hw0] at HWE
     clear hw0
     go_wp2_with fail
     go_ret
     exact⟨_,rfl,by rw[HWE.o];exact HWS.o.mono (fun b _ hb=>Nat.le_trans HZ1.o hb),by rw[HWE.o];exact⟨at_+1,HD2.o,RS.o⟩,KW.o⟩
    ·have d1:((we:Int) !=0)=true:=by simp[bne];omega
     have d2:(we !=0)=true:=by simp[bne];omega
     rw[if_neg hw0] at HWE
     have HFL:=jd (dm T (wz.setCell ⟨g,1,none⟩ (.int .i64 ((at_+1:Nat):Int))) g d ⟨r,e⟩ ⟨at_+1,HD2.o,RS.o⟩ we)
     clear hw0
     go_wp2_with fail
     refine HFL.o.mono ?_
     rintro ex w9 ⟨rfl,r9,k9⟩
     have R9:=jd r9;have K9:=jd k9
     clear r9 k9
     go_wp2_with fail
     go_ret
     exact⟨_,rfl,by rw[HWE.o];exact(HWS.o.kept K9.o (fun b hb e=>by have e':b=g:=e;have hb':w1.heap.size≤b:=hb;have:=HR.o.lt;omega)).mono (fun b _ hb=>Nat.le_trans HZ1.o hb),by rw[HWE.o];exact R9.o,KW.o.trans K9.o (fun _ _ h=>h)⟩
 ·have HWE:=jd (vL hk)
  have d1:((af p:Int) !=1)=true:=by simp[bne];omega
  have d2:(af p !=1)=true:=by simp[bne];exact hk
  obtain⟨kp,hkp⟩:∃kp,af p=kp:=⟨_,rfl⟩
  rw[hkp] at d1 d2 HK
  rw[HWE.o]
  clear hk hkp h
  go_enter Tryz.func98,Tryz.ntmps98
  go_wp2_with fail
  refine HK.o.mono ?_
  rintro x w1 ⟨rfl,k1⟩
  have K1:=jd k1
  have HFL:=jd (dm T w1 g d p (HP.o.ah k1) 5)
  clear k1
  go_wp2_with fail
  refine HFL.o.mono ?_
  rintro x w2 ⟨rfl,r2,k2⟩
  have R2:=jd r2;have K2:=jd ((K1.o.mono (S':=fun b=>b=g) (fun _ _ h=>h.elim)).trans k2 (fun _ _ h=>h))
  clear r2 k2
  go_wp2_with fail
  go_ret
  exact⟨_,rfl,WAt.nil _ _,R2.o,K2.o⟩
end Go.Proofs.YtgigdlhcjahejaaGreatDoor
