/- Of the proof of ParseBack: ParC, ParD. -/
import Derived.Test.YtgigdlhcjahejaaGreatDoorE24
namespace Go.Proofs.YtgigdlhcjahejaaGreatDoor
open Go Go.RowKit Go.Lw
set_option maxRecDepth 100000
set_option linter.unusedVariables false
set_option linter.unusedSimpArgs false
attribute [local go_sem] au
theorem pL {p:Ps} {s:LB} (h:aG p=s) (hs:s≠[]):∃t r,p.r=t::r∧t.kind=1∧t.text=s∧cX s=true:=by
 obtain⟨r,e⟩:=p
 cases r with
 |nil=>exact absurd h.symm hs
 |cons t r=>
  unfold aG at h
  dsimp only at h
  split at h
  ·rename_i h1
   exact⟨t,r,rfl,h1.1,h,by rw[←h];exact h1.2⟩
  ·exact absurd h.symm hs
set_option maxHeartbeats 8000000 in
theorem fZ (T:TT) (w:World) (g d:Nat) (p:Ps) (h:RP T w g d p) (hE:bW w) (s:LB) (hs0:s≠[]):
  Calls Tryz.prog 108 #[.pointer (some ⟨g,0,none⟩),.string (BA s)] w (wI T w g d (.tuple #[]) (az s p)):=by
 have HV:=jd (ib T w g d p h hE)
 have HP:=jd h
 obtain⟨rv,hrv⟩:∃rv,aG p=rv:=⟨_,rfl⟩
 rw[hrv] at HV
 by_cases hs:rv=s
 ·have HM:Hid (az s p=aC p):=jd (by unfold az;rw[if_pos (hrv.trans hs)])
  obtain⟨t,r,hpr,_⟩:=pL (hrv.trans hs) hs0
  have HPR:=jd hpr
  have d1:(BA rv !=BA s)=false:=by rw[hs];simp[bne,bR]
  have d2:(rv !=s)=false:=by rw[hs];simp
  have d3:(rv==s)=true:=by rw[hs];simp
  clear hs h hE hrv hpr hs0
  go_enter Tryz.func108,Tryz.ntmps108
  go_wp2_with fail
  refine HV.o.mono ?_
  rintro x w1 ⟨rfl,k1⟩
  obtain⟨at_,hd,hr⟩:=HP.o.ag k1
  rw[HPR.o] at hd
  obtain⟨ha,ht,hd2⟩:=cZ hd
  obtain⟨⟨c0,c1,c2,c3⟩,f1,f2,f3⟩:=hr.cells
  have hs:=hr.short
  have hlt:=hr.lt
  have HRR:=jd hr;have HA:=jd ha;have HD2:=jd hd2;have K1:=jd k1
  have q1:at_≤2048:=by omega
  have KK:Hid (Kept (fun b=>b=g) w1 (w1.setCell ⟨g,1,none⟩ (.int .i64 ((at_+1:Nat):Int)))):=jd ((Ja (fun b=>b=g) w1).set g 1 (fun _=>rfl) _)
  clear hd hr ht ha hd2 hs k1
  go_wp2_with fail
  go_end0
  exact⟨rfl,by rw[HM.o];exact⟨at_+1,by unfold aC;rw[HPR.o];exact HD2.o,HRR.o.setAt HA.o⟩,(K1.o.mono (fun _ _ h=>h.elim)).trans KK.o (fun _ _ h=>h)⟩
 ·have HM:Hid (az s p=bd p 5):=jd (by unfold az;rw[if_neg (fun e=>hs (hrv.symm.trans e))])
  have d1:(BA rv !=BA s)=true:=by simp[bne,bR,hs]
  have d2:(rv !=s)=true:=by simp[bne,hs]
  have d3:(rv==s)=false:=by simp[hs]
  clear hs h hE hrv hs0
  go_enter Tryz.func108,Tryz.ntmps108
  go_wp2_with fail
  refine HV.o.mono ?_
  rintro x w1 ⟨rfl,k1⟩
  have K1:=jd k1
  have HFL:=jd (dC T w1 g d p (HP.o.ag k1) 5)
  clear k1
  go_wp2_with fail
  refine HFL.o.mono ?_
  rintro x w2 ⟨rfl,r2,k2⟩
  have R2:=jd r2;have K2:=jd ((K1.o.mono (S':=fun b=>b=g) (fun _ _ h=>h.elim)).trans k2 (fun _ _ h=>h))
  clear r2 k2
  go_wp2_with fail
  go_end0
  exact⟨rfl,by rw[HM.o];exact R2.o,K2.o⟩
def yS (T:TT) (w:World) (g d:Nat) (l:LP) (p:Ps) (x:Ending) (w':World):Prop:=
 ∃v,x= .returned v∧WAt w' (fun b=>w.heap.size≤b) v l∧RP T w' g d p∧Kept (fun b=>b=g) w w'
def stW (F:Nat→Prop) (l:LP):dY:=⟨fun v w=>WAt w F v l,fun _ _ _ hk h=>h.kept hk (fun _ _ h=>h)⟩
def FZ (F:Nat→Prop) (l:LP) (e:Nat):dY:=⟨fun v w=>∃u,v= .tuple #[u,.int .i64 (e:Int)]∧WAt w F u l,fun _ _ _ hk ⟨u,h1,h2⟩=>⟨u,h1,h2.kept hk (fun _ _ h=>h)⟩⟩
theorem xK {p:Ps} (h:ai p≠1):aR p=([],bd p 5):=by
 obtain⟨r,e⟩:=p
 cases r with
 |nil=>rfl
 |cons t r=>
  have h':¬t.kind=1:=h
  unfold aR
  simp[h']
def pwF (s:LB):LP×Nat:=match bs s with
 |.ok l=>(l,0)
 |.error e=>([],e)
theorem Cj {t:Tk} {r:List Tk} {e:Nat} (hk:t.kind=1):aR ⟨t::r,e⟩=((pwF t.text).1,if(pwF t.text).2=0 then⟨r,e⟩ else bd ⟨r,e⟩ (pwF t.text).2):=by
 unfold aR pwF
 simp only[hk,if_true]
 cases hp:bs t.text with
 |ok l=>rfl
 |error e'=>
  have:e'≠0:=qt hp
  simp[this]
set_option maxHeartbeats 16000000 in
theorem lF (T:TT) (w:World) (g d:Nat) (p:Ps) (h:RP T w g d p) (hE:de w):
  Calls Tryz.prog 98 #[.pointer (some ⟨g,0,none⟩)] w (yS T w g d (aR p).1 (aR p).2):=by
 have HK:=jd (cT T w g d p h)
 have HP:=jd h;have HE:=jd hE
 by_cases hk:ai p=1
 ·obtain⟨at_,hd,hr⟩:=h
  have hs:=hr.short;have hle:=hr.le;have hlt:=hr.lt
  have HR0:=jd hr
  obtain⟨r,e⟩:=p
  cases r with
  |nil=>cases hk
  |cons t r=>
   obtain⟨ha,ht,hd2⟩:=cZ hd
   obtain⟨N,hN⟩:∃N,T.L.length=N:=⟨_,rfl⟩
   rw[hN] at hs hle
   have HN:=jd hN
   have ha':at_<N:=by rw[←hN];exact ha
   have hkt:t.kind=1:=hk
   obtain⟨b,off,e1,t0,t1,tl⟩:=iV hr.tok ht
   have hbg:b≠g:=hr.ne b (by rw[show T.v= .slice T.ad T.L.length T.c from rfl,e1];exact rfl)
   have htl:=(hr.toks t (List.mem_of_getElem? ht)).2
   have HAD:=jd e1;have HT0:=jd t1;have HD2:=jd hd2;have HBG:=jd hbg;have HA:=jd ha
   have HWE:=jd (Cj (r:=r) (e:=e) hkt)
   obtain⟨p,hp⟩:∃p,(⟨t::r,e⟩:Ps)=p:=⟨_,rfl⟩
   have hkp:ai p=1:=by rw[←hp];exact hk
   rw[hp] at HP HK HWE⊢
   rw[hkp] at HK
   obtain⟨tx,htx⟩:∃tx,t.text=tx:=⟨_,rfl⟩
   rw[htx] at HT0 HWE htl
   have HTL:=jd htl
   have htz:(BA tx).size≤2048:=by rw[ah];exact htl
   clear hd hr hN hk ha ht e1 t0 t1 hp hkp htx hkt hd2 htl hbg
   go_enter Tryz.func98,Tryz.ntmps98
   go_wp2_with fail
   refine HK.o.mono ?_
   rintro x w1 ⟨rfl,k1⟩
   have K1:=jd k1
   have HR:=jd (HR0.o.ag k1)
   have HT1:=jd (k1.cell HT0.o (fun h=>h))
   have hblt:b<w1.heap.size:=World.block_lt_of_cell? w1 _ HT1.o
   have HPW:=jd (fun wx (kx:Kept (fun _=>False) w1 wx)=>lu wx tx ((HE.o.ag k1).ag kx) (by have:=HTL.o;omega))
   have hz1:=k1.size
   have HZ1:=jd hz1
   obtain⟨wl,hwl⟩:∃wl,(pwF tx).1=wl:=⟨_,rfl⟩
   obtain⟨we,hwe⟩:∃we,(pwF tx).2=we:=⟨_,rfl⟩
   rw[hwl,hwe] at HWE
   have HPF:Hid (∀{wx:World} {x:Ending} {w':World},w1.heap.size≤wx.heap.size→cW wx tx x w'→∃u,x= .returned (.tuple #[u,.int .i64 (we:Int)])∧WAt w' (fun b=>w1.heap.size≤b) u wl):=jd (by
    intro hz hx
    unfold cW at hx
    unfold pwF at hwl hwe
    cases hp:bs tx with
    |ok l=>
     rw[hp] at hx hwl hwe
     obtain⟨v,rfl,hv⟩:=hx
     subst hwl;subst hwe
     exact⟨v,rfl,hv.mono (fun b _ hb=>lt9 hz hb)⟩
    |error e'=>
     rw[hp] at hx hwl hwe
     subst hwl;subst hwe
     exact⟨_,hx,WAt.nil _ _⟩)
   clear k1 hwl hwe
   go_wp2_with fail
   refine bE 16 [stV (.pointer (some ⟨g,0,none⟩)),stV (.pointer (some ⟨g,0,none⟩)),stV (.pointer (some ⟨g,0,none⟩)),stV (.slice (some ⟨b,off,none⟩) N T.c),stV (.pointer (some ⟨g,0,none⟩)),stV (.pointer (some ⟨g,0,none⟩)),stV (.pointer (some ⟨g,1,none⟩)),stV (.int .i64 (at_:Int)),stV (.pointer (some ⟨b,off+at_*3,none⟩)),stV (.pointer (some ⟨b,off+at_*3+1,none⟩)),stV (.string (BA tx)),FZ (fun b=>w1.heap.size≤b) wl we,FZ (fun b=>w1.heap.size≤b) wl we,stW (fun b=>w1.heap.size≤b) wl,stV (.int .i64 (we:Int)),stW (fun b=>w1.heap.size≤b) wl] (by kernel_rfl) (by kernel_rfl) ?_ ?_
   ·iterate 11
     refine ae (fun a' w' hI hag hf K hK=>?_) ?_
     ·obtain⟨⟨_,h0,rfl⟩,⟨_,h1,rfl⟩,-⟩:=hf
      have s0:=hag.same 0 (by decide)
      clear hag
      have RX:=HR.o.ag hI
      obtain⟨⟨c0,c1,c2,c3⟩,-⟩:=RX.cells
      rw[HN.o] at c0
      clear RX
      rw[HAD.o] at c0
      have RX:=HR.o.ag hI
      obtain⟨⟨c0,c1,c2,c3⟩,-⟩:=RX.cells
      rw[HN.o] at c0
      clear RX
      have tt:=hI.cell HT1.o (fun h=>h)
      go_wp2_with fail
      exact hK _ _ hI (Ja _ _) rfl
    refine ae (fun a' w' hI hag hf K hK=>?_) ?_
    ·obtain⟨⟨_,h10,rfl⟩,-⟩:ay _ _ a' w' [10]:=hf
     clear hag
     go_wp2_with fail
     refine(HPW.o _ hI).mono ?_
     rintro ex wn ⟨hx,hkn⟩
     obtain⟨u,rfl,hu⟩:=HPF.o hI.size hx
     go_wp2_with fail
     exact hK _ _ (hI.trans hkn (fun _ _ h=>h)) hkn ⟨u,rfl,hu⟩
    refine ae (fun a' w' hI hag hf K hK=>?_) ?_
    ·obtain⟨⟨v11,h11,e11⟩,-⟩:ay _ _ a' w' [11]:=hf
     clear hag
     go_wp2_with fail
     exact hK _ _ hI (Ja _ _) e11
    refine ae (fun a' w' hI hag hf K hK=>?_) ?_
    ·obtain⟨⟨v12,h12,e12⟩,-⟩:ay _ _ a' w' [12]:=hf
     clear hag
     obtain⟨u,rfl,hu⟩:=e12
     go_wp2_with fail
     exact hK _ _ hI (Ja _ _) hu
    refine ae (fun a' w' hI hag hf K hK=>?_) ?_
    ·obtain⟨⟨v12,h12,e12⟩,-⟩:ay _ _ a' w' [12]:=hf
     clear hag
     obtain⟨u,rfl,hu⟩:=e12
     go_wp2_with fail
     exact hK _ _ hI (Ja _ _) rfl
    refine ae (fun a' w' hI hag hf K hK=>?_) ?_
    ·obtain⟨⟨v13,h13,e13⟩,-⟩:ay _ _ a' w' [13,11,0,1,2,3,4,5,6,7,8,9,10,12]:=hf
     clear hag
     go_wp2_with fail
     exact hK _ _ hI (Ja _ _) e13
    exact trivial
   ·intro vs wz hI hvs
    have q11:=hvs 11 _ _ rfl rfl
    have q12:=hvs 12 _ _ rfl rfl
    have q13:=hvs 13 _ _ rfl rfl
    have q15:=hvs 15 _ _ rfl rfl
    simp only[pzz,aL,Act.put,Nat.reduceAdd,spv (hvs 0 _ _ rfl rfl) rfl,spv (hvs 1 _ _ rfl rfl) rfl,spv (hvs 2 _ _ rfl rfl) rfl,spv (hvs 3 _ _ rfl rfl) rfl,spv (hvs 4 _ _ rfl rfl) rfl,spv (hvs 5 _ _ rfl rfl) rfl,spv (hvs 6 _ _ rfl rfl) rfl,spv (hvs 7 _ _ rfl rfl) rfl,spv (hvs 8 _ _ rfl rfl) rfl,spv (hvs 9 _ _ rfl rfl) rfl,spv (hvs 10 _ _ rfl rfl) rfl,spv (hvs 14 _ _ rfl rfl) rfl]
    clear hvs
    generalize vs 11=x11 at*
    generalize vs 12=x12 at*
    generalize vs 13=x13 at*
    generalize vs 15=x15 at*
    have KZ:=jd hI
    have RZ:=jd (HR.o.ag hI)
    have HW:=jd (show WAt wz _ x15 wl from q15)
    clear hI q11 q12 q13 q15
    obtain⟨⟨c0,c1,c2,c3⟩,f1,f2,f3⟩:=RZ.o.cells
    have hlz:g<wz.heap.size:=RZ.o.lt
    have q1:at_≤2048:=by omega
    have KS:Hid (Kept (fun b=>b=g) wz (wz.setCell ⟨g,1,none⟩ (.int .i64 ((at_+1:Nat):Int)))):=jd ((Ja (fun b=>b=g) wz).set g 1 (fun _=>rfl) _)
    have RS:Hid (RA T (wz.setCell ⟨g,1,none⟩ (.int .i64 ((at_+1:Nat):Int))) g (at_+1) d e):=jd (RZ.o.setAt HA.o)
    have HWS:=jd (HW.o.kept KS.o (fun b hb e=>by have e':b=g:=e;have hb':w1.heap.size≤b:=hb;have:=HR.o.lt;omega))
    have KW:Hid (Kept (fun b=>b=g) w (wz.setCell ⟨g,1,none⟩ (.int .i64 ((at_+1:Nat):Int)))):=jd ((((K1.o.trans KZ.o (fun _ _ h=>h)).mono (S':=fun b=>b=g) (fun _ _ h=>h.elim))).trans KS.o (fun _ _ h=>h))
    by_cases hw0:we=0
    ·have d1:((we:Int) !=0)=false:=by rw[hw0];rfl
     have d2:(we !=0)=false:=by rw[hw0];rfl
     rw[if_pos hw0] at HWE
     clear hw0
     go_wp2_with fail
     go_ret
     exact⟨_,rfl,by rw[HWE.o];exact HWS.o.mono (fun b _ hb=>lt9 HZ1.o hb),by rw[HWE.o];exact⟨at_+1,HD2.o,RS.o⟩,KW.o⟩
    ·have d1:((we:Int) !=0)=true:=by simp[bne];omega
     have d2:(we !=0)=true:=by simp[bne];omega
     rw[if_neg hw0] at HWE
     have HFL:=jd (dC T (wz.setCell ⟨g,1,none⟩ (.int .i64 ((at_+1:Nat):Int))) g d ⟨r,e⟩ ⟨at_+1,HD2.o,RS.o⟩ we)
     clear hw0
     go_wp2_with fail
     refine HFL.o.mono ?_
     rintro ex w9 ⟨rfl,r9,k9⟩
     have R9:=jd r9;have K9:=jd k9
     clear r9 k9
     go_wp2_with fail
     go_ret
     exact⟨_,rfl,by rw[HWE.o];exact(HWS.o.kept K9.o (fun b hb e=>by have e':b=g:=e;have hb':w1.heap.size≤b:=hb;have:=HR.o.lt;omega)).mono (fun b _ hb=>lt9 HZ1.o hb),by rw[HWE.o];exact R9.o,KW.o.trans K9.o (fun _ _ h=>h)⟩
 ·have HWE:=jd (xK hk)
  have d1:((ai p:Int) !=1)=true:=by simp[bne];omega
  have d2:(ai p !=1)=true:=by simp[bne];exact hk
  obtain⟨kp,hkp⟩:∃kp,ai p=kp:=⟨_,rfl⟩
  rw[hkp] at d1 d2 HK
  rw[HWE.o]
  clear hk hkp h
  go_enter Tryz.func98,Tryz.ntmps98
  go_wp2_with fail
  refine HK.o.mono ?_
  rintro x w1 ⟨rfl,k1⟩
  have K1:=jd k1
  have HFL:=jd (dC T w1 g d p (HP.o.ag k1) 5)
  clear k1
  go_wp2_with fail
  refine HFL.o.mono ?_
  rintro x w2 ⟨rfl,r2,k2⟩
  have R2:=jd r2;have K2:=jd ((K1.o.mono (S':=fun b=>b=g) (fun _ _ h=>h.elim)).trans k2 (fun _ _ h=>h))
  clear r2 k2
  go_wp2_with fail
  go_ret
  exact⟨_,rfl,WAt.nil _ _,R2.o,K2.o⟩
end Go.Proofs.YtgigdlhcjahejaaGreatDoor
namespace Go.Proofs.YtgigdlhcjahejaaGreatDoor
open Go Go.RowKit Go.Lw
set_option maxRecDepth 100000
set_option linter.unusedVariables false
set_option linter.unusedSimpArgs false
structure AtP {α:Type} (At:World→(Nat→Prop)→Value→α→Prop):Prop where
 kept:∀{S F:Nat→Prop} {w w':World} {v:Value} {x:α},At w F v x→Kept S w w'→(∀b,F b→¬S b)→At w' F v x
 mono:∀{F G:Nat→Prop} {w:World} {v:Value} {x:α},At w F v x→(∀b,b<w.heap.size→F b→G b)→At w G v x
def fX {α:Type} (C:α×Value→List Value) (size:Nat) (e:TypeId) (At:World→(Nat→Prop)→Value→α→Prop) (w:World) (F:Nat→Prop) (v:Value) (l:List α):Prop:=
 ∃ps:List (α×Value),ps.map Prod.fst=l∧w.ownsRow 0 e size v l.length (ps.flatMap C)∧∀x∈ps,At w F x.2 x.1
section
variable {α:Type} {C:α×Value→List Value} {size:Nat} {e:TypeId} {At:World→(Nat→Prop)→Value→α→Prop} {w w':World} {F G S:Nat→Prop} {v:Value} {l:List α}
theorem fX.kept (hA:AtP At) (h:fX C size e At w F v l) (k:Kept S w w') (hF:∀b,F b→¬S b) (hv:∀b,blk v b→¬S b):fX C size e At w' F v l:=by
 obtain⟨ps,h1,h2,h3⟩:=h
 exact⟨ps,h1,bt k h2 hv,fun x hx=>hA.kept (h3 x hx) k hF⟩
theorem fX.mono (hA:AtP At) (h:fX C size e At w F v l) (hF:∀b,b<w.heap.size→F b→G b):fX C size e At w G v l:=by
 obtain⟨ps,h1,h2,h3⟩:=h
 exact⟨ps,h1,h2,fun x hx=>hA.mono (h3 x hx) hF⟩
theorem fX.lt (h:fX C size e At w F v l):∀b,blk v b→b<w.heap.size:=by
 obtain⟨ps,h1,h2,h3⟩:=h
 exact cP h2
theorem fX.nil (w:World) (F:Nat→Prop):fX C size e At w F (.slice none 0 0) []:=⟨[],rfl,World.ownsRow_nil _ _ _ _,fun _ h=>by cases h⟩
theorem fX.slice (h:fX C size e At w F v l):∃a c,v= .slice a l.length c∧l.length≤9223372036854775807:=by
 obtain⟨ps,h1,h2,h3⟩:=h
 obtain⟨ad,cap,e,_,hm,_⟩:=bP h2
 exact⟨ad,cap,e,by unfold maxLen at hm;omega⟩
theorem jj {w9:World} {v':Value} {ps:List (α×Value)} {x:α} {u:Value} (hl:ps.map Prod.fst=l) (ho:w9.ownsRow 0 e size v' (l.length+1) (ps.flatMap C++C (x,u))) (hps:∀y∈ps,At w9 F y.2 y.1) (hu:At w9 F u x):fX C size e At w9 F v' (l++[x]):=by
 refine⟨ps++[(x,u)],by rw[List.map_append,hl];rfl,?_,fun y hy=>?_⟩
 ·rw[Jf,List.flatMap_append]
  simpa using ho
 ·rcases Jm.1 hy with hy|hy
  ·exact hps y hy
  ·rw[Jk.1 hy];exact hu
end
def wa1 (w:World) (F:Nat→Prop) (v:Value) (x:LB×LP):Prop:=WAt w F v x.2
def wa2 (w:World) (F:Nat→Prop) (v:Value) (x:LP):Prop:=WAt w F v x
def wa3 (w:World) (F:Nat→Prop) (v:Value) (x:Int×LP):Prop:=WAt w F v x.2
def wa4 (w:World) (F:Nat→Prop) (v:Value) (x:Nd):Prop:=NAt w F v x
theorem lY:AtP wa1:=⟨fun h k hF=>WAt.kept h k hF,fun h hF=>WAt.mono h hF⟩
theorem gi:AtP wa2:=⟨fun h k hF=>WAt.kept h k hF,fun h hF=>WAt.mono h hF⟩
theorem iE:AtP wa3:=⟨fun h k hF=>WAt.kept h k hF,fun h hF=>WAt.mono h hF⟩
theorem ej:AtP wa4:=⟨fun h k hF=>NAt.kept h k hF,fun h hF=>NAt.mono h hF⟩
abbrev OAs:=fX AC 2 61 wa1
abbrev OWs:=fX WC 1 59 wa2
abbrev ORs:=fX RC 2 64 wa3
abbrev OKs:=fX NC 7 27 wa4
theorem EAs:fy Tryz.prog 22 61 2 40:=fy.of (z:= .agg #[.string ⟨#[]⟩,.slice none 0 0]) Tryz.underlying22 (by kernel_rfl) rfl (by decide)
theorem EWs:fy Tryz.prog 23 59 1 24:=fy.of (z:= .slice none 0 0) Tryz.underlying23 (by kernel_rfl) rfl (by decide)
theorem ERs:fy Tryz.prog 24 64 2 32:=fy.of (z:= .agg #[.int .i64 0,.slice none 0 0]) Tryz.underlying24 (by kernel_rfl) rfl (by decide)
theorem EKs:fy Tryz.prog 25 27 7 128:=fy.of (z:= .agg #[.int .i64 0,.bool false,.string ⟨#[]⟩,.slice none 0 0,.slice none 0 0,.slice none 0 0,.slice none 0 0]) Tryz.underlying25 (by kernel_rfl) rfl (by decide)
structure NB (w:World) (lo b:Nat) (F:Nat→Prop) (k:Int) (ng:Bool) (nm:LB) (va vw vr vk:Value) (al:List (LB×LP)) (ws:List LP) (rs:List (Int×LP)) (ks:List Nd):Prop where
 box:NBx w b #[.int .i64 k,.bool ng,.string (BA nm),va,vw,vr,vk]
 ra:OAs w F va al
 rw:OWs w F vw ws
 rr:ORs w F vr rs
 rk:OKs w F vk ks
 f:∀i,F i→lo≤i∧i<w.heap.size∧i≠b∧¬blk va i∧¬blk vw i∧¬blk vr i∧¬blk vk i
 ba:∀i,blk va i→lo≤i∧i≠b∧¬blk vw i∧¬blk vr i∧¬blk vk i
 bw:∀i,blk vw i→lo≤i∧i≠b∧¬blk vr i∧¬blk vk i
 br:∀i,blk vr i→lo≤i∧i≠b∧¬blk vk i
 bk:∀i,blk vk i→lo≤i∧i≠b
 lob:lo≤b
section
variable {w w':World} {lo b:Nat} {F S:Nat→Prop} {k:Int} {ng:Bool} {nm:LB} {va vw vr vk:Value} {al:List (LB×LP)} {ws:List LP} {rs:List (Int×LP)} {ks:List Nd}
theorem NB.kept (h : NB w lo b F k ng nm va vw vr vk al ws rs ks) (hk : Kept S w w') (hS : ∀ i, lo ≤ i → ¬ S i) : NB w' lo b F k ng nm va vw vr vk al ws rs ks :=
  ⟨hk.heap h.box (hS b h.lob), h.ra.kept lY hk (fun i hi => hS i (h.f i hi).1) (fun i hi => hS i (h.ba i hi).1), h.rw.kept gi hk (fun i hi => hS i (h.f i hi).1) (fun i hi => hS i (h.bw i hi).1),
   h.rr.kept iE hk (fun i hi => hS i (h.f i hi).1) (fun i hi => hS i (h.br i hi).1), h.rk.kept ej hk (fun i hi => hS i (h.f i hi).1) (fun i hi => hS i (h.bk i hi).1),
   fun i hi => have h1 := h.f i hi; ⟨h1.1, Nat.lt_of_lt_of_le h1.2.1 hk.size, h1.2.2⟩, h.ba, h.bw, h.br, h.bk, h.lob⟩
theorem NB.lt (h:NB w lo b F k ng nm va vw vr vk al ws rs ks):b<w.heap.size:=aj h.box
theorem NB.init (w:World) (lo b:Nat) (k:Int) (ng:Bool) (nm:LB) (hb:NBx w b #[.int .i64 k,.bool ng,.string (BA nm),.slice none 0 0,.slice none 0 0,.slice none 0 0,.slice none 0 0]) (hlo:lo≤b):
  NB w lo b (fun _=>False) k ng nm (.slice none 0 0) (.slice none 0 0) (.slice none 0 0) (.slice none 0 0) [] [] [] []:=
 ⟨hb,fX.nil _ _,fX.nil _ _,fX.nil _ _,fX.nil _ _,fun _ h=>h.elim,fun _ h=>(dt h).elim,fun _ h=>(dt h).elim,fun _ h=>(dt h).elim,fun _ h=>(dt h).elim,hlo⟩
theorem j5 {α:Type} {C:α×Value→List Value} {size:Nat} {e:TypeId} {f:α→LP} {v:Value} {l:List α} (h:fX C size e (fun w F v x=>WAt w F v (f x)) w F v l) {G:Nat→Prop} (hF:∀i,F i→G i) (hv:∀i,blk v i→G i):bQ C size f w G v l:=by
 obtain⟨ps,h1,h2,h3⟩:=h
 have h2':=h2
 rw[←h1,List.length_map] at h2'
 exact⟨ps,h1,Rd.own h2',fun i hi=>⟨hv i hi,cP h2 i hi⟩,fun x hx=>WAt.mono (h3 x hx) (fun i _ hi=>hF i hi)⟩
theorem tV {v:Value} {l:List Nd} (h:OKs w F v l) {G:Nat→Prop} (hF:∀i,F i→G i) (hv:∀i,blk v i→G i):cE w G v l:=by
 obtain⟨ps,h1,h2,h3⟩:=h
 have h2':=h2
 rw[←h1,List.length_map] at h2'
 exact⟨ps,h1,Rd.own h2',fun i hi=>⟨hv i hi,cP h2 i hi⟩,fun x hx=>NAt.mono (h3 x hx) (fun i _ hi=>hF i hi)⟩
theorem NB.at (h:NB w lo b F k ng nm va vw vr vk al ws rs ks):NAt w (fun i=>lo≤i) (.agg #[.int .i64 k,.bool ng,.string (BA nm),va,vw,vr,vk]) (.mk k ng nm al ws rs ks):=
 NAt.shut (n:= .mk k ng nm al ws rs ks) (j5 h.ra (fun i hi=>(h.f i hi).1) (fun i hi=>(h.ba i hi).1)) (j5 h.rw (fun i hi=>(h.f i hi).1) (fun i hi=>(h.bw i hi).1)) (j5 h.rr (fun i hi=>(h.f i hi).1) (fun i hi=>(h.br i hi).1)) (tV h.rk (fun i hi=>(h.f i hi).1) (fun i hi=>(h.bk i hi).1))
theorem NB.zI (h:NB w lo b F k ng nm va vw vr vk al ws rs ks) {w8 w9:World} {v' u:Value} {x:LB×LP} {G:Nat→Prop} {ps:List ((LB×LP)×Value)} (hl:ps.map Prod.fst=al) (hps:∀y∈ps,wa1 w F y.2 y.1)
  (hk:Kept S w w8) (hS:∀i,lo≤i→¬S i) (hu:wa1 w8 G u x) (hG:∀i,G i→w.heap.size≤i)
  (ho:w9.ownsRow 0 61 2 v' (al.length+1) (ps.flatMap AC++AC (x,u))) (hg:w8.grownBy w9 va.ownBlock) (hf:fN w8 va v'):
  NB (w9.setCell ⟨b,3,none⟩ v') lo b (fun i=>F i∨(w.heap.size≤i∧i<w8.heap.size)) k ng nm v' vw vr vk (al++[x]) ws rs ks∧Kept (fun i=>S i∨lo≤i) w (w9.setCell ⟨b,3,none⟩ v'):=by
 have hb:=h.lt
 have hz:=hk.size
 have k9:Kept (fun i=>blk va i) w8 w9:=(Ja _ w8).grown hg (fun i e _=>e)
 have k10:Kept (fun i=>blk va i∨i=b) w8 (w9.setCell ⟨b,3,none⟩ v'):=(k9.mono (fun _ _ h=>.inl h)).set b 3 (fun _=>.inr rfl) _
 have h8:=h.kept hk hS
 have hz9:=k9.size
 have kS:Kept (fun i=>i=b) w9 (w9.setCell ⟨b,3,none⟩ v'):=(Ja (fun i=>i=b) w9).set b 3 (fun _=>rfl) _
 have hv':∀i,blk v' i→lo≤i∧i≠b:=fun i hi=>by
  rcases hf i hi with e|e
  ·exact⟨(h.ba i e).1,(h.ba i e).2.1⟩
  ·have:=h.lob;exact⟨by omega,by omega⟩
 have l_rw:=h.rw.lt
 have l_rr:=h.rr.lt
 have l_rk:=h.rk.lt
 have hF:∀i,(F i∨(w.heap.size≤i∧i<w8.heap.size))→lo≤i∧i<w8.heap.size∧i≠b∧¬blk va i∧¬blk vw i∧¬blk vr i∧¬blk vk i:=fun i hi=>by
  rcases hi with hi|hi
  ·have h1:=h.f i hi
   exact⟨h1.1,by omega,h1.2.2⟩
  ·have:=h.lob
   have l0:=h.ra.lt
   exact⟨by omega,hi.2,by omega,fun e=>by have:=l0 i e;omega,fun e=>by have:=l_rw i e;omega,fun e=>by have:=l_rr i e;omega,fun e=>by have:=l_rk i e;omega⟩
 have hFv:∀i,(F i∨(w.heap.size≤i∧i<w8.heap.size))→¬blk v' i:=fun i hi e=>by
  have h1:=hF i hi
  rcases hf i e with e|e
  ·exact h1.2.2.2.1 e
  ·omega
 refine⟨⟨?_,?_,?_,?_,?_,fun i hi=>?_,fun i hi=>?_,fun i hi=>?_,fun i hi=>?_,fun i hi=>?_,h.lob⟩,?_⟩
 ·have hb9:NBx w9 b #[.int .i64 k,.bool ng,.string (BA nm),va,vw,vr,vk]:=k9.heap h8.box (fun e=>(h.ba b e).2.1 rfl)
  exact heap_set hb9 3 v'
 ·refine jj hl (bt kS ho (fun i hi e=>(hv' i hi).2 e)) (fun y hy=>?_) ?_
  ·exact lY.mono (lY.kept (lY.kept (hps y hy) hk (fun i hi=>hS i (h.f i hi).1)) k10 (fun i hi (e:blk va i∨i=b)=>by have h1:=h.f i hi;rcases e with e|e;exact h1.2.2.2.1 e;exact h1.2.2.1 e)) (fun i _ hi=>.inl hi)
  ·exact lY.mono (lY.kept (F:=fun i=>w.heap.size≤i∧i<w8.heap.size) (lY.mono hu (fun i hi hg=>⟨hG i hg,hi⟩)) k10 (fun i hi (e:blk va i∨i=b)=>by have h1:=hF i (.inr hi);rcases e with e|e;exact h1.2.2.2.1 e;exact h1.2.2.1 e)) (fun i _ hi=>.inr hi)
 ·exact(h8.rw.kept gi k10 (fun i hi (e:blk va i∨i=b)=>by have h1:=h.f i hi;rcases e with e|e;exact h1.2.2.2.1 e;exact h1.2.2.1 e) (fun i hi (e:blk va i∨i=b)=>by rcases e with e|e;exact(h.ba i e).2.2.1 hi;exact(h.bw i hi).2.1 e)).mono gi (fun i _ hi=>.inl hi)
 ·exact(h8.rr.kept iE k10 (fun i hi (e:blk va i∨i=b)=>by have h1:=h.f i hi;rcases e with e|e;exact h1.2.2.2.1 e;exact h1.2.2.1 e) (fun i hi (e:blk va i∨i=b)=>by rcases e with e|e;exact(h.ba i e).2.2.2.1 hi;exact(h.br i hi).2.1 e)).mono iE (fun i _ hi=>.inl hi)
 ·exact(h8.rk.kept ej k10 (fun i hi (e:blk va i∨i=b)=>by have h1:=h.f i hi;rcases e with e|e;exact h1.2.2.2.1 e;exact h1.2.2.1 e) (fun i hi (e:blk va i∨i=b)=>by rcases e with e|e;exact(h.ba i e).2.2.2.2 hi;exact(h.bk i hi).2 e)).mono ej (fun i _ hi=>.inl hi)
 ·have h1:=hF i hi
  have h2:=hFv i hi
  have h3:w8.heap.size≤(w9.setCell ⟨b,3,none⟩ v').heap.size:=k10.size
  exact⟨h1.1,Nat.lt_of_lt_of_le h1.2.1 h3,h1.2.2.1,h2,h1.2.2.2.2.1,h1.2.2.2.2.2.1,h1.2.2.2.2.2.2⟩
 ·exact⟨(hv' i hi).1,(hv' i hi).2,fun e2=>by rcases hf i hi with e|e;exact(h.ba i e).2.2.1 e2;have:=l_rw i e2;omega,fun e2=>by rcases hf i hi with e|e;exact(h.ba i e).2.2.2.1 e2;have:=l_rr i e2;omega,fun e2=>by rcases hf i hi with e|e;exact(h.ba i e).2.2.2.2 e2;have:=l_rk i e2;omega⟩
 ·exact⟨(h.bw i hi).1,(h.bw i hi).2.1,(h.bw i hi).2.2.1,(h.bw i hi).2.2.2⟩
 ·exact⟨(h.br i hi).1,(h.br i hi).2.1,(h.br i hi).2.2⟩
 ·exact⟨(h.bk i hi).1,(h.bk i hi).2⟩
 ·exact(hk.mono (S':=fun i=>S i∨lo≤i) (fun _ _ h=>.inl h)).trans k10 (fun i hi (e:blk va i∨i=b)=>by rcases e with e|e;exact .inr (h.ba i e).1;exact .inr (by rw[e];exact h.lob))
theorem NB.uv (h:NB w lo b F k ng nm va vw vr vk al ws rs ks) {w8 w9:World} {v' u:Value} {x:LP} {G:Nat→Prop} {ps:List ( LP×Value)} (hl:ps.map Prod.fst=ws) (hps:∀y∈ps,wa2 w F y.2 y.1)
  (hk:Kept S w w8) (hS:∀i,lo≤i→¬S i) (hu:wa2 w8 G u x) (hG:∀i,G i→w.heap.size≤i)
  (ho:w9.ownsRow 0 59 1 v' (ws.length+1) (ps.flatMap WC++WC (x,u))) (hg:w8.grownBy w9 vw.ownBlock) (hf:fN w8 vw v'):
  NB (w9.setCell ⟨b,4,none⟩ v') lo b (fun i=>F i∨(w.heap.size≤i∧i<w8.heap.size)) k ng nm va v' vr vk al (ws++[x]) rs ks∧Kept (fun i=>S i∨lo≤i) w (w9.setCell ⟨b,4,none⟩ v'):=by
 have hb:=h.lt
 have hz:=hk.size
 have k9:Kept (fun i=>blk vw i) w8 w9:=(Ja _ w8).grown hg (fun i e _=>e)
 have k10:Kept (fun i=>blk vw i∨i=b) w8 (w9.setCell ⟨b,4,none⟩ v'):=(k9.mono (fun _ _ h=>.inl h)).set b 4 (fun _=>.inr rfl) _
 have h8:=h.kept hk hS
 have hz9:=k9.size
 have kS:Kept (fun i=>i=b) w9 (w9.setCell ⟨b,4,none⟩ v'):=(Ja (fun i=>i=b) w9).set b 4 (fun _=>rfl) _
 have hv':∀i,blk v' i→lo≤i∧i≠b:=fun i hi=>by
  rcases hf i hi with e|e
  ·exact⟨(h.bw i e).1,(h.bw i e).2.1⟩
  ·have:=h.lob;exact⟨by omega,by omega⟩
 have l_ra:=h.ra.lt
 have l_rr:=h.rr.lt
 have l_rk:=h.rk.lt
 have hF:∀i,(F i∨(w.heap.size≤i∧i<w8.heap.size))→lo≤i∧i<w8.heap.size∧i≠b∧¬blk va i∧¬blk vw i∧¬blk vr i∧¬blk vk i:=fun i hi=>by
  rcases hi with hi|hi
  ·have h1:=h.f i hi
   exact⟨h1.1,by omega,h1.2.2⟩
  ·have:=h.lob
   have l0:=h.rw.lt
   exact⟨by omega,hi.2,by omega,fun e=>by have:=l_ra i e;omega,fun e=>by have:=l0 i e;omega,fun e=>by have:=l_rr i e;omega,fun e=>by have:=l_rk i e;omega⟩
 have hFv:∀i,(F i∨(w.heap.size≤i∧i<w8.heap.size))→¬blk v' i:=fun i hi e=>by
  have h1:=hF i hi
  rcases hf i e with e|e
  ·exact h1.2.2.2.2.1 e
  ·omega
 refine⟨⟨?_,?_,?_,?_,?_,fun i hi=>?_,fun i hi=>?_,fun i hi=>?_,fun i hi=>?_,fun i hi=>?_,h.lob⟩,?_⟩
 ·have hb9:NBx w9 b #[.int .i64 k,.bool ng,.string (BA nm),va,vw,vr,vk]:=k9.heap h8.box (fun e=>(h.bw b e).2.1 rfl)
  exact heap_set hb9 4 v'
 ·exact(h8.ra.kept lY k10 (fun i hi (e:blk vw i∨i=b)=>by have h1:=h.f i hi;rcases e with e|e;exact h1.2.2.2.2.1 e;exact h1.2.2.1 e) (fun i hi (e:blk vw i∨i=b)=>by rcases e with e|e;exact(h.ba i hi).2.2.1 e;exact(h.ba i hi).2.1 e)).mono lY (fun i _ hi=>.inl hi)
 ·refine jj hl (bt kS ho (fun i hi e=>(hv' i hi).2 e)) (fun y hy=>?_) ?_
  ·exact gi.mono (gi.kept (gi.kept (hps y hy) hk (fun i hi=>hS i (h.f i hi).1)) k10 (fun i hi (e:blk vw i∨i=b)=>by have h1:=h.f i hi;rcases e with e|e;exact h1.2.2.2.2.1 e;exact h1.2.2.1 e)) (fun i _ hi=>.inl hi)
  ·exact gi.mono (gi.kept (F:=fun i=>w.heap.size≤i∧i<w8.heap.size) (gi.mono hu (fun i hi hg=>⟨hG i hg,hi⟩)) k10 (fun i hi (e:blk vw i∨i=b)=>by have h1:=hF i (.inr hi);rcases e with e|e;exact h1.2.2.2.2.1 e;exact h1.2.2.1 e)) (fun i _ hi=>.inr hi)
 ·exact(h8.rr.kept iE k10 (fun i hi (e:blk vw i∨i=b)=>by have h1:=h.f i hi;rcases e with e|e;exact h1.2.2.2.2.1 e;exact h1.2.2.1 e) (fun i hi (e:blk vw i∨i=b)=>by rcases e with e|e;exact(h.bw i e).2.2.1 hi;exact(h.br i hi).2.1 e)).mono iE (fun i _ hi=>.inl hi)
 ·exact(h8.rk.kept ej k10 (fun i hi (e:blk vw i∨i=b)=>by have h1:=h.f i hi;rcases e with e|e;exact h1.2.2.2.2.1 e;exact h1.2.2.1 e) (fun i hi (e:blk vw i∨i=b)=>by rcases e with e|e;exact(h.bw i e).2.2.2 hi;exact(h.bk i hi).2 e)).mono ej (fun i _ hi=>.inl hi)
 ·have h1:=hF i hi
  have h2:=hFv i hi
  have h3:w8.heap.size≤(w9.setCell ⟨b,4,none⟩ v').heap.size:=k10.size
  exact⟨h1.1,Nat.lt_of_lt_of_le h1.2.1 h3,h1.2.2.1,h1.2.2.2.1,h2,h1.2.2.2.2.2.1,h1.2.2.2.2.2.2⟩
 ·exact⟨(h.ba i hi).1,(h.ba i hi).2.1,fun e2=>by rcases hf i e2 with e|e;exact(h.ba i hi).2.2.1 e;have:=l_ra i hi;omega,(h.ba i hi).2.2.2.1,(h.ba i hi).2.2.2.2⟩
 ·exact⟨(hv' i hi).1,(hv' i hi).2,fun e2=>by rcases hf i hi with e|e;exact(h.bw i e).2.2.1 e2;have:=l_rr i e2;omega,fun e2=>by rcases hf i hi with e|e;exact(h.bw i e).2.2.2 e2;have:=l_rk i e2;omega⟩
 ·exact⟨(h.br i hi).1,(h.br i hi).2.1,(h.br i hi).2.2⟩
 ·exact⟨(h.bk i hi).1,(h.bk i hi).2⟩
 ·exact(hk.mono (S':=fun i=>S i∨lo≤i) (fun _ _ h=>.inl h)).trans k10 (fun i hi (e:blk vw i∨i=b)=>by rcases e with e|e;exact .inr (h.bw i e).1;exact .inr (by rw[e];exact h.lob))
theorem NB.pC (h:NB w lo b F k ng nm va vw vr vk al ws rs ks) {w8 w9:World} {v' u:Value} {x:Int×LP} {G:Nat→Prop} {ps:List ((Int×LP)×Value)} (hl:ps.map Prod.fst=rs) (hps:∀y∈ps,wa3 w F y.2 y.1)
  (hk:Kept S w w8) (hS:∀i,lo≤i→¬S i) (hu:wa3 w8 G u x) (hG:∀i,G i→w.heap.size≤i)
  (ho:w9.ownsRow 0 64 2 v' (rs.length+1) (ps.flatMap RC++RC (x,u))) (hg:w8.grownBy w9 vr.ownBlock) (hf:fN w8 vr v'):
  NB (w9.setCell ⟨b,5,none⟩ v') lo b (fun i=>F i∨(w.heap.size≤i∧i<w8.heap.size)) k ng nm va vw v' vk al ws (rs++[x]) ks∧Kept (fun i=>S i∨lo≤i) w (w9.setCell ⟨b,5,none⟩ v'):=by
 have hb:=h.lt
 have hz:=hk.size
 have k9:Kept (fun i=>blk vr i) w8 w9:=(Ja _ w8).grown hg (fun i e _=>e)
 have k10:Kept (fun i=>blk vr i∨i=b) w8 (w9.setCell ⟨b,5,none⟩ v'):=(k9.mono (fun _ _ h=>.inl h)).set b 5 (fun _=>.inr rfl) _
 have h8:=h.kept hk hS
 have hz9:=k9.size
 have kS:Kept (fun i=>i=b) w9 (w9.setCell ⟨b,5,none⟩ v'):=(Ja (fun i=>i=b) w9).set b 5 (fun _=>rfl) _
 have hv':∀i,blk v' i→lo≤i∧i≠b:=fun i hi=>by
  rcases hf i hi with e|e
  ·exact⟨(h.br i e).1,(h.br i e).2.1⟩
  ·have:=h.lob;exact⟨by omega,by omega⟩
 have l_ra:=h.ra.lt
 have l_rw:=h.rw.lt
 have l_rk:=h.rk.lt
 have hF:∀i,(F i∨(w.heap.size≤i∧i<w8.heap.size))→lo≤i∧i<w8.heap.size∧i≠b∧¬blk va i∧¬blk vw i∧¬blk vr i∧¬blk vk i:=fun i hi=>by
  rcases hi with hi|hi
  ·have h1:=h.f i hi
   exact⟨h1.1,by omega,h1.2.2⟩
  ·have:=h.lob
   have l0:=h.rr.lt
   exact⟨by omega,hi.2,by omega,fun e=>by have:=l_ra i e;omega,fun e=>by have:=l_rw i e;omega,fun e=>by have:=l0 i e;omega,fun e=>by have:=l_rk i e;omega⟩
 have hFv:∀i,(F i∨(w.heap.size≤i∧i<w8.heap.size))→¬blk v' i:=fun i hi e=>by
  have h1:=hF i hi
  rcases hf i e with e|e
  ·exact h1.2.2.2.2.2.1 e
  ·omega
 refine⟨⟨?_,?_,?_,?_,?_,fun i hi=>?_,fun i hi=>?_,fun i hi=>?_,fun i hi=>?_,fun i hi=>?_,h.lob⟩,?_⟩
 ·have hb9:NBx w9 b #[.int .i64 k,.bool ng,.string (BA nm),va,vw,vr,vk]:=k9.heap h8.box (fun e=>(h.br b e).2.1 rfl)
  exact heap_set hb9 5 v'
 ·exact(h8.ra.kept lY k10 (fun i hi (e:blk vr i∨i=b)=>by have h1:=h.f i hi;rcases e with e|e;exact h1.2.2.2.2.2.1 e;exact h1.2.2.1 e) (fun i hi (e:blk vr i∨i=b)=>by rcases e with e|e;exact(h.ba i hi).2.2.2.1 e;exact(h.ba i hi).2.1 e)).mono lY (fun i _ hi=>.inl hi)
 ·exact(h8.rw.kept gi k10 (fun i hi (e:blk vr i∨i=b)=>by have h1:=h.f i hi;rcases e with e|e;exact h1.2.2.2.2.2.1 e;exact h1.2.2.1 e) (fun i hi (e:blk vr i∨i=b)=>by rcases e with e|e;exact(h.bw i hi).2.2.1 e;exact(h.bw i hi).2.1 e)).mono gi (fun i _ hi=>.inl hi)
 ·refine jj hl (bt kS ho (fun i hi e=>(hv' i hi).2 e)) (fun y hy=>?_) ?_
  ·exact iE.mono (iE.kept (iE.kept (hps y hy) hk (fun i hi=>hS i (h.f i hi).1)) k10 (fun i hi (e:blk vr i∨i=b)=>by have h1:=h.f i hi;rcases e with e|e;exact h1.2.2.2.2.2.1 e;exact h1.2.2.1 e)) (fun i _ hi=>.inl hi)
  ·exact iE.mono (iE.kept (F:=fun i=>w.heap.size≤i∧i<w8.heap.size) (iE.mono hu (fun i hi hg=>⟨hG i hg,hi⟩)) k10 (fun i hi (e:blk vr i∨i=b)=>by have h1:=hF i (.inr hi);rcases e with e|e;exact h1.2.2.2.2.2.1 e;exact h1.2.2.1 e)) (fun i _ hi=>.inr hi)
 ·exact(h8.rk.kept ej k10 (fun i hi (e:blk vr i∨i=b)=>by have h1:=h.f i hi;rcases e with e|e;exact h1.2.2.2.2.2.1 e;exact h1.2.2.1 e) (fun i hi (e:blk vr i∨i=b)=>by rcases e with e|e;exact(h.br i e).2.2 hi;exact(h.bk i hi).2 e)).mono ej (fun i _ hi=>.inl hi)
 ·have h1:=hF i hi
  have h2:=hFv i hi
  have h3:w8.heap.size≤(w9.setCell ⟨b,5,none⟩ v').heap.size:=k10.size
  exact⟨h1.1,Nat.lt_of_lt_of_le h1.2.1 h3,h1.2.2.1,h1.2.2.2.1,h1.2.2.2.2.1,h2,h1.2.2.2.2.2.2⟩
 ·exact⟨(h.ba i hi).1,(h.ba i hi).2.1,(h.ba i hi).2.2.1,fun e2=>by rcases hf i e2 with e|e;exact(h.ba i hi).2.2.2.1 e;have:=l_ra i hi;omega,(h.ba i hi).2.2.2.2⟩
 ·exact⟨(h.bw i hi).1,(h.bw i hi).2.1,fun e2=>by rcases hf i e2 with e|e;exact(h.bw i hi).2.2.1 e;have:=l_rw i hi;omega,(h.bw i hi).2.2.2⟩
 ·exact⟨(hv' i hi).1,(hv' i hi).2,fun e2=>by rcases hf i hi with e|e;exact(h.br i e).2.2 e2;have:=l_rk i e2;omega⟩
 ·exact⟨(h.bk i hi).1,(h.bk i hi).2⟩
 ·exact(hk.mono (S':=fun i=>S i∨lo≤i) (fun _ _ h=>.inl h)).trans k10 (fun i hi (e:blk vr i∨i=b)=>by rcases e with e|e;exact .inr (h.br i e).1;exact .inr (by rw[e];exact h.lob))
theorem NB.lC (h:NB w lo b F k ng nm va vw vr vk al ws rs ks) {w8 w9:World} {v' u:Value} {x:Nd} {G:Nat→Prop} {ps:List ((Nd)×Value)} (hl:ps.map Prod.fst=ks) (hps:∀y∈ps,wa4 w F y.2 y.1)
  (hk:Kept S w w8) (hS:∀i,lo≤i→¬S i) (hu:wa4 w8 G u x) (hG:∀i,G i→w.heap.size≤i)
  (ho:w9.ownsRow 0 27 7 v' (ks.length+1) (ps.flatMap NC++NC (x,u))) (hg:w8.grownBy w9 vk.ownBlock) (hf:fN w8 vk v'):
  NB (w9.setCell ⟨b,6,none⟩ v') lo b (fun i=>F i∨(w.heap.size≤i∧i<w8.heap.size)) k ng nm va vw vr v' al ws rs (ks++[x])∧Kept (fun i=>S i∨lo≤i) w (w9.setCell ⟨b,6,none⟩ v'):=by
 have hb:=h.lt
 have hz:=hk.size
 have k9:Kept (fun i=>blk vk i) w8 w9:=(Ja _ w8).grown hg (fun i e _=>e)
 have k10:Kept (fun i=>blk vk i∨i=b) w8 (w9.setCell ⟨b,6,none⟩ v'):=(k9.mono (fun _ _ h=>.inl h)).set b 6 (fun _=>.inr rfl) _
 have h8:=h.kept hk hS
 have hz9:=k9.size
 have kS:Kept (fun i=>i=b) w9 (w9.setCell ⟨b,6,none⟩ v'):=(Ja (fun i=>i=b) w9).set b 6 (fun _=>rfl) _
 have hv':∀i,blk v' i→lo≤i∧i≠b:=fun i hi=>by
  rcases hf i hi with e|e
  ·exact⟨(h.bk i e).1,(h.bk i e).2⟩
  ·have:=h.lob;exact⟨by omega,by omega⟩
 have l_ra:=h.ra.lt
 have l_rw:=h.rw.lt
 have l_rr:=h.rr.lt
 have hF:∀i,(F i∨(w.heap.size≤i∧i<w8.heap.size))→lo≤i∧i<w8.heap.size∧i≠b∧¬blk va i∧¬blk vw i∧¬blk vr i∧¬blk vk i:=fun i hi=>by
  rcases hi with hi|hi
  ·have h1:=h.f i hi
   exact⟨h1.1,by omega,h1.2.2⟩
  ·have:=h.lob
   have l0:=h.rk.lt
   exact⟨by omega,hi.2,by omega,fun e=>by have:=l_ra i e;omega,fun e=>by have:=l_rw i e;omega,fun e=>by have:=l_rr i e;omega,fun e=>by have:=l0 i e;omega⟩
 have hFv:∀i,(F i∨(w.heap.size≤i∧i<w8.heap.size))→¬blk v' i:=fun i hi e=>by
  have h1:=hF i hi
  rcases hf i e with e|e
  ·exact h1.2.2.2.2.2.2 e
  ·omega
 refine⟨⟨?_,?_,?_,?_,?_,fun i hi=>?_,fun i hi=>?_,fun i hi=>?_,fun i hi=>?_,fun i hi=>?_,h.lob⟩,?_⟩
 ·have hb9:NBx w9 b #[.int .i64 k,.bool ng,.string (BA nm),va,vw,vr,vk]:=k9.heap h8.box (fun e=>(h.bk b e).2 rfl)
  exact heap_set hb9 6 v'
 ·exact(h8.ra.kept lY k10 (fun i hi (e:blk vk i∨i=b)=>by have h1:=h.f i hi;rcases e with e|e;exact h1.2.2.2.2.2.2 e;exact h1.2.2.1 e) (fun i hi (e:blk vk i∨i=b)=>by rcases e with e|e;exact(h.ba i hi).2.2.2.2 e;exact(h.ba i hi).2.1 e)).mono lY (fun i _ hi=>.inl hi)
 ·exact(h8.rw.kept gi k10 (fun i hi (e:blk vk i∨i=b)=>by have h1:=h.f i hi;rcases e with e|e;exact h1.2.2.2.2.2.2 e;exact h1.2.2.1 e) (fun i hi (e:blk vk i∨i=b)=>by rcases e with e|e;exact(h.bw i hi).2.2.2 e;exact(h.bw i hi).2.1 e)).mono gi (fun i _ hi=>.inl hi)
 ·exact(h8.rr.kept iE k10 (fun i hi (e:blk vk i∨i=b)=>by have h1:=h.f i hi;rcases e with e|e;exact h1.2.2.2.2.2.2 e;exact h1.2.2.1 e) (fun i hi (e:blk vk i∨i=b)=>by rcases e with e|e;exact(h.br i hi).2.2 e;exact(h.br i hi).2.1 e)).mono iE (fun i _ hi=>.inl hi)
 ·refine jj hl (bt kS ho (fun i hi e=>(hv' i hi).2 e)) (fun y hy=>?_) ?_
  ·exact ej.mono (ej.kept (ej.kept (hps y hy) hk (fun i hi=>hS i (h.f i hi).1)) k10 (fun i hi (e:blk vk i∨i=b)=>by have h1:=h.f i hi;rcases e with e|e;exact h1.2.2.2.2.2.2 e;exact h1.2.2.1 e)) (fun i _ hi=>.inl hi)
  ·exact ej.mono (ej.kept (F:=fun i=>w.heap.size≤i∧i<w8.heap.size) (ej.mono hu (fun i hi hg=>⟨hG i hg,hi⟩)) k10 (fun i hi (e:blk vk i∨i=b)=>by have h1:=hF i (.inr hi);rcases e with e|e;exact h1.2.2.2.2.2.2 e;exact h1.2.2.1 e)) (fun i _ hi=>.inr hi)
 ·have h1:=hF i hi
  have h2:=hFv i hi
  have h3:w8.heap.size≤(w9.setCell ⟨b,6,none⟩ v').heap.size:=k10.size
  exact⟨h1.1,Nat.lt_of_lt_of_le h1.2.1 h3,h1.2.2.1,h1.2.2.2.1,h1.2.2.2.2.1,h1.2.2.2.2.2.1,h2⟩
 ·exact⟨(h.ba i hi).1,(h.ba i hi).2.1,(h.ba i hi).2.2.1,(h.ba i hi).2.2.2.1,fun e2=>by rcases hf i e2 with e|e;exact(h.ba i hi).2.2.2.2 e;have:=l_ra i hi;omega⟩
 ·exact⟨(h.bw i hi).1,(h.bw i hi).2.1,(h.bw i hi).2.2.1,fun e2=>by rcases hf i e2 with e|e;exact(h.bw i hi).2.2.2 e;have:=l_rw i hi;omega⟩
 ·exact⟨(h.br i hi).1,(h.br i hi).2.1,fun e2=>by rcases hf i e2 with e|e;exact(h.br i hi).2.2 e;have:=l_rr i hi;omega⟩
 ·exact⟨(hv' i hi).1,(hv' i hi).2⟩
 ·exact(hk.mono (S':=fun i=>S i∨lo≤i) (fun _ _ h=>.inl h)).trans k10 (fun i hi (e:blk vk i∨i=b)=>by rcases e with e|e;exact .inr (h.bk i e).1;exact .inr (by rw[e];exact h.lob))
end
end Go.Proofs.YtgigdlhcjahejaaGreatDoor
