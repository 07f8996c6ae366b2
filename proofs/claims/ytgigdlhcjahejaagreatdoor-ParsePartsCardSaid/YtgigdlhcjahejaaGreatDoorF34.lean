import Derived.Test.YtgigdlhcjahejaaGreatDoorF33
set_option linter.all false
set_option maxHeartbeats 400000000
namespace Go.Proofs.YtgigdlhcjahejaaGreatDoor
open Go Go.RowKit Go.Lw
set_option maxRecDepth 100000
attribute [local go_sem] aA
def Gt:Prop:=∀(T:TT) (w:World) (g d:Nat) (p:Ps),RP T w g d p→bW w→GNe g→(∀i,blk T.v i→i<g)→Calls Tryz.prog 91 #[.pointer (some ⟨g,0,none⟩)] w (NEl T w g d (aS p).1 (aS p).2)
def CoI (T:TT) (w:World) (g d b:Nat) (k:Int) (ng:Bool) (nm:LB) (va vw vk:Value) (al:List (LB×LP)) (ws:List LP) (ks:List Nd) (RS:List (Int×LP)) (Q:Ps) (gk:Nat) (wx:World):Prop:=
 ∃(rs:List (Int×LP)) (q:Ps) (F:Nat→Prop) (vr:Value),NR wx (w.heap.size+1) b F k ng nm va vw vr vk al ws rs ks∧RP T wx g d q∧Kept (fun i=>i=g) w wx∧NBx wx w.heap.size zN∧gk=q.r.length∧rs.length+q.r.length≤2048∧rs++(aY q).1=RS∧(aY q).2=Q
theorem qe (rs:List (Int×LP)) (k:Int) (ng:Bool) (nm:LB) (al:List (LB×LP)) (ws:List LP) (r:List (Int×LP)) (ks:List Nd):fh rs (.mk k ng nm al ws r ks)= .mk k ng nm al ws (r++rs) ks:=rfl
theorem uw (n:Nat) (HR:Hid (FY n)) (HS:Hid Gt):CJ 85 eR .command (n+1):=by
 intro T w g d p x hx hp hE hgn ht
 rw[run] at hx
 have HX:=jd hx
 have hpl:=hp.len
 have HPL:=jd hpl
 obtain⟨W0,hW0⟩:∃W0,w.alloc (.cells zN 27)=W0:=⟨_,rfl⟩
 have hs0:W0.heap.size=w.heap.size+1:=by rw[←hW0,World.size_alloc]
 have KA:Hid (Kept (fun _=>False) w W0):=jd (by rw[←hW0];exact(Ja _ w).alloc _)
 have PA:Hid (NBx W0 w.heap.size zN):=jd (by rw[←hW0];exact heap_alloc w _)
 have HW0:=jd hW0
 have hgl:=hp.lt
 have HE:=jd hE;have HGN:=jd hgn;have HTB:=jd ht
 have HP0:=jd (hp.au KA.o);have HE0:=jd (hE.au KA.o)
 have HS0:=jd hs0
 have HRS:=jd (ib T W0 g d p HP0.o HE0.o)
 have hgn':=hgn
 have HKA:Hid (Kept (fun i=>i=g) w W0):=jd (KA.o.mono (fun _ _ h=>h.elim))
 clear hx hp hE hgn ht hW0 hpl hs0
 go_enter Tryz.func85,Tryz.ntmps85
 go_wp2_with fail
 rw[HW0.o]
 by_cases h0:aI p=[]
 ·have HXE:Hid (x=⟨[(aS p).1],false,(aS p).2⟩):=jd (by have h:=HX.o;rw[Jt h0] at h;exact(Jw h).symm)
  obtain⟨nd,hnd⟩:∃nd,(aS p).1=nd:=⟨_,rfl⟩
  obtain⟨p9,hp9⟩:∃p9,(aS p).2=p9:=⟨_,rfl⟩
  have HXN:Hid (x.ns=[nd]):=jd (by rw[HXE.o,←hnd])
  have HXP:Hid (x.p=p9):=jd (by rw[HXE.o,←hp9])
  have HSC:Hid (∀wx,RP T wx g d p→bW wx→Calls Tryz.prog 91 #[.pointer (some ⟨g,0,none⟩)] wx (NEl T wx g d nd p9)):=jd (fun wx hr he=>by rw[←hnd,←hp9];exact HS.o T wx g d p hr he HGN.o HTB.o)
  rw[h0] at HRS
  have f0:(BA []==(⟨#[]⟩:ByteArray))=true:=(bU [] []).trans (by decide)
  clear h0 hnd hp9
  refine HRS.o.mono ?_
  rintro e wD ⟨rfl,kD⟩
  have KD:=jd kD
  have HC:=jd (HSC.o wD (HP0.o.au kD) (HE0.o.au kD))
  have hzD:=kD.size
  clear kD HRS
  go_wp2_with fail
  refine HC.o.mono ?_
  rintro e wN ⟨v,rfl,hv,rN,kN⟩
  obtain⟨vk,vb,vn,aa,an,ac,wa,wn,wc,ra,rn,rc,ka,kn,kc,rfl⟩:=hv.agg
  have HRPn:=jd rN
  have HKF:Hid (Kept (fun i=>i=g) w wN):=jd ((HKA.o.trans KD.o (fun _ _ h=>h.elim)).trans kN (fun _ _ h=>h))
  have PRN:Hid (NBx wN w.heap.size zN):=jd (kN.heap (KD.o.heap PA.o (fun h=>h)) (fun e=>by have e':w.heap.size=g:=e;omega))
  have HV:Hid (NAt wN (fun i=>w.heap.size+1≤i) (.agg #[.int .i64 vk,.bool vb,.string (BA vn),.slice aa an ac,.slice wa wn wc,.slice ra rn rc,.slice ka kn kc]) nd):=jd (hv.mono (fun i _ hi=>by have hi':wD.heap.size≤i:=hi;have:=HS0.o;omega))
  clear hv rN kN HC
  obtain⟨⟨c0,c1,c2,c3,c4,c5,c6⟩,f0,f1,f2,f3,f4,f5,f6⟩:=NBx.cells PRN.o
  have hltN:w.heap.size<wN.heap.size:=av PRN.o
  have K7:Hid (Kept (fun i=>i=w.heap.size) wN (st7 wN w.heap.size (.int .i64 vk) (.bool vb) (.string (BA vn)) (.slice aa an ac) (.slice wa wn wc) (.slice ra rn rc) (.slice ka kn kc))):=jd (bu (Ja (fun i=>i=w.heap.size) wN) (fun _=>rfl) _ _ _ _ _ _ _)
  have B7:=jd (bS PRN.o (.int .i64 vk) (.bool vb) (.string (BA vn)) (.slice aa an ac) (.slice wa wn wc) (.slice ra rn rc) (.slice ka kn kc))
  go_wp2_with fail
  refine bodyPost_ret (v:= .agg #[.int .i64 vk,.bool vb,.string (BA vn),.slice aa an ac,.slice wa wn wc,.slice ra rn rc,.slice ka kn kc]) ?_ rfl ?_
  ·exact results_cell_row rfl _ _ w.heap.size 27 _ (0,0) _ (by rfl) B7.o Tryz.underlying27 rfl (by kernel_rfl)
  exact cp HXN.o HV.o (by rw[HXP.o];exact HRPn.o) HKF.o K7.o hgl HTB.o
 ·have HX2:Hid ((if iG (aI p)=false then some ⟨[Nd0],false,bm p 5⟩ else if 16≤d then some ⟨[Nd0],false,bm p 12⟩ else(run n (.read (d+1) (aI p) (aJ p))).map fun x=>⟨x.ns.map (fh (aY x.p).1),false,(aY x.p).2⟩)=some x):=jd (by have h:=HX.o;rw[Js h0] at h;exact h)
  have hk1:ag p≠0:=by rw[cK h0];decide
  have HK1:=jd hk1
  have hlen:(aI p).length≤2048:=by
   obtain⟨a,h1,h2⟩:=HP0.o
   obtain⟨t,r,hr,_,htx,_⟩:=qY (p:=p) (s:=aI p) rfl h0
   rw[hr] at h1
   obtain⟨_,ht,_⟩:=dc h1
   rw[←htx]
   exact(h2.toks t (List.mem_of_getElem? ht)).2
  obtain⟨s,hs⟩:∃s,aI p=s:=⟨_,rfl⟩
  rw[hs] at HRS h0 HX2 hlen
  have HLS:=jd hlen
  have f0:(BA s==(⟨#[]⟩:ByteArray))=false:=(bU s []).trans (by simpa using h0)
  have e0:s.isEmpty=false:=by simpa using h0
  clear HX h0 hs hk1 hlen
  refine HRS.o.mono ?_
  rintro e wD ⟨rfl,kD⟩
  have KD:=jd kD
  have HCO:=jd (qM wD)
  clear kD HRS
  go_wp2_with fail
  refine HCO.o.mono ?_
  rintro e w5 ⟨mb,rfl,hsm⟩
  obtain⟨fv,hlk,hfv⟩:=AM hsm s (by have:=HLS.o;unfold maxLen;omega)
  have K5:Hid (Kept (fun _=>False) W0 w5):=jd (KD.o.trans hsm.kept (fun _ _ h=>h))
  have HRP5:Hid (RP T w5 g d p):=jd (HP0.o.au K5.o)
  have HK5:Hid (Kept (fun i=>i=g) w w5):=jd (HKA.o.trans K5.o (fun _ _ h=>h.elim))
  have PR5:Hid (NBx w5 w.heap.size zN):=jd (K5.o.heap PA.o (fun h=>h))
  have HFV:=jd hfv
  have hz5:=K5.o.size
  rw[zf] at hlk
  clear hsm hfv HCO f0 e0 HP0 KD
  cases hcb:iG s with
  |false=>
   have HXE:Hid (x=⟨[Nd0],false,bm p 5⟩):=jd (by have h:=HX2.o;rw[Jt hcb] at h;exact(Jw h).symm)
   have HXN:Hid (x.ns=[Nd0]):=jd (by rw[HXE.o])
   have HXP:Hid (x.p=bm p 5):=jd (by rw[HXE.o])
   rw[hcb] at hlk
   clear hcb HX2 HXE
   have HFA:=jd (dV T w5 g d p HRP5.o 5)
   go_wp2_with fail
   refine HFA.o.mono ?_
   rintro e wN ⟨rfl,rN,kN⟩
   have HRPn:=jd rN
   have HKF:Hid (Kept (fun i=>i=g) w wN):=jd (HK5.o.trans kN (fun _ _ h=>h))
   have PRN:Hid (NBx wN w.heap.size zN):=jd (kN.heap PR5.o (fun e=>by have e':w.heap.size=g:=e;omega))
   have HZ:Hid (NAt wN (fun i=>w.heap.size+1≤i) (.agg #[.int .i64 0,.bool false,.string ⟨#[]⟩,.slice none 0 0,.slice none 0 0,.slice none 0 0,.slice none 0 0]) Nd0):=jd (NAt.shut (n:=Nd0) (bT.nil _ _) (bT.nil _ _) (bT.nil _ _) (bJ.nil _ _))
   clear rN kN HFA
   obtain⟨⟨c0,c1,c2,c3,c4,c5,c6⟩,f0,f1,f2,f3,f4,f5,f6⟩:=NBx.cells PRN.o
   have hltN:w.heap.size<wN.heap.size:=av PRN.o
   have K7:Hid (Kept (fun i=>i=w.heap.size) wN (st7 wN w.heap.size (.int .i64 0) (.bool false) (.string ⟨#[]⟩) (.slice none 0 0) (.slice none 0 0) (.slice none 0 0) (.slice none 0 0))):=jd (bu (Ja (fun i=>i=w.heap.size) wN) (fun _=>rfl) _ _ _ _ _ _ _)
   have B7:=jd (bS PRN.o (.int .i64 0) (.bool false) (.string ⟨#[]⟩) (.slice none 0 0) (.slice none 0 0) (.slice none 0 0) (.slice none 0 0))
   go_wp2_with fail
   refine bodyPost_ret (v:= .agg #[.int .i64 0,.bool false,.string ⟨#[]⟩,.slice none 0 0,.slice none 0 0,.slice none 0 0,.slice none 0 0]) ?_ rfl ?_
   ·exact results_cell_row rfl _ _ w.heap.size 27 _ (0,0) _ (by rfl) B7.o Tryz.underlying27 rfl (by kernel_rfl)
   exact cp HXN.o HZ.o (by rw[HXP.o];exact HRPn.o) HKF.o K7.o hgl HTB.o
  |true=>
   obtain⟨f,hf1,hf2,hf3⟩:=HR.o s hcb
   have ecf:∀(l9:Array Value) (w:World),(callFunc f l9).run Tryz.prog w= .ok (.enter f l9) w:=fun l9 w=>hf2 l9 w
   have HF3:=jd hf3
   have hfve:fv= .func (.func f) #[] #[]:=HFV.o _ hf1
   subst hfve
   have HX3:Hid ((if 16≤d then some ⟨[Nd0],false,bm p 12⟩ else(run n (.read (d+1) s (aJ p))).map fun x=>⟨x.ns.map (fh (aY x.p).1),false,(aY x.p).2⟩)=some x):=jd (by have h:=HX2.o;rw[Js (by rw[hcb];decide)] at h;exact h)
   rw[hcb] at hlk
   obtain⟨at_,hd0,hr⟩:=HRP5.o
   have hdp:=hr.dp
   obtain⟨⟨r0,r1,r2,r3⟩,q1,q2,q3⟩:=hr.cells
   have hlt5:=hr.lt
   have HRA:=jd hr;have HD0:=jd hd0
   have hs9:=hr.short
   clear hcb HX2 hf1 hf2 hf3 HFV hd0 hr
   by_cases h16:16≤d
   ·have HXE:Hid (x=⟨[Nd0],false,bm p 12⟩):=jd (by have h:=HX3.o;rw[Jt h16] at h;exact(Jw h).symm)
    have HXN:Hid (x.ns=[Nd0]):=jd (by rw[HXE.o])
    have HXP:Hid (x.p=bm p 12):=jd (by rw[HXE.o])
    have d1:decide ((d:Int)≥16)=true:=Jc (by omega)
    have d2:decide (16≤d)=true:=Jc h16
    clear HX3 HXE h16 hs9
    have HFA:=jd (dV T w5 g d p HRP5.o 12)
    go_wp2_with fail
    refine HFA.o.mono ?_
    rintro e wN ⟨rfl,rN,kN⟩
    have HRPn:=jd rN
    have HKF:Hid (Kept (fun i=>i=g) w wN):=jd (HK5.o.trans kN (fun _ _ h=>h))
    have PRN:Hid (NBx wN w.heap.size zN):=jd (kN.heap PR5.o (fun e=>by have e':w.heap.size=g:=e;omega))
    have HZ:Hid (NAt wN (fun i=>w.heap.size+1≤i) (.agg #[.int .i64 0,.bool false,.string ⟨#[]⟩,.slice none 0 0,.slice none 0 0,.slice none 0 0,.slice none 0 0]) Nd0):=jd (NAt.shut (n:=Nd0) (bT.nil _ _) (bT.nil _ _) (bT.nil _ _) (bJ.nil _ _))
    clear rN kN HFA
    obtain⟨⟨c0,c1,c2,c3,c4,c5,c6⟩,f0,f1,f2,f3,f4,f5,f6⟩:=NBx.cells PRN.o
    have hltN:w.heap.size<wN.heap.size:=av PRN.o
    have K7:Hid (Kept (fun i=>i=w.heap.size) wN (st7 wN w.heap.size (.int .i64 0) (.bool false) (.string ⟨#[]⟩) (.slice none 0 0) (.slice none 0 0) (.slice none 0 0) (.slice none 0 0))):=jd (bu (Ja (fun i=>i=w.heap.size) wN) (fun _=>rfl) _ _ _ _ _ _ _)
    have B7:=jd (bS PRN.o (.int .i64 0) (.bool false) (.string ⟨#[]⟩) (.slice none 0 0) (.slice none 0 0) (.slice none 0 0) (.slice none 0 0))
    go_wp2_with fail
    refine bodyPost_ret (v:= .agg #[.int .i64 0,.bool false,.string ⟨#[]⟩,.slice none 0 0,.slice none 0 0,.slice none 0 0,.slice none 0 0]) ?_ rfl ?_
    ·exact results_cell_row rfl _ _ w.heap.size 27 _ (0,0) _ (by rfl) B7.o Tryz.underlying27 rfl (by kernel_rfl)
    exact cp HXN.o HZ.o (by rw[HXP.o];exact HRPn.o) HKF.o K7.o hgl HTB.o
   ·have h:=HX3.o
    rw[Js h16] at h
    obtain⟨y,hy,hX⟩:=Jh.1 h
    have d1:decide ((d:Int)≥16)=false:=Jd (by omega)
    have d2:decide (16≤d)=false:=Jd h16
    have hty:(aJ p).r.length≤2048:=by have h1:=HPL.o;have h2:=vP p;omega
    have HTY:=jd hty
    have hyl:y.p.r.length≤2048:=lt9 (eF _ _ _ hy) hty
    obtain⟨RS,hRS⟩:∃RS,(aY y.p).1=RS:=⟨_,rfl⟩
    obtain⟨Q,hQ⟩:∃Q,(aY y.p).2=Q:=⟨_,rfl⟩
    obtain⟨nd,hn1⟩:=(cJ _ _ _ hy).1 trivial
    have HXN0:Hid (x.ns=[fh RS nd]):=jd (by rw[←hX,hn1,←hRS];rfl)
    have HXP:Hid (x.p=Q):=jd (by rw[←hX,←hQ])
    have HN1:=jd hn1;have HYL:=jd hyl;have HRS:=jd hRS;have HQ:=jd hQ
    obtain⟨wE,hwE⟩:∃wE,(w5.setCell ⟨g,1,none⟩ (.int .i64 ((at_:Int)+1))).setCell ⟨g,2,none⟩ (.int .i64 ((d:Int)+1))=wE:=⟨_,rfl⟩
    have hatl:at_<T.L.length:=by
     have h1:=HK1.o
     have h2:=HD0.o
     rcases Nat.lt_or_ge at_ T.L.length with h3|h3
     ·exact h3
     ·exfalso
      rw[List.drop_eq_nil_of_le h3] at h2
      unfold ag at h1
      rw[←h2] at h1
      exact h1 rfl
    have RAE:Hid (RA T wE g (at_+1) (d+1) p.e):=jd (by
     rw[←hwE]
     exact(HRA.o.setAt (a:=at_+1) (by omega)).Gq (a:=d+1) (by omega))
    have HRPE:Hid (RP T wE g (d+1) (aJ p)):=jd ⟨at_+1,by show _=p.r.tail;rw[←HD0.o,List.tail_drop],RAE.o⟩
    have KE:Hid (Kept (fun i=>i=g) w5 wE):=jd (by rw[←hwE];exact((Ja (fun i=>i=g) w5).set g 1 (fun _=>rfl) _).set g 2 (fun _=>rfl) _)
    have HKE:Hid (Kept (fun i=>i=g) w wE):=jd (HK5.o.trans KE.o (fun _ _ h=>h))
    have HCC:=jd (HF3.o T wE g (d+1) (aJ p) y hy HRPE.o (HE.o.dz HKE.o HGN.o) HGN.o HTB.o)
    have HWE:=jd hwE
    have hat9:at_≤2048:=by omega
    clear h hX h16 hn1 hy hwE hRS hQ hyl hty HX3 HF3 hatl hs9
    go_wp2_with fail
    rw[HWE.o]
    refine HCC.o.mono ?_
    rintro e w6 ⟨v,nd',hns,rfl,hv,rF,kF,hrs,b0,b1,b2,b3,b4,b6,hvd⟩
    have hnd:nd'=nd:=by have h:=HN1.o;rw[hns] at h;exact List.singleton_inj.1 h
    subst hnd
    obtain⟨ka_,ng,nm,al,ws,rs0,ks⟩:=nd'
    have hrs':rs0=[]:=hrs
    subst hrs'
    obtain⟨aa,an,ac,wa,wn,wc,ra,rn,rc,ka,kn,kc,hve,o1,o2,o3,o4⟩:=hv.opens
    have hve':v= .agg #[.int .i64 ka_,.bool ng,.string (BA nm),.slice aa an ac,.slice wa wn wc,.slice ra rn rc,.slice ka kn kc]:=hve
    have hv5:(.slice none 0 0:Value)= .slice ra rn rc:=by
     rw[hvd] at hve'
     simp only[Value.agg.injEq,Array.mk.injEq,List.cons.injEq,and_true] at hve'
     exact hve'.2.2.2.2.2.1
    cases hv5
    clear hvd hve hrs hns
    subst hve'
    have HXN:Hid (x.ns=[.mk ka_ ng nm al ws RS ks]):=jd (by rw[HXN0.o,qe];rfl)
    have O1:=jd o1;have O2:=jd o2;have O4:=jd o4
    have HRF:=jd rF;have KF:=jd kF
    have hzF:=kF.size
    have hzE:=KE.o.size
    obtain⟨at6,hd6,hr6⟩:=rF
    obtain⟨⟨x0,x1,x2,x3⟩,u1,u2,u3⟩:=hr6.cells
    have hlt6:=hr6.lt
    have HR6:=jd (hr6.Gq (a:=d) (by omega));have HD6:=jd hd6
    have KS6:Hid (Kept (fun i=>i=g) w6 (w6.setCell ⟨g,2,none⟩ (.int .i64 (d:Int)))):=jd ((Ja (fun i=>i=g) w6).set g 2 (fun _=>rfl) _)
    clear hv o1 o2 o3 o4 kF hd6 hr6 HCC HXN0 HWE r0 r1 r2 r3 q1 q2 q3 hlk
    go_wp2_with fail
    obtain⟨W7,hW7⟩:∃W7,(w6.setCell ⟨g,2,none⟩ (.int .i64 (d:Int))).alloc (.cells #[.int .i64 ka_,.bool ng,.string (BA nm),.slice aa an ac,.slice wa wn wc,.slice none 0 0,.slice ka kn kc] 27)=W7:=⟨_,rfl⟩
    obtain⟨b,hb⟩:∃b,w6.heap.size=b:=⟨_,rfl⟩
    have K7:Hid (Kept (fun _=>False) (w6.setCell ⟨g,2,none⟩ (.int .i64 (d:Int))) W7):=jd (by rw[←hW7];exact(Ja _ _).alloc _)
    have B7:Hid (NBx W7 b #[.int .i64 ka_,.bool ng,.string (BA nm),.slice aa an ac,.slice wa wn wc,.slice none 0 0,.slice ka kn kc]):=jd (by rw[←hb,←hW7];exact lR _ _ _ _ _ _)
    have K67:Hid (Kept (fun i=>i=g) w6 W7):=jd (KS6.o.trans K7.o (fun _ _ h=>h.elim))
    have hbz:b<W7.heap.size:=av B7.o
    have h0E:w.heap.size<wE.heap.size:=av (KE.o.heap PR5.o (fun e=>by have e':w.heap.size=g:=e;omega))
    have HNR:Hid (NR W7 (w.heap.size+1) b (fun i=>wE.heap.size≤i∧i<b) ka_ ng nm (.slice aa an ac) (.slice wa wn wc) (.slice none 0 0) (.slice ka kn kc) al ws [] ks):=jd ⟨B7.o,
     (O1.o.kept K67.o (fun i hi e=>by have e':i=g:=e;have hi':wE.heap.size≤i:=hi;omega)|>fun h=>(O1.o.mono (G:=fun i=>wE.heap.size≤i∧i<b) (fun i h1 h2=>⟨h2,by omega⟩)).kept K67.o (fun i hi e=>by have e':i=g:=e;have:=hi.1;omega)),
     (O2.o.mono (G:=fun i=>wE.heap.size≤i∧i<b) (fun i h1 h2=>⟨h2,by omega⟩)).kept K67.o (fun i hi e=>by have e':i=g:=e;have:=hi.1;omega),
     gp.nil _ _,
     (O4.o.mono (G:=fun i=>wE.heap.size≤i∧i<b) (fun i h1 h2=>⟨h2,by omega⟩)).kept K67.o (fun i hi e=>by have e':i=g:=e;have:=hi.1;omega),
     fun i hi=>⟨by have:=hi.1;omega,by have:=hi.2;omega,by have:=hi.2;omega,dk⟩,fun i hi=>(dk hi).elim,by omega⟩
    have HRP7:Hid (RP T W7 g d y.p):=jd ⟨at6,HD6.o,HR6.o.au K7.o⟩
    have HK7:Hid (Kept (fun i=>i=g) w W7):=jd ((HKE.o.trans KF.o (fun _ _ h=>h)).trans K67.o (fun _ _ h=>h))
    have PR7:Hid (NBx W7 w.heap.size zN):=jd (K67.o.heap (KF.o.heap (KE.o.heap PR5.o (fun e=>by have e':w.heap.size=g:=e;omega)) (fun e=>by have e':w.heap.size=g:=e;omega)) (fun e=>by have e':w.heap.size=g:=e;omega))
    obtain⟨M,hM⟩:∃M,y.p.r.length=M:=⟨_,rfl⟩
    have HM:=jd hM
    have HGL:Hid (g<w.heap.size+1):=jd (by omega)
    rw[hW7,hb]
    clear hW7 hM K7 B7 K67 O1 O2 O4 HR6 HD6 KS6 KF KE HKE RAE HRPE hbz x0 x1 x2 x3 u1 u2 u3 hb HRF
    go_loopg [59] M (fun gk s59 wx=>CoI T w g d b ka_ ng nm (.slice aa an ac) (.slice wa wn wc) (.slice ka kn kc) al ws ks RS Q gk wx)
    case atStart=>
     exact⟨[],y.p,_,_,HNR.o,HRP7.o,HK7.o,PR7.o,HM.o.symm,by have:=HYL.o;simp;omega,by rw[HRS.o];rfl,HQ.o⟩
    case round=>
     obtain⟨rs,q,Fq,vr,hnr,hrp,hkw,hpr,hgk,hlen,hrs,hqq⟩:=hrel
     clear HNR HRP7 HK7 PR7 HRS HQ HYL
     have HNR:=jd hnr;have HRP:=jd hrp;have HKW:=jd hkw;have HPR:=jd hpr;have HGK:=jd hgk;have HLEN:=jd hlen;have HRSS:=jd hrs;have HQQ:=jd hqq
     have hrd:=rh T wr g d (w.heap.size+1) b Fq ka_ ng nm (.slice aa an ac) (.slice wa wn wc) vr (.slice ka kn kc) al ws rs ks q hrp (HE.o.dz hkw HGN.o).word hnr HGL.o (fun i hi=>Nat.lt_trans (HTB.o i hi) HGL.o) (by omega) hgn'
     have HRD:=jd hrd
     clear hnr hrp hkw hpr hgk hlen hrs hqq hrd
     cases hrq:bf q with
     |none=>
      have HSTEP:Hid (aY q=([],q)):=jd (by rw[nx,hrq])
      have HRS2:Hid (rs=RS):=jd (by have h:=HRSS.o;rw[HSTEP.o] at h;simpa using h)
      have HQ2:Hid (q=Q):=jd (by have h:=HQQ.o;rw[HSTEP.o] at h;exact h)
      have HRQ:=jd hrq
      clear hrq
      go_wp2_with fail
      refine HRD.o.mono ?_
      rintro e wN ⟨he,⟨vr',F',hnb⟩,rN,kN⟩
      rw[HRQ.o] at he hnb rN
      have he':e= .returned (.bool false):=he
      subst he'
      have hnb':NR wN (w.heap.size+1) b F' ka_ ng nm (.slice aa an ac) (.slice wa wn wc) vr' (.slice ka kn kc) al ws RS ks:=by have h:=hnb;simp only[Option.map_none,Option.toList_none,List.append_nil] at h;rw[HRS2.o] at h;exact h
      have HNBn:=jd hnb'
      have HRPn:Hid (RP T wN g d Q):=jd (by have h:RP T wN g d q:=rN;rw[HQ2.o] at h;exact h)
      have HKF:Hid (Kept (fun i=>i=g) w wN):=jd (HKW.o.trans kN (fun i hi e=>by rcases e with e|e<;>first|exact e|(exfalso;omega)))
      have PRN:Hid (NBx wN w.heap.size zN):=jd (kN.heap HPR.o (fun e=>by rcases e with e|e<;>first|omega|(have e':w.heap.size=g:=e;omega)))
      obtain⟨ta,tc,htt,_⟩:=HNBn.o.rr.slice
      obtain⟨tn,htn⟩:∃tn,RS.length=tn:=⟨_,rfl⟩
      rw[htn] at htt
      subst htt
      clear hnb hnb' rN kN htn HRD HRQ HSTEP
      obtain⟨⟨c0,c1,c2,c3,c4,c5,c6⟩,f0,f1,f2,f3,f4,f5,f6⟩:=NBx.cells PRN.o
      obtain⟨⟨e0,e1,e2,e3,e4,e5,e6⟩,-⟩:=NBx.cells HNBn.o.box
      have hltN:w.heap.size<wN.heap.size:=av PRN.o
      have K7:Hid (Kept (fun i=>i=w.heap.size) wN (st7 wN w.heap.size (.int .i64 ka_) (.bool ng) (.string (BA nm)) (.slice aa an ac) (.slice wa wn wc) (.slice ta tn tc) (.slice ka kn kc))):=jd (bu (Ja (fun i=>i=w.heap.size) wN) (fun _=>rfl) _ _ _ _ _ _ _)
      have B7:=jd (bS PRN.o (.int .i64 ka_) (.bool ng) (.string (BA nm)) (.slice aa an ac) (.slice wa wn wc) (.slice ta tn tc) (.slice ka kn kc))
      go_wp2_with fail
      refine bodyPost_ret (v:= .agg #[.int .i64 ka_,.bool ng,.string (BA nm),.slice aa an ac,.slice wa wn wc,.slice ta tn tc,.slice ka kn kc]) ?_ rfl ?_
      ·exact results_cell_row rfl _ _ w.heap.size 27 _ (0,0) _ (by rfl) B7.o Tryz.underlying27 rfl (by kernel_rfl)
      exact cp HXN.o HNBn.o.at (by rw[HXP.o];exact HRPn.o) HKF.o K7.o hgl HTB.o
     |some z=>
      obtain⟨z,q'⟩:=z
      have HSTEP:Hid (aY q=(z::(aY q').1,(aY q').2)):=jd (by rw[nx,hrq])
      have hql:q'.r.length<q.r.length:=dK hrq
      have HQL:=jd hql
      have HRQ:=jd hrq
      clear hrq hql
      go_wp2_with fail
      refine HRD.o.mono ?_
      rintro e wN ⟨he,⟨vr',F',hnb⟩,rN,kN⟩
      rw[HRQ.o] at he hnb rN
      have he':e= .returned (.bool true):=he
      subst he'
      have hnb':NR wN (w.heap.size+1) b F' ka_ ng nm (.slice aa an ac) (.slice wa wn wc) vr' (.slice ka kn kc) al ws (rs++[z]) ks:=by have h:=hnb;simpa using h
      have HNBn:=jd hnb'
      have HRPn:Hid (RP T wN g d q'):=jd rN
      have KN:=jd kN
      clear hnb hnb' rN kN HRD HRQ
      go_wp2_with fail
      go_roundg (q'.r.length)
      case measure=>have h1:=HQL.o;have h2:=HGK.o;omega
      case rel=>
       exact⟨rs++[z],q',F',vr',HNBn.o,HRPn.o,HKW.o.trans KN.o (fun i hi e=>by rcases e with e|e<;>first|exact e|(exfalso;omega)),KN.o.heap HPR.o (fun e=>by rcases e with e|e<;>first|omega|(have e':w.heap.size=g:=e;omega)),rfl,(by have h1:=HQL.o;have h2:=HLEN.o;simp only[Jf,Jg,Jn];omega),(by have h:=HRSS.o;rw[HSTEP.o] at h;rw[Jj];exact h),(by have h:=HQQ.o;rw[HSTEP.o] at h;exact h)⟩
