import Derived.Test.YtgigdlhcjahejaaGreatDoorF27
import Derived.Test.YtgigdlhcjahejaaGreatDoorF30
import Derived.Test.YtgigdlhcjahejaaGreatDoorF31
import Derived.Test.YtgigdlhcjahejaaGreatDoorF00
import Derived.Maps.RangeWalk
import Derived.Maps.Views
import Derived.Maps.OwnSet
set_option linter.all false
set_option maxHeartbeats 400000000
namespace Go.Proofs.YtgigdlhcjahejaaGreatDoor
open Go Go.RowKit Go.Lw
set_option maxRecDepth 100000
attribute [local go_sem] aA
theorem BY {n d:Nat} {p:Ps} {x:Rd9} (h:run n (.loop d 8 p)=some x):∃l q,x=⟨[ndK 8 l],false,q⟩∧run n (.loop d 7 p)=some ⟨[ndK 7 l],false,q⟩:=by
 cases n with
 |zero=>cases h
 |succ n=>
  rw[run] at h
  obtain⟨y,hy,hX⟩:=Ji.1 h
  obtain⟨z,hz,hX⟩:=Jh.1 hX
  refine⟨y.ns++z.ns,z.p,hX.symm,?_⟩
  rw[run,hy]
  show Option.map _ _=_
  rw[hz];rfl
theorem xS (n:Nat) (HL:Hid (CJ 100 eG (fun d p=>.loop d 7 p) n)):CJ 101 eG (fun d p=>.loop d 8 p) n:=by
 intro T w g d p x hx hp hE hgn ht
 obtain⟨l,q,hX,hx7⟩:=BY hx
 have HXN:Hid (x.ns=[ndK 8 l]):=jd (by rw[hX])
 have HXP:Hid (x.p=q):=jd (by rw[hX])
 obtain⟨W0,hW0⟩:∃W0,w.alloc (.cells zN 27)=W0:=⟨_,rfl⟩
 have hs0:W0.heap.size=w.heap.size+1:=by rw[←hW0,World.size_alloc]
 have KA:Hid (Kept (fun _=>False) w W0):=jd (by rw[←hW0];exact(Ja _ w).alloc _)
 have PA:Hid (NBx W0 w.heap.size zN):=jd (by rw[←hW0];exact heap_alloc w _)
 have HW0:=jd hW0
 have hgl:=hp.lt
 have HE:=jd hE;have HGN:=jd hgn;have HTB:=jd ht
 have HP0:=jd (hp.au KA.o);have HE0:=jd (hE.au KA.o)
 have HC:=jd (HL.o T W0 g d p _ hx7 HP0.o HE0.o hgn ht)
 have HS0:=jd hs0
 clear hx hp hE hgn ht hW0 hX hx7 hs0
 go_enter Tryz.func101,Tryz.ntmps101
 go_wp2_with fail
 rw[HW0.o]
 refine HC.o.mono ?_
 rintro e w2 ⟨v,nd7,hns7,rfl,hv,r2,k2,_,d0,d1,d2,d3,d4,d6,hvd⟩
 obtain rfl:ndK 7 l=nd7:=by cases hns7;rfl
 have R2:=jd r2;have K2:=jd k2
 have hz2:=k2.size
 obtain⟨aa,an,ac,wa,wn,wc,ra,rn,rc,ka,kn,kc,hve,h1,h2,h3,h4⟩:=hv.opens
 have hve':v= .agg #[.int .i64 7,.bool false,.string (BA []),.slice aa an ac,.slice wa wn wc,.slice ra rn rc,.slice ka kn kc]:=hve
 have hv5:(.slice none 0 0:Value)= .slice ra rn rc:=by
  rw[hvd] at hve'
  simp only[Value.agg.injEq,Array.mk.injEq,List.cons.injEq,and_true] at hve'
  exact hve'.2.2.2.2.2.1
 cases hv5
 clear hvd hns7
 subst hve'
 have HV8:Hid (NAt w2 (fun b=>W0.heap.size≤b) (.agg #[.int .i64 8,.bool false,.string (BA []),.slice aa an ac,.slice wa wn wc,.slice none 0 0,.slice ka kn kc]) (ndK 8 l)):=jd (NAt.shut (n:=ndK 8 l) h1 h2 h3 h4)
 have PR2:NBx w2 w.heap.size zN:=K2.o.heap PA.o (fun e=>by have e':w.heap.size=g:=e;omega)
 clear hv r2 k2 h1 h2 h3 h4 hve
 obtain⟨⟨c0,c1,c2,c3,c4,c5,c6⟩,f0,f1,f2,f3,f4,f5,f6⟩:=NBx.cells PR2
 have hlt2:w.heap.size<w2.heap.size:=av PR2
 have K7:Hid (Kept (fun i=>i=w.heap.size) w2 (st7 w2 w.heap.size (.int .i64 8) (.bool false) (.string (BA [])) (.slice aa an ac) (.slice wa wn wc) (.slice none 0 0) (.slice ka kn kc))):=jd (bu (Ja (fun i=>i=w.heap.size) w2) (fun _=>rfl) _ _ _ _ _ _ _)
 have B7:=jd (bS PR2 (.int .i64 8) (.bool false) (.string (BA [])) (.slice aa an ac) (.slice wa wn wc) (.slice none 0 0) (.slice ka kn kc))
 go_wp2_with fail
 have hres:=((Ja (fun _=>False) (st7 w2 w.heap.size (.int .i64 8) (.bool false) (.string (BA [])) (.slice aa an ac) (.slice wa wn wc) (.slice none 0 0) (.slice ka kn kc))).alloc (.cells #[.int .i64 8,.bool false,.string (BA []),.slice aa an ac,.slice wa wn wc,.slice none 0 0,.slice ka kn kc] 27)).heap B7.o (fun h=>h)
 refine bodyPost_ret (v:= .agg #[.int .i64 8,.bool false,.string (BA []),.slice aa an ac,.slice wa wn wc,.slice none 0 0,.slice ka kn kc]) ?_ rfl ?_
 ·exact results_cell_row rfl _ _ w.heap.size 27 _ (0,0) _ (by rfl) hres Tryz.underlying27 rfl (by kernel_rfl)
 refine hZ ?_ (fun nd h=>by rw[HXN.o] at h;cases h;rfl)
 exact cp HXN.o (HV8.o.mono (fun b _ hb=>by have h1:=HS0.o;have hb':W0.heap.size≤b:=hb;omega)) (by rw[HXP.o];exact R2.o) ((KA.o.mono (S':=fun i=>i=g) (fun _ _ h=>h.elim)).trans K2.o (fun _ _ h=>h)) (K7.o.alloc _) hgl HTB.o
def LiI (T:TT) (w:World) (g d n:Nat) (y:Rd9) (gk:Nat) (s3 s4 s5:Value) (wx:World):Prop:=
 ∃(m st:Bool) (acc:List Nd) (q:Ps) (F:Nat→Prop),s3= .bool st∧s5= .bool m∧OKs wx F s4 acc∧(∀i,F i→w.heap.size+1≤i∧i<wx.heap.size∧¬blk s4 i)∧(∀i,blk s4 i→w.heap.size+1≤i)∧RP T wx g d q∧Kept (fun i=>i=g) w wx∧NBx wx w.heap.size zN∧acc.length≤2050∧
  (m=true→gk=q.r.length+1∧acc.length+q.r.length≤2048∧∃k,k≤n∧run k (.kids d acc q)=some y)∧(m=false→gk=0∧y=⟨acc,st,q⟩)
theorem tD {T:TT} {w wz w9:World} {g d:Nat} {x:Rd9} {v:Value} {nd:Nd} {st:Bool} (hns:x.ns=[nd]) (hst:x.st=st) (hv:NAt wz (fun b=>w.heap.size+1≤b) v nd) (hp:RP T wz g d x.p) (hk:Kept (fun i=>i=g) w wz) (k9:Kept (fun i=>i=w.heap.size) wz w9) (hg:g<w.heap.size) (ht:∀i,blk T.v i→i<g):
  uU T w g d x (.returned (.tuple #[v,.bool st])) w9:=by
 obtain⟨a,h1,h2⟩:=hp
 refine⟨v,nd,hns,by rw[hst],(hv.kept k9 (fun b hb e=>by have e':b=w.heap.size:=e;have hb':w.heap.size+1≤b:=hb;omega)).mono (fun b _ hb=>Nat.le_of_succ_le hb),⟨a,h1,h2.kept k9 (fun e=>by omega) (fun i hi e=>by have:=ht i hi;have e':i=w.heap.size:=e;omega)⟩,hk.trans k9 (fun i hi e=>by have e':i=w.heap.size:=e;omega)⟩
theorem AL (n:Nat) (HB:Hid (CJ 56 eR .chain n)):CJ 27 uU .list (n+1):=by
 intro T w g d p x hx hp hE hgn ht
 rw[run] at hx
 obtain⟨y,hy,hX⟩:=Jh.1 hx
 have HXN:Hid (x.ns=cR 5 y.ns):=jd (by rw[←hX])
 have HXS:Hid (x.st=y.st):=jd (by rw[←hX])
 have HXP:Hid (x.p=y.p):=jd (by rw[←hX])
 have HY:=jd hy
 have hpl:=hp.len
 have HPL:=jd hpl
 obtain⟨N,hN⟩:∃N,p.r.length=N:=⟨_,rfl⟩
 have HN:=jd hN
 obtain⟨W0,hW0⟩:∃W0,w.alloc (.cells zN 27)=W0:=⟨_,rfl⟩
 have hs0:W0.heap.size=w.heap.size+1:=by rw[←hW0,World.size_alloc]
 have KA:Hid (Kept (fun _=>False) w W0):=jd (by rw[←hW0];exact(Ja _ w).alloc _)
 have PA:Hid (NBx W0 w.heap.size zN):=jd (by rw[←hW0];exact heap_alloc w _)
 have HW0:=jd hW0
 have hgl:=hp.lt
 have HE:=jd hE;have HGN:=jd hgn;have HTB:=jd ht
 have HP0:=jd (hp.au KA.o);have HE0:=jd (hE.au KA.o)
 have HS0:=jd hs0
 have HBC:=jd (fun(wx:World) (q:Ps) (z:Rd9) (nd:Nd) (hz:run n (.chain d q)=some z) (hn:z.ns=[nd]) (hr:RP T wx g d q) (he:bW wx)=>(HB.o T wx g d q z hz hr he HGN.o HTB.o).mono (fun e w' h=>fN hn rfl h))
 clear hx hp hE hgn ht hW0 hy hX hN hpl hs0
 go_enter Tryz.func27,Tryz.ntmps27
 go_wp2_with fail
 rw[HW0.o]
 go_loopg [3,4,5] (N+1) (fun gk s3 s4 s5 wx=>LiI T w g d n y gk s3 s4 s5 wx)
 case atStart=>
  exact⟨true,false,[],p,fun _=>False,rfl,rfl,gp.nil _ _,fun _ h=>h.elim,fun _ h=>(dk h).elim,HP0.o,KA.o.mono (fun _ _ h=>h.elim),PA.o,by simp,fun _=>⟨by rw[HN.o],by have:=HPL.o;simp;omega,n,Jb _,HY.o⟩,fun h=>(by cases h)⟩
 case round=>
  obtain⟨m,st,acc,q,F,rfl,rfl,hok,hF,hbv,hrp,hkw,hpr,hlen,hm1,hm2⟩:=hrel
  clear HP0 HE0 KA PA HW0 HY HPL
  have HKW:=jd hkw;have HPR:=jd hpr;have HRP:=jd hrp;have HF:=jd hF;have HBV:=jd hbv;have HLEN:=jd hlen
  obtain⟨sa,sc,hs4,hsl⟩:=hok.slice
  obtain⟨sn,hsn⟩:∃sn,acc.length=sn:=⟨_,rfl⟩
  rw[hsn] at hs4 hsl
  have HSN:=jd hsn
  subst hs4
  have hsn9:sn≤2050:=by omega
  have hgr:=hrp.lt
  have hlr:=hkw.size
  cases m with
  |true=>
   obtain⟨hgk,hlen2,k,hk,hrun⟩:=hm1 rfl
   cases k with
   |zero=>cases hrun
   |succ k=>
   rw[run] at hrun
   obtain⟨z,hz,hrun⟩:=Ji.1 hrun
   obtain⟨nd,hn1⟩:=(cJ _ _ _ hz).1 trivial
   have hl1:z.p.r.length≤q.r.length:=eF _ _ _ hz
   have hz':=aM.le hz (show k≤n by omega)
   obtain⟨p2,hp2⟩:∃p2,z.p=p2:=⟨_,rfl⟩
   rw[hp2] at hl1
   rw[hn1,hp2] at hrun
   have HRUN:=jd hrun
   have HEr:Hid (bW wr):=jd (HE.o.dz hkw HGN.o)
   have HWP:Hid (Calls Tryz.prog 56 #[.pointer (some ⟨g,0,none⟩)] wr (NEl T wr g d nd p2)):=jd (hp2▸HBC.o wr q z nd hz' hn1 hrp HEr.o)
   have HL:Hid (p2.r.length≤q.r.length∧gk=q.r.length+1∧acc.length+q.r.length≤2048∧k≤n):=jd ⟨hl1,hgk,hlen2,by omega⟩
   obtain⟨ps,hps,hown,hel⟩:=hok
   rw[hsn] at hown
   have HOWN:=jd hown;have HPS:=jd hps;have HEL:=jd hel
   clear hF hbv hrp hkw hpr hlen hm1 hm2 hgk hlen2 hk hrun hz hn1 hl1 hz' hp2 hps hown hel hsn
   go_wp2_with fail
   refine HWP.o.mono ?_
   rintro e wA ⟨v,rfl,hv,rA,kA⟩
   obtain⟨vk,vb,vn,aa,an,ac,wa,wn,wc,ra,rn,rc,ka,kn,kc,rfl⟩:=hv.agg
   have HV:=jd hv;have HRA:=jd rA;have KA:=jd kA
   have hzA:=kA.size
   have hgA:g<wA.heap.size:=rA.lt
   have HOWA:=jd ((bH kA HOWN.o (fun i hi e=>by have e':i=g:=e;have:=HBV.o i hi;omega)).alloc (.cells #[.int .i64 vk,.bool vb,.string (BA vn),.slice aa an ac,.slice wa wn wc,.slice ra rn rc,.slice ka kn kc] 27))
   have HRD:Hid (Rd (wA.alloc (.cells #[.int .i64 vk,.bool vb,.string (BA vn),.slice aa an ac,.slice wa wn wc,.slice ra rn rc,.slice ka kn kc] 27)) 7 (.slice (some ⟨wA.heap.size,0,none⟩) 1 1) 1 (NC (nd,.agg #[.int .i64 vk,.bool vb,.string (BA vn),.slice aa an ac,.slice wa wn wc,.slice ra rn rc,.slice ka kn kc]))):=jd (fs (C:=NC) (heap_alloc _ _) hv.vc)
   have HONE:=jd (nT hv)
   clear hv rA kA
   go_wp2_with (at_builtin;refine bg rfl _ _ _ rfl EKs (.slice sa sn sc) sn _ rfl HOWA.o _ 1 _ rfl HRD.o HONE.o (by unfold maxLen;omega) (by omega) ?_;intro ad9 cap9 w9 ho9 hg9 hf9;have HO9:=jd ho9;have HG9:=jd hg9;have HF9:=jd hf9;clear ho9 hg9 hf9)
   have KB:Hid (Kept (blk (.slice sa sn sc)) wA w9):=jd (((Ja _ wA).alloc _).grown HG9.o (fun i e _=>e))
   have hlt4:=df HOWN.o
   have hbA:∀i,blk (.slice sa sn sc) i→i≠g:=fun i hi e=>by have:=HBV.o i hi;omega
   have KR:Hid (Kept (fun i=>i=g∨blk (.slice sa sn sc) i) wr w9):=jd ((KA.o.mono (S':=fun i=>i=g∨blk (.slice sa sn sc) i) (fun _ _ h=>.inl h)).trans KB.o (fun _ _ h=>.inr h))
   have HRB:Hid (RP T w9 g d p2):=jd (by
    obtain⟨a,h1,h2⟩:=HRA.o
    exact⟨a,h1,h2.kept KB.o (fun e=>hbA g e rfl) (fun i hi e=>by have h3:=HTB.o i hi;have h4:=HBV.o i e;omega)⟩)
   have HKB:Hid (Kept (fun i=>i=g) w w9):=jd (HKW.o.trans KR.o (fun i hi e=>by rcases e with e|e<;>first|exact e|(have:=HBV.o i e;exfalso;omega)))
   have HPRB:Hid (NBx w9 w.heap.size zN):=jd (KR.o.heap HPR.o (fun e=>by rcases e with e|e<;>first|(have e':w.heap.size=g:=e;omega)|(have:=HBV.o _ e;omega)))
   have hz9:=KB.o.size
   have hpF:∀i,(F i∨(wr.heap.size≤i∧i<wA.heap.size))→w.heap.size+1≤i∧i<wA.heap.size∧¬blk (.slice sa sn sc) i∧i≠g:=fun i hi=>by
    rcases hi with hi|hi
    ·have h1:=HF.o i hi;exact⟨h1.1,by omega,h1.2.2,by omega⟩
    ·have h0:w.heap.size<wr.heap.size:=av HPR.o
     exact⟨by omega,hi.2,fun e=>by have:=hlt4 i e;omega,by omega⟩
   have HPF:=jd hpF
   have HNEW:Hid (OKs w9 (fun i=>F i∨(wr.heap.size≤i∧i<wA.heap.size)) (.slice ad9 (sn+1) cap9) (acc++[nd])):=jd (by
    refine jj (x:=nd) (u:= .agg #[.int .i64 vk,.bool vb,.string (BA vn),.slice aa an ac,.slice wa wn wc,.slice ra rn rc,.slice ka kn kc]) HPS.o (by rw[HSN.o];exact HO9.o) (fun y hy=>?_) ?_
    ·exact eW.mono (eW.kept (HEL.o y hy) KR.o (fun i hi (e:i=g∨_)=>by have h1:=hpF i (.inl hi);rcases e with e|e;exact h1.2.2.2 e;exact h1.2.2.1 e)) (fun i _ hi=>.inl hi)
    ·exact eW.mono (eW.kept (F:=fun i=>wr.heap.size≤i∧i<wA.heap.size) (eW.mono (G:=fun i=>wr.heap.size≤i∧i<wA.heap.size) HV.o (fun i h1 h2=>⟨h2,h1⟩)) KB.o (fun i hi e=>(hpF i (.inr hi)).2.2.1 e)) (fun i _ hi=>.inr hi))
   have HB9:Hid (∀i,blk (.slice ad9 (sn+1) cap9) i→w.heap.size+1≤i∧(blk (.slice sa sn sc) i∨wA.heap.size≤i)):=jd (fun i hi=>by
    have h0:w.heap.size<wr.heap.size:=av HPR.o
    rcases HF9.o i hi with e|e
    ·exact⟨HBV.o i e,.inl e⟩
    ·rw[World.size_alloc] at e;exact⟨by omega,.inr (by omega)⟩)
   clear hpF hbA hlt4
   have HST:=jd (sH T w9 g d p2 HRB.o)
   clear HOWA HRD HONE HO9 HG9 HF9 HV HRA HOWN HPS HEL HWP HEr
   obtain⟨st1,hst1⟩:∃s,(aL p2).1=s:=⟨_,rfl⟩
   rw[hst1] at HST
   cases st1 with
   |false=>
    have HYE:Hid (y=⟨acc++[nd],false,p2⟩):=jd (by have h:=HRUN.o;rw[Js (by rw[hst1];decide)] at h;exact(Jw h).symm)
    have HS2:Hid ((aL p2).2=p2):=jd (qT hst1)
    rw[HS2.o] at HST
    clear hst1
    refine HST.o.mono ?_
    rintro e wC ⟨rfl,rC,kC⟩
    have HRC:=jd rC;have KC:=jd kC
    clear rC kC HST
    go_wp2_with fail
    go_roundg 0
    case measure=>have:=HL.o;omega
    case rel=>
     exact⟨false,false,acc++[nd],p2,_,rfl,rfl,HNEW.o.kept eW KC.o (fun i hi e=>(HPF.o i hi).2.2.2 e) (fun i hi e=>by have e':i=g:=e;have:=(HB9.o i hi).1;omega),fun i hi=>⟨(HPF.o i hi).1,by have h1:=(HPF.o i hi).2.1;have:=KC.o.size;omega,fun e=>by rcases(HB9.o i e).2 with e2|e2;exact(HPF.o i hi).2.2.1 e2;have:=(HPF.o i hi).2.1;omega⟩,fun i hi=>(HB9.o i hi).1,HRC.o,HKB.o.trans KC.o (fun _ _ h=>h),KC.o.heap HPRB.o (fun e=>by have e':w.heap.size=g:=e;omega),by have h1:=HL.o;rw[Jf];simp;omega,fun h=>(by cases h),fun _=>⟨rfl,HYE.o⟩⟩
   |true=>
    have hst2:(aL p2).2.r.length<p2.r.length:=lM hst1
    obtain⟨q3,hq3⟩:∃q3,aD (aL p2).2=q3:=⟨_,rfl⟩
    have hq3l:q3.r.length<p2.r.length:=by rw[←hq3];exact Nat.lt_of_le_of_lt (pV _) hst2
    have HQ3L:=jd hq3l
    have HRUN2:Hid ((if ag q3≠0∧cQ (aI q3)=false then run k (.kids d (acc++[nd]) q3) else some ⟨acc++[nd],true,q3⟩)=some y):=jd (by have h:=HRUN.o;rw[Jt hst1,hq3] at h;exact h)
    have HQ3:=jd hq3
    clear hst1 hst2 hq3 hq3l HRUN
    refine HST.o.mono ?_
    rintro e wC ⟨rfl,rC,kC⟩
    have HRE:=jd (fD T wC g d _ rC)
    rw[HQ3.o] at HRE
    have KC:=jd kC
    clear rC kC HST
    go_wp2_with fail
    refine HRE.o.mono ?_
    rintro e wD ⟨rfl,rD,kD⟩
    have KD:Hid (Kept (fun i=>i=g) w9 wD):=jd (KC.o.trans kD (fun _ _ h=>h))
    have HRD:=jd rD
    have HKI:=jd (cX T wD g d q3 rD)
    have HKWD:Hid (Kept (fun i=>i=g) w wD):=jd (HKB.o.trans KD.o (fun _ _ h=>h))
    clear rD kD HRE KC
    by_cases hk0:ag q3=0
    ·have HYE:Hid (y=⟨acc++[nd],true,q3⟩):=jd (by have h:=HRUN2.o;rw[Js (fun e=>e.1 hk0)] at h;exact(Jw h).symm)
     have d1:((ag q3:Int) !=0)=false:=by rw[hk0];rfl
     have d2:(ag q3 !=0)=false:=by rw[hk0];rfl
     obtain⟨kq,hkq⟩:∃kq,ag q3=kq:=⟨_,rfl⟩
     rw[hkq] at d1 d2 HKI
     clear hk0 hkq
     go_wp2_with fail
     refine HKI.o.mono ?_
     rintro e wE ⟨rfl,kE⟩
     have KE:Hid (Kept (fun i=>i=g) w9 wE):=jd (KD.o.trans kE (fun _ _ h=>h.elim))
     have HRE:=jd (HRD.o.au kE)
     clear kE
     go_wp2_with fail
     go_roundg 0
     case measure=>have:=HL.o;omega
     case rel=>
      exact⟨false,true,acc++[nd],q3,_,rfl,rfl,HNEW.o.kept eW KE.o (fun i hi e=>(HPF.o i hi).2.2.2 e) (fun i hi e=>by have e':i=g:=e;have:=(HB9.o i hi).1;omega),fun i hi=>⟨(HPF.o i hi).1,by have h1:=(HPF.o i hi).2.1;have:=KE.o.size;omega,fun e=>by rcases(HB9.o i e).2 with e2|e2;exact(HPF.o i hi).2.2.1 e2;have:=(HPF.o i hi).2.1;omega⟩,fun i hi=>(HB9.o i hi).1,HRE.o,HKB.o.trans KE.o (fun _ _ h=>h),KE.o.heap HPRB.o (fun e=>by have e':w.heap.size=g:=e;omega),by have h1:=HL.o;rw[Jf];simp;omega,fun h=>(by cases h),fun _=>⟨rfl,HYE.o⟩⟩
    ·have d1:((ag q3:Int) !=0)=true:=by simp[bne];omega
     have d2:(ag q3 !=0)=true:=by simp[bne];exact hk0
     obtain⟨eb,heb⟩:∃eb,cQ (aI q3)=eb:=⟨_,rfl⟩
     have HRUN3:Hid ((if eb=false then run k (.kids d (acc++[nd]) q3) else some ⟨acc++[nd],true,q3⟩)=some y):=jd (by
      have h:=HRUN2.o
      by_cases h2:eb=false
      ·rw[Jt ⟨hk0,by rw[heb];exact h2⟩] at h;rw[Jt h2];exact h
      ·rw[Js (fun e=>h2 (by rw[←heb];exact e.2))] at h;rw[Js h2];exact h)
     obtain⟨kq,hkq⟩:∃kq,ag q3=kq:=⟨_,rfl⟩
     rw[hkq] at d1 d2 HKI
     have HEB:=jd heb
     clear hk0 hkq heb HRUN2
     go_wp2_with fail
     refine HKI.o.mono ?_
     rintro e wE ⟨rfl,kE⟩
     have KE:Hid (Kept (fun i=>i=g) w9 wE):=jd (KD.o.trans kE (fun _ _ h=>h.elim))
     have HRE:=jd (HRD.o.au kE)
     have HRV:=jd (ib T wE g d q3 HRE.o (HE.o.dz (HKWD.o.trans kE (fun _ _ h=>h.elim)) HGN.o))
     clear kE
     go_wp2_with fail
     refine HRV.o.mono ?_
     rintro e wG ⟨rfl,kG⟩
     have KG:Hid (Kept (fun i=>i=g) w9 wG):=jd (KE.o.trans kG (fun _ _ h=>h.elim))
     have HRG:=jd (HRE.o.au kG)
     have HEN:=jd (Ce wG (aI q3))
     rw[HEB.o] at HEN
     clear kG
     go_wp2_with fail
     refine HEN.o.mono ?_
     rintro e wX ⟨rfl,hwX⟩
     obtain rfl:=hwX.symm
     cases eb with
     |false=>
      go_wp2_with fail
      go_roundg (q3.r.length+1)
      case measure=>have h1:=HL.o;have h2:=HQ3L.o;omega
      case rel=>
       exact⟨true,true,acc++[nd],q3,_,rfl,rfl,HNEW.o.kept eW KG.o (fun i hi e=>(HPF.o i hi).2.2.2 e) (fun i hi e=>by have e':i=g:=e;have:=(HB9.o i hi).1;omega),fun i hi=>⟨(HPF.o i hi).1,by have h1:=(HPF.o i hi).2.1;have:=KG.o.size;omega,fun e=>by rcases(HB9.o i e).2 with e2|e2;exact(HPF.o i hi).2.2.1 e2;have:=(HPF.o i hi).2.1;omega⟩,fun i hi=>(HB9.o i hi).1,HRG.o,HKB.o.trans KG.o (fun _ _ h=>h),KG.o.heap HPRB.o (fun e=>by have e':w.heap.size=g:=e;omega),by have h1:=HL.o;rw[Jf];simp;omega,fun _=>⟨rfl,by have h1:=HL.o;have h2:=HQ3L.o;rw[Jf];simp;omega,k,HL.o.2.2.2,by have h:=HRUN3.o;simpa using h⟩,fun h=>(by cases h)⟩
     |true=>
      have HYE:Hid (y=⟨acc++[nd],true,q3⟩):=jd (by have h:=HRUN3.o;simpa using h.symm)
      go_wp2_with fail
      go_roundg 0
      case measure=>have:=HL.o;omega
      case rel=>
       exact⟨false,true,acc++[nd],q3,_,rfl,rfl,HNEW.o.kept eW KG.o (fun i hi e=>(HPF.o i hi).2.2.2 e) (fun i hi e=>by have e':i=g:=e;have:=(HB9.o i hi).1;omega),fun i hi=>⟨(HPF.o i hi).1,by have h1:=(HPF.o i hi).2.1;have:=KG.o.size;omega,fun e=>by rcases(HB9.o i e).2 with e2|e2;exact(HPF.o i hi).2.2.1 e2;have:=(HPF.o i hi).2.1;omega⟩,fun i hi=>(HB9.o i hi).1,HRG.o,HKB.o.trans KG.o (fun _ _ h=>h),KG.o.heap HPRB.o (fun e=>by have e':w.heap.size=g:=e;omega),by have h1:=HL.o;rw[Jf];simp;omega,fun h=>(by cases h),fun _=>⟨rfl,HYE.o⟩⟩
  |false=>
   obtain⟨hgk,hye⟩:=hm2 rfl
   have HXN2:Hid (x.ns=cR 5 acc):=jd (by rw[HXN.o,hye])
   have HXS2:Hid (x.st=st):=jd (by rw[HXS.o,hye])
   have HXP2:Hid (x.p=q):=jd (by rw[HXP.o,hye])
   have HKS:Hid (bJ wr (fun i=>w.heap.size+1≤i) (.slice sa sn sc) acc):=jd (um hok (fun i hi=>(hF i hi).1) hbv)
   clear hF hbv hrp hkw hpr hlen hm1 hm2 hgk hye hok HXN HXS HXP
   obtain⟨⟨c0,c1,c2,c3,c4,c5,c6⟩,f0,f1,f2,f3,f4,f5,f6⟩:=NBx.cells HPR.o
   have hltN:w.heap.size<wr.heap.size:=av HPR.o
   by_cases h1:sn=1
   ·obtain⟨nd,hacc⟩:∃nd,acc=[nd]:=by
     rw[h1] at hsn
     match acc,hsn with
     |[nd],_=>exact⟨nd,rfl⟩
    have HXN:Hid (x.ns=[nd]):=jd (by rw[HXN2.o,hacc];rfl)
    obtain⟨eb,off,aa,an,ac,wa,wn,wc,ra,rn,rc,ka,kn,kc,eta,g0,g1,g2,g3,g4,g5,g6,hnv⟩:=HKS.o.elem (k:=0) (n:=nd) (by rw[hacc];rfl)
    have HNV:=jd hnv
    obtain⟨vk,vb,vn,ws,al,rs,ks⟩:=nd
    simp only[Nat.zero_mul,Nat.add_zero,Nd.kind,Nd.neg,Nd.name] at g0 g1 g2 g3 g4 g5 g6
    subst eta
    subst h1
    have hbl:eb<wr.heap.size:=World.block_lt_of_cell? wr _ g0
    clear hnv hacc HXN2 hsn
    have K7:Hid (Kept (fun i=>i=w.heap.size) wr (st7 wr w.heap.size (.int .i64 vk) (.bool vb) (.string (BA vn)) (.slice aa an ac) (.slice wa wn wc) (.slice ra rn rc) (.slice ka kn kc))):=jd (bu (Ja (fun i=>i=w.heap.size) wr) (fun _=>rfl) _ _ _ _ _ _ _)
    have B7:=jd (bS HPR.o (.int .i64 vk) (.bool vb) (.string (BA vn)) (.slice aa an ac) (.slice wa wn wc) (.slice ra rn rc) (.slice ka kn kc))
    go_wp2_with fail
    obtain⟨wF,hwF⟩:∃W,st7 wr w.heap.size (.int .i64 vk) (.bool vb) (.string (BA vn)) (.slice aa an ac) (.slice wa wn wc) (.slice ra rn rc) (.slice ka kn kc)=W:=⟨_,rfl⟩
    rw[hwF] at K7 B7
    have hwF':=hwF
    simp only[st7] at hwF'
    rw[hwF']
    clear hwF hwF' c0 c1 c2 c3 c4 c5 c6
    obtain⟨⟨z0,z1,z2,z3,z4,z5,z6⟩,-⟩:=NBx.cells B7.o
    refine bodyPost_ret (v:= .tuple #[.agg #[.int .i64 vk,.bool vb,.string (BA vn),.slice aa an ac,.slice wa wn wc,.slice ra rn rc,.slice ka kn kc],.bool st]) (by simp[results,go_sem,z0,z1,z2,z3,z4,z5,z6]) rfl ?_
    exact tD HXN.o HXS2.o HNV.o (by rw[HXP2.o];exact HRP.o) HKW.o K7.o hgl HTB.o
   ·have HXN:Hid (x.ns=[ndK 5 acc]):=jd (by
     rw[HXN2.o]
     unfold cR
     split
     ·exact absurd (by rw[←HSN.o];rfl) h1
     ·rfl)
    have HNV:Hid (NAt wr (fun i=>w.heap.size+1≤i) (.agg #[.int .i64 5,.bool false,.string (BA []),.slice none 0 0,.slice none 0 0,.slice none 0 0,.slice sa sn sc]) (ndK 5 acc)):=jd (NAt.shut (n:=ndK 5 acc) (bT.nil _ _) (bT.nil _ _) (bT.nil _ _) HKS.o)
    have d1:((sn:Int)==1)=false:=by apply Jq.2;omega
    have d2:(sn==1)=false:=by apply Jq.2;exact h1
    clear h1 hsn HXN2
    have K7:Hid (Kept (fun i=>i=w.heap.size) wr (st7 wr w.heap.size (.int .i64 5) (.bool false) (.string ⟨#[]⟩) (.slice none 0 0) (.slice none 0 0) (.slice none 0 0) (.slice sa sn sc))):=jd (bu (Ja (fun i=>i=w.heap.size) wr) (fun _=>rfl) _ _ _ _ _ _ _)
    have B7:=jd (bS HPR.o (.int .i64 5) (.bool false) (.string ⟨#[]⟩) (.slice none 0 0) (.slice none 0 0) (.slice none 0 0) (.slice sa sn sc))
    go_wp2_with fail
    obtain⟨wF,hwF⟩:∃W,st7 wr w.heap.size (.int .i64 5) (.bool false) (.string ⟨#[]⟩) (.slice none 0 0) (.slice none 0 0) (.slice none 0 0) (.slice sa sn sc)=W:=⟨_,rfl⟩
    rw[hwF] at K7 B7
    have hwF':=hwF
    simp only[st7] at hwF'
    rw[hwF']
    clear hwF hwF' c0 c1 c2 c3 c4 c5 c6
    obtain⟨⟨z0,z1,z2,z3,z4,z5,z6⟩,-⟩:=NBx.cells B7.o
    refine bodyPost_ret (v:= .tuple #[.agg #[.int .i64 5,.bool false,.string ⟨#[]⟩,.slice none 0 0,.slice none 0 0,.slice none 0 0,.slice sa sn sc],.bool st]) (by simp[results,go_sem,z0,z1,z2,z3,z4,z5,z6]) rfl ?_
    exact tD HXN.o HXS2.o HNV.o (by rw[HXP2.o];exact HRP.o) HKW.o K7.o hgl HTB.o
end Go.Proofs.YtgigdlhcjahejaaGreatDoor
namespace Go.Lw
open Go Go.RowKit
def RV (v:Value):Option (DataW Value×List MemPlace):=some (.held v,[])
def dJ:List (LB×Value)→LB→Option Value
 |[],_=>none
 |p::l,s=>if p.1=s then some p.2 else dJ l s
theorem qB:∀{l:List (LB×Value)} {s:LB} {v:Value},dJ l s=some v→(s,v)∈l
 |[],s,v,h=>by cases h
 |p::l,s,v,h=>by
  unfold dJ at h
  split at h
  ·rename_i e
   cases h
   subst e
   exact Jz
  ·exact Qa _ (qB h)
def AtL (D:DataW Value) (l:List (LB×Value)):Prop:=∀ks zd,D.atKey (.string ks) zd=((dJ l ks).map DataW.held).getD zd
theorem AtL.found {D:DataW Value} {l:List (LB×Value)} (h:AtL D l) {ks:LB} {v:Value} (hv:∀zd,D.atKey (.string ks) zd= .held v):dJ l ks=some v:=by
 have h1:=(h ks .nil).symm.trans (hv .nil)
 cases e:dJ l ks with
 |none=>rw[e] at h1;cases h1
 |some u=>rw[e] at h1;cases h1;rfl
structure SMap (W0 w:World) (P:Program) (k:TypeId) (b n:Nat) (l:List (LB×Value)):Prop where
 owns:∃D:DataW Value,w.ownsMap P k RV b n D∧AtL D l
 new:W0.heap.size≤b
 kept:Kept (fun _=>False) W0 w
theorem iy {a w w':World} {row:Option Nat} (h:Kept (fun _=>False) a w) (hg:w.grownBy w' row) (hr:∀k,row=some k→a.heap.size≤k):Kept (fun _=>False) a w':=
 h.grown hg (fun k hk hl=>by have:=hr k hk;omega)
theorem zO {w w':World} (h:Kept (fun _=>False) w w'):w.grownBy w' none:=⟨h.os,h.tape,h.output,h.size,fun k hk _=>h.block k hk (fun h=>h)⟩
theorem Db {P:Program} {k:TypeId} {R:Value→Option (DataW Value×List MemPlace)} {w:World} {b n:Nat} {D:DataW Value} (h:w.ownsMap P k R b n D):Maps.IsMap D:=by
 obtain⟨es,clock,_,_,_,hD⟩:=h
 exact⟨_,hD⟩
theorem SMap.made (W0 w:World) (P:Program) (k:TypeId) (h:Kept (fun _=>False) W0 w):SMap W0 (w.alloc (.map #[] 0)) P k w.heap.size 0 []:=
 ⟨⟨_,World.ownsMap_made w P k RV,fun _ _=>rfl⟩,h.size,h.alloc _⟩
theorem SMap.oZ {W0 w w':World} {P:Program} {k:TypeId} {b n:Nat} {l:List (LB×Value)} (h:SMap W0 w P k b n l) (hk:Kept (fun _=>False) w w'):SMap W0 w' P k b n l:=by
 obtain⟨⟨D,h1,h2⟩,h3,h4⟩:=h
 exact⟨⟨D,h1.kept (zO hk) (by simp),h2⟩,h3,h4.trans hk (fun _ _ h=>h)⟩
structure l7 (W0 w:World) (P:Program) (k:TypeId) (b r n:Nat) (l:List (LB×Value)) (cnt:Nat):Prop where
 rg:∃D left,w.ranges P k RV b r n D left cnt∧AtL D l
 new:W0.heap.size≤b∧W0.heap.size≤r
 kept:Kept (fun _=>False) W0 w
theorem l7.oZ {W0 w w':World} {P:Program} {k:TypeId} {b r n cnt:Nat} {l:List (LB×Value)} (h:l7 W0 w P k b r n l cnt) (hk:Kept (fun _=>False) w w'):l7 W0 w' P k b r n l cnt:=by
 obtain⟨⟨D,left,h1,h2⟩,h3,h4⟩:=h
 exact⟨⟨D,left,h1.kept (zO hk) (by simp) (by simp),h2⟩,h3,h4.trans hk (fun _ _ h=>h)⟩
section
variable {P:Program} {w:World} {ops:Array Oper} {rest:List Oper} {o:Oper} {a:Act} {Q:Exit→Act→World→Prop}
theorem iI {W0:World} (hg:o.guard=none) (m x v:Operand) (t:TypeId) (hop:o.op=Op.insert t m x v∨o.op=Op.mapUpdate t m x v)
  (k e:TypeId) (hk:P.underlying k=some .string) (ht:P.underlying t=some (.map k e)) (b n:Nat) (l:List (LB×Value))
  (hm:a.eval m= .map (some b)) (hown:SMap W0 w P k b n l) (hn:n<maxLen) (s:LB) (hx:a.eval x= .string (BA s)) (hs:s.length≤maxLen) (val:Value) (hv:a.eval v=val)
  (h:∀w',SMap W0 w' P k b (n+1) ((s,val)::l)→w.grownBy w' (some b)→wpList P ops Q rest (a.put o.dst undef) w'):wpList P ops Q (o::rest) a w:=by
 refine wpList_plain hg fun K' hK'=>?_
 obtain⟨⟨D,h1,h2⟩,h3,h4⟩:=hown
 have hkey:keyOf P k (.string (BA s))=some (.string s):=WideMaps.keyOf_string_mk hk (by rw[aq];exact hs)
 obtain⟨w',hrun,r1,r2⟩:=h1.update (Maps.string_keyed hk) ht hn hkey (val:=val) rfl
 have hkl:WideAt.IsKeyLit (.string s):=(Maps.string_keyed hk).key hkey
 have hat:AtL (D.put (.string s) (.held val)) ((s,val)::l):=fun ks zd=>by
  by_cases hks:ks=s
  ·subst hks
   rw[Maps.atKey_put_same (Db h1) hkl]
   simp[dJ]
  ·rw[Maps.atKey_put_other (by intro e;cases e;exact hks rfl),h2]
   simp[dJ,Ne.symm hks]
 have hfin:=hK' _ _ (h w' ⟨⟨_,r1,hat⟩,h3,iy h4 r2 (fun k hk=>by cases hk;exact h3)⟩ r2)
 unfold Oper.wp
 rcases hop with hop|hop<;>simp[execOp,hop,hm,hx,hv,hrun,Result.andThen]<;>exact hfin
theorem oq {W0:World} (hg:o.guard=none) (m:Operand) (t:TypeId) (hop:o.op=Op.range t m) (k e:TypeId) (hk:P.underlying k=some .string) (ht:P.underlying t=some (.map k e)) (b n:Nat) (l:List (LB×Value))
  (hm:a.eval m= .map (some b)) (hown:SMap W0 w P k b n l)
  (h:∀w' cnt,l7 W0 w' P k b w.heap.size n l cnt→Kept (fun _=>False) w w'→wpList P ops Q rest (a.put o.dst (.pointer (some ⟨w.heap.size,0,none⟩))) w'):wpList P ops Q (o::rest) a w:=by
 obtain⟨⟨D,h1,h2⟩,h3,h4⟩:=hown
 refine wpList_range_own w hg m t hop k e (Maps.string_keyed hk) ht RV b n D hm h1 ?_
 intro w' hr hgr _
 exact h w' _ ⟨⟨D,_,hr,h2⟩,⟨h3,h4.size⟩,iy h4 hgr (fun k hk=>by cases hk)⟩ (iy (Ja _ _) hgr (fun k hk=>by cases hk))
theorem pf {W0:World} (hg:o.guard=none) (it:Operand) (hop:o.op=Op.next it false) (k:TypeId) (hk:P.underlying k=some .string) (b r n cnt:Nat) (l:List (LB×Value))
  (hit:a.eval it= .pointer (some ⟨r,0,none⟩)) (hr:l7 W0 w P k b r n l cnt)
  (hDone:wpList P ops Q rest (a.put o.dst (.tuple #[.bool false])) w)
  (hMore:∀(ks:LB) (v:Value) (w':World) (cnt':Nat),Hid (dJ l ks=some v)→l7 W0 w' P k b r n l cnt'→cnt'<cnt→Kept (fun k=>k=r) w w'→(Instr.entry (.pointer (some ⟨r,0,none⟩))).run P w'= .ok (.tuple #[.string (BA ks),v]) w'→
   wpList P ops Q rest (a.put o.dst (.tuple #[.bool true,.string (BA ks),v])) w'):wpList P ops Q (o::rest) a w:=by
 obtain⟨⟨D,left,h1,h2⟩,h3,h4⟩:=hr
 refine wpList_next_ranges w hg it hop k (Maps.string_keyed hk) RV (fun s:LB=>Value.string (BA s)) (fun v:Value=>v) (fun key kl hkey=>?_) (fun v y hv=>⟨v,rfl⟩) b r n D left cnt hit h1 (fun _ _=>hDone) ?_
 ·obtain⟨s,rfl,_,_⟩:=WideMaps.string_of_keyOf hk hkey
  exact⟨s.data.toList,by rw[←qd]⟩
 ·intro ks v kl y w' cnt' hkey hl hy hat hr' hlt hg' hsz hen
  obtain⟨s,hs,rfl,_⟩:=WideMaps.string_of_keyOf hk hkey
  cases hy
  have e:s.data.toList=ks:=by
   cases hs;rfl
  rw[e] at hat
  exact hMore ks v w' cnt' (hid (h2.found hat)) ⟨⟨D,_,hr',h2⟩,h3,iy h4 hg' (fun k hk=>by cases hk;exact h3.2)⟩ hlt ⟨hg'.os,hg'.tape,hg'.output,hg'.size,fun k hk hn=>hg'.block k hk (fun e=>hn (by cases e;rfl))⟩ hen
end
