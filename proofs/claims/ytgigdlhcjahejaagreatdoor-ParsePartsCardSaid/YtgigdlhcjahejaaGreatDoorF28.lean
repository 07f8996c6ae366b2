import Derived.Test.YtgigdlhcjahejaaGreatDoorF27
set_option linter.all false
set_option maxHeartbeats 400000000
namespace Go.Proofs.YtgigdlhcjahejaaGreatDoor
open Go Go.RowKit Go.Lw
set_option maxRecDepth 100000
attribute [local go_sem] aA
theorem RP.next {T:TT} {w:World} {g d:Nat} {p:Ps} (h:RP T w g d p) (hk:ag p≠0):∃at_:Nat,w.cell? ⟨g,1,none⟩=some (.int .i64 (at_:Int))∧w.frozen? ⟨g,1,none⟩=false∧at_≤2048∧g<w.heap.size∧
  Hid (RP T (w.setCell ⟨g,1,none⟩ (.int .i64 ((at_:Int)+1))) g d (aJ p))∧Hid (Kept (fun i=>i=g) w (w.setCell ⟨g,1,none⟩ (.int .i64 ((at_:Int)+1)))):=by
 obtain⟨at_,hd,hr⟩:=h
 obtain⟨⟨c0,c1,c2,c3⟩,f1,f2,f3⟩:=hr.cells
 have hs:=hr.short
 obtain⟨r,e⟩:=p
 cases r with
 |nil=>exact absurd rfl hk
 |cons t r=>
  obtain⟨ha,ht,hd2⟩:=dc hd
  exact⟨at_,c1,f1,by omega,hr.lt,jd ⟨at_+1,hd2,hr.setAt ha⟩,jd ((Ja (fun i=>i=g) w).set g 1 (fun _=>rfl) _)⟩
def FB (n d:Nat) (x:Rd9) (acc:List Nd) (q:Ps):Prop:=
 (aI q=dF∧∃z,run n (.block d (aJ q))=some z∧x=⟨[ndK 6 (acc++z.ns)],false,ay rFi z.p⟩)∨(aI q≠dF∧x=⟨[ndK 6 acc],false,ay rFi q⟩)
def BrI (T:TT) (w:World) (g d n:Nat) (x:Rd9) (gk:Nat) (s4:Value) (wx:World):Prop:=
 ∃(m:Bool) (acc:List Nd) (q:Ps) (F:Nat→Prop) (vk:Value),s4= .bool m∧NB wx (w.heap.size+1) (w.heap.size+1) F 6 false [] (.slice none 0 0) (.slice none 0 0) (.slice none 0 0) vk [] [] [] acc∧RP T wx g d q∧Kept (fun i=>i=g) w wx∧NBx wx w.heap.size zN∧acc.length≤4098∧
  (m=true→gk=q.r.length+1∧acc.length+2*q.r.length≤4096∧∃k,k≤n+1∧run k (.branches d acc q)=some x)∧(m=false→gk=0∧FB n d x acc q)
theorem sd (n:Nat) (HB:Hid (CJ 107 eR .block n)):CJ 99 eG (fun d p=>.branches d [] p) (n+1):=by
 intro T w g d p x hx hp hE hgn ht
 have hx':run (n+1) (.branches d [] p)=some x:=hx
 have HX:=jd hx'
 have hpl:=hp.len
 obtain⟨N,hN⟩:∃N,p.r.length=N:=⟨_,rfl⟩
 have HN:=jd hN
 rw[hN] at hpl
 obtain⟨W0,hW0⟩:∃W0,w.alloc (.cells zN 27)=W0:=⟨_,rfl⟩
 have hs0:W0.heap.size=w.heap.size+1:=by rw[←hW0,World.size_alloc]
 have KA:Hid (Kept (fun _=>False) w W0):=jd (by rw[←hW0];exact(Ja _ w).alloc _)
 have PA:Hid (NBx W0 w.heap.size zN):=jd (by rw[←hW0];exact heap_alloc w _)
 have HW0:=jd hW0
 have hgl:=hp.lt
 have HE:=jd hE;have HGN:=jd hgn;have HTB:=jd ht
 have HP0:=jd (hp.au KA.o);have HE0:=jd (hE.au KA.o)
 have HS0:=jd hs0
 have HBC:=jd (fun(wx:World) (q:Ps) (y:Rd9) (nd:Nd) (hy:run n (.block d q)=some y) (hn:y.ns=[nd]) (hr:RP T wx g d q) (he:bW wx)=>(HB.o T wx g d q y hy hr he HGN.o HTB.o).mono (fun e w' h=>fN hn rfl h))
 clear hx hx' hp hE hgn ht hW0 hN
 go_enter Tryz.func99,Tryz.ntmps99
 go_wp2_with fail
 rw[HW0.o]
 obtain⟨W1,hW1⟩:∃W1,W0.alloc (.cells #[.int .i64 6,.bool false,.string ⟨#[]⟩,.slice none 0 0,.slice none 0 0,.slice none 0 0,.slice none 0 0] 27)=W1:=⟨_,rfl⟩
 have K1:Hid (Kept (fun _=>False) W0 W1):=jd (by rw[←hW1];exact(Ja _ W0).alloc _)
 have B1:Hid (NBx W1 (w.heap.size+1) #[.int .i64 6,.bool false,.string (BA []),.slice none 0 0,.slice none 0 0,.slice none 0 0,.slice none 0 0]):=jd (by rw[←hs0,←hW1];exact heap_alloc W0 _)
 rw[hW1]
 try rw[hs0]
 clear hW1 hs0
 have HGL:Hid (g<w.heap.size+1):=jd (by omega)
 go_loopg [4] (N+1) (fun gk s4 wx=>BrI T w g d n x gk s4 wx)
 case atStart=>
  exact⟨true,[],p,fun _=>False,.slice none 0 0,rfl,NB.init _ _ _ _ _ _ B1.o (Jb _),HP0.o.au K1.o,(KA.o.trans K1.o (fun _ _ h=>h)).mono (fun _ _ h=>h.elim),K1.o.heap PA.o (fun h=>h),by simp,fun _=>⟨by rw[HN.o],by have:=HN.o;simp;omega,n+1,Jb _,HX.o⟩,fun h=>by cases h⟩
 case round=>
  obtain⟨m,acc,q,F,vk,rfl,hnb,hrp,hkw,hpr,hlen,hm1,hm2⟩:=hrel
  cases m with
  |true=>
   obtain⟨hgk,hlen2,k,hk,hrun⟩:=hm1 rfl
   cases k with
   |zero=>cases hrun
   |succ k=>
   rw[run] at hrun
   obtain⟨y,hy,hrun⟩:=Ji.1 hrun
   obtain⟨z,hz,hrun⟩:=Ji.1 hrun
   obtain⟨nd,hn1⟩:=(cJ _ _ _ hy).1 trivial
   obtain⟨nd2,hn2⟩:=(cJ _ _ _ hz).1 trivial
   have hl1:y.p.r.length≤q.r.length:=eF _ _ _ hy
   have hl2:z.p.r.length≤q.r.length:=lt9 (eF _ _ _ hz) (lt9 (bZ _ _) hl1)
   have hy':=aM.le hy (show k≤n by omega)
   have hz':=aM.le hz (show k≤n by omega)
   obtain⟨p1,hp1⟩:∃p1,y.p=p1:=⟨_,rfl⟩
   obtain⟨p2,hp2⟩:∃p2,z.p=p2:=⟨_,rfl⟩
   obtain⟨p1m,hp1m⟩:∃p1m,ay cu p1=p1m:=⟨_,rfl⟩
   rw[hn1,hn2,hp2] at hrun
   rw[hp1,hp1m] at hz'
   have HRUN:=jd hrun
   have HNB:=jd hnb;have HRP:=jd hrp;have HKW:=jd hkw;have HPR:=jd hpr
   have HEr:Hid (bW wr):=jd (HE.o.dz hkw HGN.o)
   have HML:Hid (acc.length≤5000):=jd (by omega)
   have HWP:Hid (∀wx,Kept (fun _=>False) wr wx→Calls Tryz.prog 107 #[.pointer (some ⟨g,0,none⟩)] wx (NEl T wx g d nd p1)):=jd (fun wx hk=>hp1▸HBC.o wx q y nd hy' hn1 (HRP.o.au hk) (HEr.o.au hk))
   have HWQ:Hid (∀wx,RP T wx g d p1m→bW wx→Calls Tryz.prog 107 #[.pointer (some ⟨g,0,none⟩)] wx (NEl T wx g d nd2 p2)):=jd (fun wx hr he=>hp2▸HBC.o wx p1m z nd2 hz' hn2 hr he)
   have HM1:=jd hp1m
   have HLEN:Hid (acc.length+2*q.r.length≤4096∧p2.r.length≤q.r.length∧gk=q.r.length+1∧k≤n):=jd ⟨hlen2,hp2▸hl2,hgk,by omega⟩
   clear hnb hrp hkw hpr hlen hlen2 hm1 hm2 hgk hk hrun hy hz hn1 hn2 hl1 hl2 hy' hz' hp1 hp2 hp1m
   go_wp2_with fail
   have hnra:=HNB.o
   obtain⟨raa,rcpa,hsla,hrla⟩:=hnra.rk.slice
   obtain⟨ma,hma⟩:∃m,(acc).length=m:=⟨_,rfl⟩
   rw[hma] at hsla hrla
   subst hsla
   have hloba:=HNB.o.lob
   have hgla:=HGL.o
   have hbga:(w.heap.size+1)≠g:=by omega
   obtain⟨psa,hpsa,howna,hela⟩:=hnra.rk
   have HMa:=jd hma
   rw[hma] at howna
   have HOWNa:=jd howna;have HPSa:=jd hpsa;have HELa:=jd hela
   have hmla:ma≤5000:=by have h9:=HML.o;omega
   have hSSa:∀i,wr.heap.size≤i→¬duS (fun i=>i=g) (blk (.slice raa ma rcpa)) i:=fun i hi e=>by
    rcases e with e|e
    ·have e':i=g:=e;have:=HNB.o.lt;have:=HRP.o.lt;omega
    ·have:=df HOWNa.o i e;omega
   have hb1a:¬((w.heap.size+1)=g):=hbga
   have hPra:∀(v:Value) (wx wy:World),Kept (fun i=>i=g) wx wy→(∃F',NB wx (w.heap.size+1) (w.heap.size+1) F' 6 false [] (.slice none 0 0) (.slice none 0 0) (.slice none 0 0) v [] [] [] (acc++[nd]))→∃F',NB wy (w.heap.size+1) (w.heap.size+1) F' 6 false [] (.slice none 0 0) (.slice none 0 0) (.slice none 0 0) v [] [] [] (acc++[nd]):=fun v wx wy hk ⟨F',h⟩=>⟨F',h.kept hk (fun i hi e=>by have e':i=g:=e;have:=HGL.o;omega)⟩
   clear hnra hpsa howna hela hma
   refine cS 7 3 5 (fun i=>i=g) (blk (.slice raa ma rcpa)) (RdI wr T g d p1 (w.heap.size+1) (w.heap.size+1) #[.int .i64 6,.bool false,.string (BA []),(.slice none 0 0),(.slice none 0 0),(.slice none 0 0),(.slice raa ma rcpa)]) (jV (fun i=>i=g) (w.heap.size+1) 6 hb1a (fun v wq=>∃F',NB wq (w.heap.size+1) (w.heap.size+1) F' 6 false [] (.slice none 0 0) (.slice none 0 0) (.slice none 0 0) v [] [] [] (acc++[nd])) hPra) [rV (.pointer (some ⟨(w.heap.size+1),6,none⟩)),rV (.slice raa ma rcpa),rV (.pointer (some ⟨g,0,none⟩)),rEl eW (duS (fun i=>i=g) (blk (.slice raa ma rcpa))) (fun i=>wr.heap.size≤i) hSSa nd,tS eW NC 27 (duS (fun i=>i=g) (blk (.slice raa ma rcpa))) (fun i=>wr.heap.size≤i) hSSa nd,rV (.bool true),rV (.pointer (some ⟨(w.heap.size+1),6,none⟩))] (by kernel_rfl) (by kernel_rfl) ?_ ?_ ?_
   case refine_1=>exact RdI.start HNB.o.box
   case refine_2=>
    iterate 3
     refine dY (by decide) (by kernel_rfl) (fun s hs1 a' w' hI hag hf K hK=>?_) ?_
     ·obtain⟨⟨_,h0,rfl⟩,-⟩:=hf
      have s0:=hag.same 0 (by decide)
      have s3:=hag.same 3 (by decide)
      clear hag
      obtain⟨⟨y0,y1,y2,y3,y4,y5,y6⟩,-⟩:=NBx.cells hI.box
      go_wp2_with fail
      exact hK _ _ hI (Ja _ _) rfl
    refine jK (by decide) (fun a' w' hI hag hf K hK=>?_) ?_
    ·obtain⟨⟨_,h2,rfl⟩,-⟩:ah _ _ a' w' [2]:=hf
     clear hag
     have HI:=jd hI
     have hk0:=hI.k0 rfl
     clear hI
     go_wp2_with fail
     refine(HWP.o _ hk0).mono ?_
     rintro x w4 ⟨v,rfl,hw4,hr4,hk4⟩
     go_wp2_with fail
     exact hK _ _ (HI.o.call hk4 hr4 hbga) hk4 (hw4.mono (fun i _ hi=>lt9 hk0.size hi))
    refine dY (by decide) (by kernel_rfl) (fun s hs1 a' w' hI hag hf K hK=>?_) ?_
    ·obtain⟨⟨v3,h3,e3⟩,-⟩:ah _ _ a' w' [3]:=hf
     clear hag
     have hw7:NAt w' (fun i=>wr.heap.size≤i) v3 nd:=e3
     obtain⟨uk,ub,us,uaa,uan,uac,uwa,uwn,uwc,ura,urn,urc,uka,ukn,ukc,rfl⟩:=hw7.agg
     have hz:=hI.k.size
     go_wp2_with fail
     exact hK _ _ (hI.au ((Ja _ _).alloc _)) ((Ja _ _).alloc _) ⟨_,_,rfl,hz,heap_alloc _ _,hw7.kept ((Ja _ _).alloc _) (fun _ _ h=>h)⟩
    refine jS (fun a' w' hI hag hf K hK=>?_) ?_
    ·obtain⟨⟨_,h1,rfl⟩,⟨v4,h4,e4⟩,-⟩:ah _ _ a' w' [1,4,3]:=hf
     clear hag
     obtain⟨bb,u,rfl,hbb,hbh,hu⟩:∃bb u,v4= .slice (some ⟨bb,0,none⟩) 1 1∧wr.heap.size≤bb∧w'.heap[bb]? =some (.cells (NC (nd,u)).toArray 27 (0,0))∧NAt w' (fun i=>wr.heap.size≤i) u nd:=e4
     have hk1:=hI.k1 (Jb _)
     refine bg rfl _ _ _ rfl EKs (.slice raa ma rcpa) ma (psa.flatMap NC) (by simp[Act.eval,h1]) (bH hk1 HOWNa.o (fun i hi e=>absurd e ?_)) _ 1 (NC (nd,u)) (by simp[Act.eval,h4]) (fs (C:=NC) hbh hu.vc) (fun y hy=>?_) (by unfold maxLen;omega) (by omega) (fun ad9 cap9 w9 ho9 hg9 hf9=>?_)
     ·have h9:=(HNB.o.bk i hi).1;have:=HGL.o;intro e';have e2:i=g:=e';omega
     ·exact nT hu y hy
     have hk9:Kept (blk (.slice raa ma rcpa)) w' w9:=(Ja _ _).grown hg9 (fun i e _=>e)
     have ho9':w9.ownsRow 0 27 7 (.slice ad9 (ma+1) cap9) ((acc).length+1) (psa.flatMap NC++NC (nd,u)):=by rw[HMa.o];exact ho9
     have hpush:=(HNB.o.mL (S:=fun i=>i=g) HPSa.o HELa.o hk1 (fun i hi e=>by have e':i=g:=e;have:=HGL.o;omega) (x:=nd) (u:=u) (G:=fun i=>wr.heap.size≤i) hu (fun i hi=>hi) ho9' hg9 hf9).1
     exact hK _ _ (hI.app hk9 (fun i hi=>⟨(HNB.o.bk i hi).1,(HNB.o.bk i hi).2⟩) HGL.o (fun i hi=>Nat.lt_trans (HTB.o i hi) HGL.o)) hk9 ⟨_,hpush⟩
    refine eZ (by decide) (fun s a' w' hI hag hf K hK=>?_) ?_
    ·have s3:=hag.same 3 (by decide)
     clear hag
     go_wp2_with fail
     exact hK _ _ hI (Ja _ _) rfl
    exact trivial
   case refine_3=>
    intro vs wz hI hvs
    have q3:=hvs 3 _ _ rfl rfl
    have q4:=hvs 4 _ _ rfl rfl
    have q5:(jV (fun i=>i=g) (w.heap.size+1) 6 hb1a (fun v wq=>∃F',NB wq (w.heap.size+1) (w.heap.size+1) F' 6 false [] (.slice none 0 0) (.slice none 0 0) (.slice none 0 0) v [] [] [] (acc++[nd])) hPra).1 (vs 5) wz:=hvs 5 _ _ rfl rfl
    simp only[pzz,aW,Act.put,Nat.reduceAdd,dpv (hvs 0 _ _ rfl rfl) (by decide) rfl,dpv (hvs 1 _ _ rfl rfl) (by decide) rfl,dpv (hvs 2 _ _ rfl rfl) (by decide) rfl,dpv (hvs 6 _ _ rfl rfl) (by decide) rfl]
    clear hvs
    generalize vs 3=x3 at*
    generalize vs 4=x4 at*
    generalize vs 5=x5 at*
    have HIa:=jd hI
    obtain⟨Fa,hnb⟩:∃F',NB (wz.setCell ⟨(w.heap.size+1),6,none⟩ x5) (w.heap.size+1) (w.heap.size+1) F' 6 false [] (.slice none 0 0) (.slice none 0 0) (.slice none 0 0) x5 [] [] [] (acc++[nd]):=q5
    obtain⟨za,zn,zc,rfl⟩:∃a n c,x5= .slice a n c:=by obtain⟨a,c,e,_⟩:=hnb.rk.slice;exact⟨a,_,c,e⟩
    obtain⟨⟨y0,y1,y2,y3,y4,y5,y6⟩,z0,z1,z2,z3,z4,z5,z6⟩:=NBx.cells hI.box
    have hblta:(w.heap.size+1)<wz.heap.size:=av hI.box
    have HNBa:=jd hnb
    have HRPa:Hid (RP T (wz.setCell ⟨(w.heap.size+1),6,none⟩ (.slice za zn zc)) g d p1):=jd (by
     obtain⟨a,h1,h2⟩:=HIa.o.p (by decide)
     have kS:Kept (fun i=>i=(w.heap.size+1)) wz (wz.setCell ⟨(w.heap.size+1),6,none⟩ (.slice za zn zc)):=(Ja (fun i=>i=(w.heap.size+1)) wz).set (w.heap.size+1) 6 (fun _=>rfl) _
     exact⟨a,h1,h2.kept kS (fun e=>hbga e.symm) (fun i hi e=>by have e':i=(w.heap.size+1):=e;have:=HTB.o i hi;omega)⟩)
    have HKWa:Hid (Kept (fun i=>i=g∨(w.heap.size+1)≤i) wr (wz.setCell ⟨(w.heap.size+1),6,none⟩ (.slice za zn zc))):=jd (HIa.o.k.set (w.heap.size+1) 6 (fun _=>.inr hloba) _)
    clear hI q3 q4 hnb
    go_wp2_with fail
    obtain⟨wA,hwNa⟩:∃W,wz.setCell ⟨(w.heap.size+1),6,none⟩ (.slice za zn zc)=W:=⟨_,rfl⟩
    rw[hwNa] at HNBa HRPa HKWa⊢
    clear y0 y1 y2 y3 y4 y5 y6 z0 z1 z2 z3 z4 z5 z6 hwNa HIa hblta
    have HKA:Hid (Kept (fun i=>i=g) w wA):=jd (HKW.o.trans HKWa.o (fun i hi e=>by rcases e with e|e<;>first|exact e|(exfalso;omega)))
    have HEA:Hid (bW wA):=jd (HE.o.dz HKA.o HGN.o)
    have HPRA:Hid (NBx wA w.heap.size zN):=jd (HKWa.o.heap HPR.o (fun e=>by rcases e with e|e<;>first|omega|(have e':w.heap.size=g:=e;omega)))
    have HMU:=jd (fW T wA g d p1 HRPa.o HEA.o cu (by decide))
    rw[HM1.o] at HMU
    refine HMU.o.mono ?_
    rintro e wB ⟨rfl,rB,kB⟩
    have HNBB:=jd (HNBa.o.kept kB (fun i hi e=>by have e':i=g:=e;have:=HGL.o;omega))
    have HRPB:=jd rB
    have HKB:Hid (Kept (fun i=>i=g) w wB):=jd (HKA.o.trans kB (fun _ _ h=>h))
    have HPRB:Hid (NBx wB w.heap.size zN):=jd (kB.heap HPRA.o (fun e=>by have e':w.heap.size=g:=e;omega))
    have HEB:Hid (bW wB):=jd (HE.o.dz HKB.o HGN.o)
    have HMLB:Hid ((acc++[nd]).length≤5000):=jd (by have:=HLEN.o.1;rw[Jf];simp;omega)
    have HWPB:Hid (∀wx,Kept (fun _=>False) wB wx→Calls Tryz.prog 107 #[.pointer (some ⟨g,0,none⟩)] wx (NEl T wx g d nd2 p2)):=jd (fun wx hk=>HWQ.o wx (HRPB.o.au hk) (HEB.o.au hk))
    obtain⟨vkB,hvkB⟩:∃v,Value.slice za zn zc=v:=⟨_,rfl⟩
    rw[hvkB] at HNBB
    clear rB kB HNBa HRPa HKWa HNB HRP HKW HPR HWP HWQ HML hvkB HPRA HKA HMU HM1 HEA HEr
    go_wp2_with fail
    have hnrb:=HNBB.o
    obtain⟨rab,rcpb,hslb,hrlb⟩:=hnrb.rk.slice
    obtain⟨mb,hmb⟩:∃m,((acc++[nd])).length=m:=⟨_,rfl⟩
    rw[hmb] at hslb hrlb
    subst hslb
    have hlobb:=HNBB.o.lob
    have hglb:=HGL.o
    have hbgb:(w.heap.size+1)≠g:=by omega
    obtain⟨psb,hpsb,hownb,helb⟩:=hnrb.rk
    have HMb:=jd hmb
    rw[hmb] at hownb
    have HOWNb:=jd hownb;have HPSb:=jd hpsb;have HELb:=jd helb
    have hmlb:mb≤5000:=by have h9:=HMLB.o;omega
    have hSSb:∀i,wB.heap.size≤i→¬duS (fun i=>i=g) (blk (.slice rab mb rcpb)) i:=fun i hi e=>by
     rcases e with e|e
     ·have e':i=g:=e;have:=HNBB.o.lt;have:=HRPB.o.lt;omega
     ·have:=df HOWNb.o i e;omega
    have hb1b:¬((w.heap.size+1)=g):=hbgb
    have hPrb:∀(v:Value) (wx wy:World),Kept (fun i=>i=g) wx wy→(∃F',NB wx (w.heap.size+1) (w.heap.size+1) F' 6 false [] (.slice none 0 0) (.slice none 0 0) (.slice none 0 0) v [] [] [] ((acc++[nd])++[nd2]))→∃F',NB wy (w.heap.size+1) (w.heap.size+1) F' 6 false [] (.slice none 0 0) (.slice none 0 0) (.slice none 0 0) v [] [] [] ((acc++[nd])++[nd2]):=fun v wx wy hk ⟨F',h⟩=>⟨F',h.kept hk (fun i hi e=>by have e':i=g:=e;have:=HGL.o;omega)⟩
    clear hnrb hpsb hownb helb hmb
    refine cS 7 3 5 (fun i=>i=g) (blk (.slice rab mb rcpb)) (RdI wB T g d p2 (w.heap.size+1) (w.heap.size+1) #[.int .i64 6,.bool false,.string (BA []),(.slice none 0 0),(.slice none 0 0),(.slice none 0 0),(.slice rab mb rcpb)]) (jV (fun i=>i=g) (w.heap.size+1) 6 hb1b (fun v wq=>∃F',NB wq (w.heap.size+1) (w.heap.size+1) F' 6 false [] (.slice none 0 0) (.slice none 0 0) (.slice none 0 0) v [] [] [] ((acc++[nd])++[nd2])) hPrb) [rV (.pointer (some ⟨(w.heap.size+1),6,none⟩)),rV (.slice rab mb rcpb),rV (.pointer (some ⟨g,0,none⟩)),rEl eW (duS (fun i=>i=g) (blk (.slice rab mb rcpb))) (fun i=>wB.heap.size≤i) hSSb nd2,tS eW NC 27 (duS (fun i=>i=g) (blk (.slice rab mb rcpb))) (fun i=>wB.heap.size≤i) hSSb nd2,rV (.bool true),rV (.pointer (some ⟨(w.heap.size+1),6,none⟩))] (by kernel_rfl) (by kernel_rfl) ?_ ?_ ?_
    case refine_1=>exact RdI.start HNBB.o.box
    case refine_2=>
     iterate 3
      refine dY (by decide) (by kernel_rfl) (fun s hs1 a' w' hI hag hf K hK=>?_) ?_
      ·obtain⟨⟨_,h0,rfl⟩,-⟩:=hf
       have s0:=hag.same 0 (by decide)
       have s3:=hag.same 3 (by decide)
       clear hag
       obtain⟨⟨y0,y1,y2,y3,y4,y5,y6⟩,-⟩:=NBx.cells hI.box
       go_wp2_with fail
       exact hK _ _ hI (Ja _ _) rfl
     refine jK (by decide) (fun a' w' hI hag hf K hK=>?_) ?_
     ·obtain⟨⟨_,h2,rfl⟩,-⟩:ah _ _ a' w' [2]:=hf
      clear hag
      have HI:=jd hI
      have hk0:=hI.k0 rfl
      clear hI
      go_wp2_with fail
      refine(HWPB.o _ hk0).mono ?_
      rintro x w4 ⟨v,rfl,hw4,hr4,hk4⟩
      go_wp2_with fail
      exact hK _ _ (HI.o.call hk4 hr4 hbgb) hk4 (hw4.mono (fun i _ hi=>lt9 hk0.size hi))
     refine dY (by decide) (by kernel_rfl) (fun s hs1 a' w' hI hag hf K hK=>?_) ?_
     ·obtain⟨⟨v3,h3,e3⟩,-⟩:ah _ _ a' w' [3]:=hf
      clear hag
      have hw7:NAt w' (fun i=>wB.heap.size≤i) v3 nd2:=e3
      obtain⟨uk,ub,us,uaa,uan,uac,uwa,uwn,uwc,ura,urn,urc,uka,ukn,ukc,rfl⟩:=hw7.agg
      have hz:=hI.k.size
      go_wp2_with fail
      exact hK _ _ (hI.au ((Ja _ _).alloc _)) ((Ja _ _).alloc _) ⟨_,_,rfl,hz,heap_alloc _ _,hw7.kept ((Ja _ _).alloc _) (fun _ _ h=>h)⟩
     refine jS (fun a' w' hI hag hf K hK=>?_) ?_
     ·obtain⟨⟨_,h1,rfl⟩,⟨v4,h4,e4⟩,-⟩:ah _ _ a' w' [1,4,3]:=hf
      clear hag
      obtain⟨bb,u,rfl,hbb,hbh,hu⟩:∃bb u,v4= .slice (some ⟨bb,0,none⟩) 1 1∧wB.heap.size≤bb∧w'.heap[bb]? =some (.cells (NC (nd2,u)).toArray 27 (0,0))∧NAt w' (fun i=>wB.heap.size≤i) u nd2:=e4
      have hk1:=hI.k1 (Jb _)
      refine bg rfl _ _ _ rfl EKs (.slice rab mb rcpb) mb (psb.flatMap NC) (by simp[Act.eval,h1]) (bH hk1 HOWNb.o (fun i hi e=>absurd e ?_)) _ 1 (NC (nd2,u)) (by simp[Act.eval,h4]) (fs (C:=NC) hbh hu.vc) (fun y hy=>?_) (by unfold maxLen;omega) (by omega) (fun ad9 cap9 w9 ho9 hg9 hf9=>?_)
      ·have h9:=(HNBB.o.bk i hi).1;have:=HGL.o;intro e';have e2:i=g:=e';omega
      ·exact nT hu y hy
      have hk9:Kept (blk (.slice rab mb rcpb)) w' w9:=(Ja _ _).grown hg9 (fun i e _=>e)
      have ho9':w9.ownsRow 0 27 7 (.slice ad9 (mb+1) cap9) (((acc++[nd])).length+1) (psb.flatMap NC++NC (nd2,u)):=by rw[HMb.o];exact ho9
      have hpush:=(HNBB.o.mL (S:=fun i=>i=g) HPSb.o HELb.o hk1 (fun i hi e=>by have e':i=g:=e;have:=HGL.o;omega) (x:=nd2) (u:=u) (G:=fun i=>wB.heap.size≤i) hu (fun i hi=>hi) ho9' hg9 hf9).1
      exact hK _ _ (hI.app hk9 (fun i hi=>⟨(HNBB.o.bk i hi).1,(HNBB.o.bk i hi).2⟩) HGL.o (fun i hi=>Nat.lt_trans (HTB.o i hi) HGL.o)) hk9 ⟨_,hpush⟩
     refine eZ (by decide) (fun s a' w' hI hag hf K hK=>?_) ?_
     ·have s3:=hag.same 3 (by decide)
      clear hag
      go_wp2_with fail
      exact hK _ _ hI (Ja _ _) rfl
     exact trivial
    case refine_3=>
     intro vs wz hI hvs
     have q3:=hvs 3 _ _ rfl rfl
     have q4:=hvs 4 _ _ rfl rfl
     have q5:(jV (fun i=>i=g) (w.heap.size+1) 6 hb1b (fun v wq=>∃F',NB wq (w.heap.size+1) (w.heap.size+1) F' 6 false [] (.slice none 0 0) (.slice none 0 0) (.slice none 0 0) v [] [] [] ((acc++[nd])++[nd2])) hPrb).1 (vs 5) wz:=hvs 5 _ _ rfl rfl
     simp only[pzz,aW,Act.put,Nat.reduceAdd,dpv (hvs 0 _ _ rfl rfl) (by decide) rfl,dpv (hvs 1 _ _ rfl rfl) (by decide) rfl,dpv (hvs 2 _ _ rfl rfl) (by decide) rfl,dpv (hvs 6 _ _ rfl rfl) (by decide) rfl]
     clear hvs
     generalize vs 3=x3 at*
     generalize vs 4=x4 at*
     generalize vs 5=x5 at*
     have HIb:=jd hI
     obtain⟨Fb,hnb⟩:∃F',NB (wz.setCell ⟨(w.heap.size+1),6,none⟩ x5) (w.heap.size+1) (w.heap.size+1) F' 6 false [] (.slice none 0 0) (.slice none 0 0) (.slice none 0 0) x5 [] [] [] ((acc++[nd])++[nd2]):=q5
     obtain⟨za,zn,zc,rfl⟩:∃a n c,x5= .slice a n c:=by obtain⟨a,c,e,_⟩:=hnb.rk.slice;exact⟨a,_,c,e⟩
     obtain⟨⟨y0,y1,y2,y3,y4,y5,y6⟩,z0,z1,z2,z3,z4,z5,z6⟩:=NBx.cells hI.box
     have hbltb:(w.heap.size+1)<wz.heap.size:=av hI.box
     have HNBb:=jd hnb
     have HRPb:Hid (RP T (wz.setCell ⟨(w.heap.size+1),6,none⟩ (.slice za zn zc)) g d p2):=jd (by
      obtain⟨a,h1,h2⟩:=HIb.o.p (by decide)
      have kS:Kept (fun i=>i=(w.heap.size+1)) wz (wz.setCell ⟨(w.heap.size+1),6,none⟩ (.slice za zn zc)):=(Ja (fun i=>i=(w.heap.size+1)) wz).set (w.heap.size+1) 6 (fun _=>rfl) _
      exact⟨a,h1,h2.kept kS (fun e=>hbgb e.symm) (fun i hi e=>by have e':i=(w.heap.size+1):=e;have:=HTB.o i hi;omega)⟩)
     have HKWb:Hid (Kept (fun i=>i=g∨(w.heap.size+1)≤i) wB (wz.setCell ⟨(w.heap.size+1),6,none⟩ (.slice za zn zc))):=jd (HIb.o.k.set (w.heap.size+1) 6 (fun _=>.inr hlobb) _)
     clear hI q3 q4 hnb
     go_wp2_with fail
     obtain⟨wC,hwNb⟩:∃W,wz.setCell ⟨(w.heap.size+1),6,none⟩ (.slice za zn zc)=W:=⟨_,rfl⟩
     rw[hwNb] at HNBb HRPb HKWb⊢
     clear y0 y1 y2 y3 y4 y5 y6 z0 z1 z2 z3 z4 z5 z6 hwNb HIb hbltb
     have HKC:Hid (Kept (fun i=>i=g) w wC):=jd (HKB.o.trans HKWb.o (fun i hi e=>by rcases e with e|e<;>first|exact e|(exfalso;omega)))
     have HPRC:Hid (NBx wC w.heap.size zN):=jd (HKWb.o.heap HPRB.o (fun e=>by rcases e with e|e<;>first|omega|(have e':w.heap.size=g:=e;omega)))
     have HRS:=jd (ib T wC g d p2 HRPb.o (HE.o.dz HKC.o HGN.o))
     by_cases hv:aI p2=eB
     ·have HRUN2:Hid (run k (.branches d (acc++[nd]++[nd2]) (aJ p2))=some x):=jd (by have h:=HRUN.o;rw[Jt hv] at h;exact h)
      have hk1:ag p2≠0:=by rw[cK (by rw[hv];decide)];decide
      have HTL:=jd (gh hk1)
      have HNX:=jd (fun(wx:World) (hk:Kept (fun _=>False) wC wx)=>(HRPb.o.au hk).next hk1)
      rw[hv] at HRS
      have f0:(BA eB==(⟨#[101,108,105,102]⟩:ByteArray))=true:=(bU [101,108,105,102] [101,108,105,102]).trans (by decide)
      have e0:(eB==[101,108,105,102])=true:=by decide
      obtain⟨rv,hrv⟩:∃rv,eB=rv:=⟨_,rfl⟩
      rw[hrv] at HRS f0 e0
      clear hv hk1 hrv
      refine HRS.o.mono ?_
      rintro e wD ⟨rfl,kD⟩
      have KD:=jd kD
      obtain⟨at_,a1,a2,a3,a4,RS,KS⟩:=HNX.o wD kD
      clear kD
      go_wp2_with fail
      obtain⟨wE,hwE⟩:∃wE,wD.setCell ⟨g,1,none⟩ (.int .i64 ((at_:Int)+1))=wE:=⟨_,rfl⟩
      rw[hwE] at RS KS⊢
      clear hwE
      go_roundg ((aJ p2).r.length+1)
      case measure=>have h1:=HLEN.o;have h2:=HTL.o;omega
      case rel=>
       exact⟨true,acc++[nd]++[nd2],aJ p2,Fb,.slice za zn zc,rfl,(HNBb.o.kept KD.o (fun _ _ h=>h)).kept KS.o (fun i hi e=>by have e':i=g:=e;have:=HGL.o;omega),RS.o,(HKC.o.trans KD.o (fun _ _ h=>h.elim)).trans KS.o (fun _ _ h=>h),KS.o.heap (KD.o.heap HPRC.o (fun h=>h)) (fun e=>by have e':w.heap.size=g:=e;omega),(by have h1:=HLEN.o;simp only[Jf,Jg,Jn];omega),fun _=>⟨rfl,(by have h1:=HLEN.o;have h2:=HTL.o;simp only[Jf,Jg,Jn];omega),k,by have h1:=HLEN.o;omega,HRUN2.o⟩,fun h=>by cases h⟩
     ·have HRUN2:Hid (FB n d x (acc++[nd]++[nd2]) p2):=jd (by
       have h:=HRUN.o
       rw[Js hv] at h
       by_cases h2:aI p2=dF
       ·rw[Jt h2] at h
        obtain⟨u,hu,h⟩:=Jh.1 h
        exact .inl ⟨h2,u,aM.le hu (by have h1:=HLEN.o;omega),h.symm⟩
       ·rw[Js h2] at h
        exact .inr ⟨h2,(Jw h).symm⟩)
      obtain⟨rv,hrv⟩:∃rv,aI p2=rv:=⟨_,rfl⟩
      rw[hrv] at HRS hv
      have f0:(BA rv==(⟨#[101,108,105,102]⟩:ByteArray))=false:=(bU rv [101,108,105,102]).trans (by simpa[eB] using hv)
      have e0:(rv==[101,108,105,102])=false:=by simpa[eB] using hv
      clear hv hrv
      refine HRS.o.mono ?_
      rintro e wD ⟨rfl,kD⟩
      have KD:=jd kD
      clear kD
      go_wp2_with fail
      go_roundg 0
      case measure=>have h1:=HLEN.o;omega
      case rel=>
       exact⟨false,acc++[nd]++[nd2],p2,Fb,.slice za zn zc,rfl,HNBb.o.kept KD.o (fun _ _ h=>h),HRPb.o.au KD.o,HKC.o.trans KD.o (fun _ _ h=>h.elim),KD.o.heap HPRC.o (fun h=>h),(by have h1:=HLEN.o;simp only[Jf,Jg,Jn];omega),(fun h=>by cases h),fun _=>⟨rfl,HRUN2.o⟩⟩
  |false=>
   obtain⟨hgk,hend⟩:=hm2 rfl
   have HNB:=jd hnb;have HRP:=jd hrp;have HKW:=jd hkw;have HPR:=jd hpr
   have HEr:Hid (bW wr):=jd (HE.o.dz hkw HGN.o)
   have HML:Hid (acc.length≤5000):=jd (by omega)
   have HRS:=jd (ib T wr g d q hrp HEr.o)
   clear hnb hrp hkw hpr hm1 hm2 hgk hlen
   rcases hend with⟨hv,z,hz,hxz⟩|⟨hv,hxz⟩
   ·obtain⟨nd,hn⟩:=(cJ _ _ _ hz).1 trivial
    have HXN:Hid (x.ns=[ndK 6 (acc++[nd])]):=jd (by rw[hxz,hn])
    obtain⟨p1,hp1⟩:∃p1,z.p=p1:=⟨_,rfl⟩
    obtain⟨p2,hp2⟩:∃p2,ay rFi p1=p2:=⟨_,rfl⟩
    have HXP:Hid (x.p=p2):=jd (by rw[hxz,←hp2,←hp1])
    have HM1:=jd hp2
    have HWQ:Hid (∀wx,RP T wx g d (aJ q)→bW wx→Calls Tryz.prog 107 #[.pointer (some ⟨g,0,none⟩)] wx (NEl T wx g d nd p1)):=jd (fun wx hr he=>hp1▸HBC.o wx (aJ q) z nd hz hn hr he)
    have hk1:ag q≠0:=by rw[cK (by rw[hv];decide)];decide
    have HNX:=jd (fun(wx:World) (hk:Kept (fun _=>False) wr wx)=>(HRP.o.au hk).next hk1)
    rw[hv] at HRS
    have f0:(BA dF==(⟨#[101,108,115,101]⟩:ByteArray))=true:=(bU [101,108,115,101] [101,108,115,101]).trans (by decide)
    have e0:(dF==[101,108,115,101])=true:=by decide
    obtain⟨rv,hrv⟩:∃rv,dF=rv:=⟨_,rfl⟩
    rw[hrv] at HRS f0 e0
    clear hv hk1 hrv hz hxz hn hp1 hp2
    go_wp2_with fail
    refine HRS.o.mono ?_
    rintro e wD ⟨rfl,kD⟩
    have KD:=jd kD
    obtain⟨at_,a1,a2,a3,a4,RS,KS⟩:=HNX.o wD kD
    clear kD
    go_wp2_with fail
    obtain⟨wE,hwE⟩:∃wE,wD.setCell ⟨g,1,none⟩ (.int .i64 ((at_:Int)+1))=wE:=⟨_,rfl⟩
    rw[hwE] at RS KS⊢
    have HKE:Hid (Kept (fun i=>i=g) w wE):=jd ((HKW.o.trans KD.o (fun _ _ h=>h.elim)).trans KS.o (fun _ _ h=>h))
    have HNBE:=jd ((HNB.o.kept KD.o (fun _ _ h=>h)).kept KS.o (fun i hi e=>by have e':i=g:=e;have:=HGL.o;omega))
    have HPRE:Hid (NBx wE w.heap.size zN):=jd (KS.o.heap (KD.o.heap HPR.o (fun h=>h)) (fun e=>by have e':w.heap.size=g:=e;omega))
    have HEE:Hid (bW wE):=jd (HE.o.dz HKE.o HGN.o)
    have HRPE:=RS
    have HWP:Hid (∀wx,Kept (fun _=>False) wE wx→Calls Tryz.prog 107 #[.pointer (some ⟨g,0,none⟩)] wx (NEl T wx g d nd p1)):=jd (fun wx hk=>HWQ.o wx (HRPE.o.au hk) (HEE.o.au hk))
    clear hwE a1 a2 a3 a4 HNB HRP HKW HPR HRS HNX HWQ
    have hnrc:=HNBE.o
    obtain⟨rac,rcpc,hslc,hrlc⟩:=hnrc.rk.slice
    obtain⟨mc,hmc⟩:∃m,(acc).length=m:=⟨_,rfl⟩
    rw[hmc] at hslc hrlc
    subst hslc
    have hlobc:=HNBE.o.lob
    have hglc:=HGL.o
    have hbgc:(w.heap.size+1)≠g:=by omega
    obtain⟨psc,hpsc,hownc,helc⟩:=hnrc.rk
    have HMc:=jd hmc
    rw[hmc] at hownc
    have HOWNc:=jd hownc;have HPSc:=jd hpsc;have HELc:=jd helc
    have hmlc:mc≤5000:=by have h9:=HML.o;omega
    have hSSc:∀i,wE.heap.size≤i→¬duS (fun i=>i=g) (blk (.slice rac mc rcpc)) i:=fun i hi e=>by
     rcases e with e|e
     ·have e':i=g:=e;have:=HNBE.o.lt;have:=HRPE.o.lt;omega
     ·have:=df HOWNc.o i e;omega
    have hb1c:¬((w.heap.size+1)=g):=hbgc
    have hPrc:∀(v:Value) (wx wy:World),Kept (fun i=>i=g) wx wy→(∃F',NB wx (w.heap.size+1) (w.heap.size+1) F' 6 false [] (.slice none 0 0) (.slice none 0 0) (.slice none 0 0) v [] [] [] (acc++[nd]))→∃F',NB wy (w.heap.size+1) (w.heap.size+1) F' 6 false [] (.slice none 0 0) (.slice none 0 0) (.slice none 0 0) v [] [] [] (acc++[nd]):=fun v wx wy hk ⟨F',h⟩=>⟨F',h.kept hk (fun i hi e=>by have e':i=g:=e;have:=HGL.o;omega)⟩
    clear hnrc hpsc hownc helc hmc
    refine cS 7 3 5 (fun i=>i=g) (blk (.slice rac mc rcpc)) (RdI wE T g d p1 (w.heap.size+1) (w.heap.size+1) #[.int .i64 6,.bool false,.string (BA []),(.slice none 0 0),(.slice none 0 0),(.slice none 0 0),(.slice rac mc rcpc)]) (jV (fun i=>i=g) (w.heap.size+1) 6 hb1c (fun v wq=>∃F',NB wq (w.heap.size+1) (w.heap.size+1) F' 6 false [] (.slice none 0 0) (.slice none 0 0) (.slice none 0 0) v [] [] [] (acc++[nd])) hPrc) [rV (.pointer (some ⟨(w.heap.size+1),6,none⟩)),rV (.slice rac mc rcpc),rV (.pointer (some ⟨g,0,none⟩)),rEl eW (duS (fun i=>i=g) (blk (.slice rac mc rcpc))) (fun i=>wE.heap.size≤i) hSSc nd,tS eW NC 27 (duS (fun i=>i=g) (blk (.slice rac mc rcpc))) (fun i=>wE.heap.size≤i) hSSc nd,rV (.bool true),rV (.pointer (some ⟨(w.heap.size+1),6,none⟩))] (by kernel_rfl) (by kernel_rfl) ?_ ?_ ?_
    case refine_1=>exact RdI.start HNBE.o.box
    case refine_2=>
     iterate 3
      refine dY (by decide) (by kernel_rfl) (fun s hs1 a' w' hI hag hf K hK=>?_) ?_
      ·obtain⟨⟨_,h0,rfl⟩,-⟩:=hf
       have s0:=hag.same 0 (by decide)
       have s3:=hag.same 3 (by decide)
       clear hag
       obtain⟨⟨y0,y1,y2,y3,y4,y5,y6⟩,-⟩:=NBx.cells hI.box
       go_wp2_with fail
       exact hK _ _ hI (Ja _ _) rfl
     refine jK (by decide) (fun a' w' hI hag hf K hK=>?_) ?_
     ·obtain⟨⟨_,h2,rfl⟩,-⟩:ah _ _ a' w' [2]:=hf
      clear hag
      have HI:=jd hI
      have hk0:=hI.k0 rfl
      clear hI
      go_wp2_with fail
      refine(HWP.o _ hk0).mono ?_
      rintro x w4 ⟨v,rfl,hw4,hr4,hk4⟩
      go_wp2_with fail
      exact hK _ _ (HI.o.call hk4 hr4 hbgc) hk4 (hw4.mono (fun i _ hi=>lt9 hk0.size hi))
     refine dY (by decide) (by kernel_rfl) (fun s hs1 a' w' hI hag hf K hK=>?_) ?_
     ·obtain⟨⟨v3,h3,e3⟩,-⟩:ah _ _ a' w' [3]:=hf
      clear hag
      have hw7:NAt w' (fun i=>wE.heap.size≤i) v3 nd:=e3
      obtain⟨uk,ub,us,uaa,uan,uac,uwa,uwn,uwc,ura,urn,urc,uka,ukn,ukc,rfl⟩:=hw7.agg
      have hz:=hI.k.size
      go_wp2_with fail
      exact hK _ _ (hI.au ((Ja _ _).alloc _)) ((Ja _ _).alloc _) ⟨_,_,rfl,hz,heap_alloc _ _,hw7.kept ((Ja _ _).alloc _) (fun _ _ h=>h)⟩
     refine jS (fun a' w' hI hag hf K hK=>?_) ?_
     ·obtain⟨⟨_,h1,rfl⟩,⟨v4,h4,e4⟩,-⟩:ah _ _ a' w' [1,4,3]:=hf
      clear hag
      obtain⟨bb,u,rfl,hbb,hbh,hu⟩:∃bb u,v4= .slice (some ⟨bb,0,none⟩) 1 1∧wE.heap.size≤bb∧w'.heap[bb]? =some (.cells (NC (nd,u)).toArray 27 (0,0))∧NAt w' (fun i=>wE.heap.size≤i) u nd:=e4
      have hk1:=hI.k1 (Jb _)
      refine bg rfl _ _ _ rfl EKs (.slice rac mc rcpc) mc (psc.flatMap NC) (by simp[Act.eval,h1]) (bH hk1 HOWNc.o (fun i hi e=>absurd e ?_)) _ 1 (NC (nd,u)) (by simp[Act.eval,h4]) (fs (C:=NC) hbh hu.vc) (fun y hy=>?_) (by unfold maxLen;omega) (by omega) (fun ad9 cap9 w9 ho9 hg9 hf9=>?_)
      ·have h9:=(HNBE.o.bk i hi).1;have:=HGL.o;intro e';have e2:i=g:=e';omega
      ·exact nT hu y hy
      have hk9:Kept (blk (.slice rac mc rcpc)) w' w9:=(Ja _ _).grown hg9 (fun i e _=>e)
      have ho9':w9.ownsRow 0 27 7 (.slice ad9 (mc+1) cap9) ((acc).length+1) (psc.flatMap NC++NC (nd,u)):=by rw[HMc.o];exact ho9
      have hpush:=(HNBE.o.mL (S:=fun i=>i=g) HPSc.o HELc.o hk1 (fun i hi e=>by have e':i=g:=e;have:=HGL.o;omega) (x:=nd) (u:=u) (G:=fun i=>wE.heap.size≤i) hu (fun i hi=>hi) ho9' hg9 hf9).1
      exact hK _ _ (hI.app hk9 (fun i hi=>⟨(HNBE.o.bk i hi).1,(HNBE.o.bk i hi).2⟩) HGL.o (fun i hi=>Nat.lt_trans (HTB.o i hi) HGL.o)) hk9 ⟨_,hpush⟩
     refine eZ (by decide) (fun s a' w' hI hag hf K hK=>?_) ?_
     ·have s3:=hag.same 3 (by decide)
      clear hag
      go_wp2_with fail
      exact hK _ _ hI (Ja _ _) rfl
     exact trivial
    case refine_3=>
     intro vs wz hI hvs
     have q3:=hvs 3 _ _ rfl rfl
     have q4:=hvs 4 _ _ rfl rfl
     have q5:(jV (fun i=>i=g) (w.heap.size+1) 6 hb1c (fun v wq=>∃F',NB wq (w.heap.size+1) (w.heap.size+1) F' 6 false [] (.slice none 0 0) (.slice none 0 0) (.slice none 0 0) v [] [] [] (acc++[nd])) hPrc).1 (vs 5) wz:=hvs 5 _ _ rfl rfl
     simp only[pzz,aW,Act.put,Nat.reduceAdd,dpv (hvs 0 _ _ rfl rfl) (by decide) rfl,dpv (hvs 1 _ _ rfl rfl) (by decide) rfl,dpv (hvs 2 _ _ rfl rfl) (by decide) rfl,dpv (hvs 6 _ _ rfl rfl) (by decide) rfl]
     clear hvs
     generalize vs 3=x3 at*
     generalize vs 4=x4 at*
     generalize vs 5=x5 at*
     have HIc:=jd hI
     obtain⟨Fc,hnb⟩:∃F',NB (wz.setCell ⟨(w.heap.size+1),6,none⟩ x5) (w.heap.size+1) (w.heap.size+1) F' 6 false [] (.slice none 0 0) (.slice none 0 0) (.slice none 0 0) x5 [] [] [] (acc++[nd]):=q5
     obtain⟨za,zn,zc,rfl⟩:∃a n c,x5= .slice a n c:=by obtain⟨a,c,e,_⟩:=hnb.rk.slice;exact⟨a,_,c,e⟩
     obtain⟨⟨y0,y1,y2,y3,y4,y5,y6⟩,z0,z1,z2,z3,z4,z5,z6⟩:=NBx.cells hI.box
     have hbltc:(w.heap.size+1)<wz.heap.size:=av hI.box
     have HNBc:=jd hnb
     have HRPc:Hid (RP T (wz.setCell ⟨(w.heap.size+1),6,none⟩ (.slice za zn zc)) g d p1):=jd (by
      obtain⟨a,h1,h2⟩:=HIc.o.p (by decide)
      have kS:Kept (fun i=>i=(w.heap.size+1)) wz (wz.setCell ⟨(w.heap.size+1),6,none⟩ (.slice za zn zc)):=(Ja (fun i=>i=(w.heap.size+1)) wz).set (w.heap.size+1) 6 (fun _=>rfl) _
      exact⟨a,h1,h2.kept kS (fun e=>hbgc e.symm) (fun i hi e=>by have e':i=(w.heap.size+1):=e;have:=HTB.o i hi;omega)⟩)
     have HKWc:Hid (Kept (fun i=>i=g∨(w.heap.size+1)≤i) wE (wz.setCell ⟨(w.heap.size+1),6,none⟩ (.slice za zn zc))):=jd (HIc.o.k.set (w.heap.size+1) 6 (fun _=>.inr hlobc) _)
     clear hI q3 q4 hnb
     go_wp2_with fail
     obtain⟨wF,hwNc⟩:∃W,wz.setCell ⟨(w.heap.size+1),6,none⟩ (.slice za zn zc)=W:=⟨_,rfl⟩
     rw[hwNc] at HNBc HRPc HKWc⊢
     clear y0 y1 y2 y3 y4 y5 y6 z0 z1 z2 z3 z4 z5 z6 hwNc HIc hbltc
     have HKF1:Hid (Kept (fun i=>i=g) w wF):=jd (HKE.o.trans HKWc.o (fun i hi e=>by rcases e with e|e<;>first|exact e|(exfalso;omega)))
     have HPRF:Hid (NBx wF w.heap.size zN):=jd (HKWc.o.heap HPRE.o (fun e=>by rcases e with e|e<;>first|omega|(have e':w.heap.size=g:=e;omega)))
     obtain⟨vk9,hvk9⟩:∃v,Value.slice za zn zc=v:=⟨_,rfl⟩
     rw[hvk9] at HNBc
     clear hvk9 f0 e0
     have HMU:=jd (fW T wF g d p1 HRPc.o (HE.o.dz HKF1.o HGN.o) rFi (by decide))
     rw[HM1.o] at HMU
     refine HMU.o.mono ?_
     rintro e wN ⟨rfl,rN,kN⟩
     have HRPn:=jd rN
     have HNBn:=jd (HNBc.o.kept kN (fun i hi e=>by have e':i=g:=e;have:=HGL.o;omega))
     have HKF:Hid (Kept (fun i=>i=g) w wN):=jd (HKF1.o.trans kN (fun _ _ h=>h))
     have PRN:Hid (NBx wN w.heap.size zN):=jd (kN.heap HPRF.o (fun e=>by have e':w.heap.size=g:=e;omega))
     obtain⟨ta,tc,htt,_⟩:=HNBn.o.rk.slice
     obtain⟨tn,htn⟩:∃tn,(acc++[nd]).length=tn:=⟨_,rfl⟩
     rw[htn] at htt
     subst htt
     clear rN kN htn
     obtain⟨⟨c0,c1,c2,c3,c4,c5,c6⟩,f0,f1,f2,f3,f4,f5,f6⟩:=NBx.cells PRN.o
     obtain⟨⟨e0,e1,e2,e3,e4,e5,e6⟩,-⟩:=NBx.cells HNBn.o.box
     have hltN:w.heap.size<wN.heap.size:=av PRN.o
     go_wp2_with fail
     have K7:Hid (Kept (fun i=>i=w.heap.size) wN (st7 wN w.heap.size (.int .i64 6) (.bool false) (.string (BA [])) (.slice none 0 0) (.slice none 0 0) (.slice none 0 0) (.slice ta tn tc))):=jd (bu (Ja (fun i=>i=w.heap.size) wN) (fun _=>rfl) _ _ _ _ _ _ _)
     have B7:=jd (bS PRN.o (.int .i64 6) (.bool false) (.string (BA [])) (.slice none 0 0) (.slice none 0 0) (.slice none 0 0) (.slice ta tn tc))
     refine bodyPost_ret (v:= .agg #[.int .i64 6,.bool false,.string (BA []),.slice none 0 0,.slice none 0 0,.slice none 0 0,.slice ta tn tc]) ?_ rfl ?_
     ·exact results_cell_row rfl _ _ w.heap.size 27 _ (0,0) _ (by rfl) B7.o Tryz.underlying27 rfl (by kernel_rfl)
     refine hZ ?_ (fun nd h=>by rw[HXN.o] at h;cases h;rfl)
     exact cp HXN.o HNBn.o.at (by rw[HXP.o];exact HRPn.o) HKF.o K7.o hgl HTB.o
   ·have HXN:Hid (x.ns=[ndK 6 acc]):=jd (by rw[hxz])
    obtain⟨p2,hp2⟩:∃p2,ay rFi q=p2:=⟨_,rfl⟩
    have HXP:Hid (x.p=p2):=jd (by rw[hxz,←hp2])
    have HM1:=jd hp2
    obtain⟨rv,hrv⟩:∃rv,aI q=rv:=⟨_,rfl⟩
    rw[hrv] at HRS hv
    have f0:(BA rv==(⟨#[101,108,115,101]⟩:ByteArray))=false:=(bU rv [101,108,115,101]).trans (by simpa[dF] using hv)
    have e0:(rv==[101,108,115,101])=false:=by simpa[dF] using hv
    clear hv hrv hxz hp2
    go_wp2_with fail
    refine HRS.o.mono ?_
    rintro e wD ⟨rfl,kD⟩
    have HRPd:=jd (HRP.o.au kD)
    have HNBd:=jd (HNB.o.kept kD (fun _ _ h=>h))
    have HKD:Hid (Kept (fun i=>i=g) w wD):=jd (HKW.o.trans kD (fun _ _ h=>h.elim))
    have HPRD:Hid (NBx wD w.heap.size zN):=jd (kD.heap HPR.o (fun h=>h))
    clear kD
    go_wp2_with fail
    clear f0 e0
    have HMU:=jd (fW T wD g d q HRPd.o (HE.o.dz HKD.o HGN.o) rFi (by decide))
    rw[HM1.o] at HMU
    refine HMU.o.mono ?_
    rintro e wN ⟨rfl,rN,kN⟩
    have HRPn:=jd rN
    have HNBn:=jd (HNBd.o.kept kN (fun i hi e=>by have e':i=g:=e;have:=HGL.o;omega))
    have HKF:Hid (Kept (fun i=>i=g) w wN):=jd (HKD.o.trans kN (fun _ _ h=>h))
    have PRN:Hid (NBx wN w.heap.size zN):=jd (kN.heap HPRD.o (fun e=>by have e':w.heap.size=g:=e;omega))
    obtain⟨ta,tc,htt,_⟩:=HNBn.o.rk.slice
    obtain⟨tn,htn⟩:∃tn,acc.length=tn:=⟨_,rfl⟩
    rw[htn] at htt
    subst htt
    clear rN kN htn
    obtain⟨⟨c0,c1,c2,c3,c4,c5,c6⟩,f0,f1,f2,f3,f4,f5,f6⟩:=NBx.cells PRN.o
    obtain⟨⟨e0,e1,e2,e3,e4,e5,e6⟩,-⟩:=NBx.cells HNBn.o.box
    have hltN:w.heap.size<wN.heap.size:=av PRN.o
    go_wp2_with fail
    have K7:Hid (Kept (fun i=>i=w.heap.size) wN (st7 wN w.heap.size (.int .i64 6) (.bool false) (.string (BA [])) (.slice none 0 0) (.slice none 0 0) (.slice none 0 0) (.slice ta tn tc))):=jd (bu (Ja (fun i=>i=w.heap.size) wN) (fun _=>rfl) _ _ _ _ _ _ _)
    have B7:=jd (bS PRN.o (.int .i64 6) (.bool false) (.string (BA [])) (.slice none 0 0) (.slice none 0 0) (.slice none 0 0) (.slice ta tn tc))
    refine bodyPost_ret (v:= .agg #[.int .i64 6,.bool false,.string (BA []),.slice none 0 0,.slice none 0 0,.slice none 0 0,.slice ta tn tc]) ?_ rfl ?_
    ·exact results_cell_row rfl _ _ w.heap.size 27 _ (0,0) _ (by rfl) B7.o Tryz.underlying27 rfl (by kernel_rfl)
    refine hZ ?_ (fun nd h=>by rw[HXN.o] at h;cases h;rfl)
    exact cp HXN.o HNBn.o.at (by rw[HXP.o];exact HRPn.o) HKF.o K7.o hgl HTB.o
