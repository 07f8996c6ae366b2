import Derived.Test.YtgigdlhcjahejaaGreatDoorF29
set_option linter.all false
set_option maxHeartbeats 400000000
namespace Go.Proofs.YtgigdlhcjahejaaGreatDoor
open Go Go.RowKit Go.Lw
set_option maxRecDepth 100000
attribute [local go_sem] aA
theorem nf {w:World} {F:Nat→Prop} {bb:Nat} {c0 c1 c2 c3 c4 c5 c6 d0 d1 d2 d3 d4 d5 d6:Value} {n1 n2:Nd} (h:w.heap[bb]? =some (.cells #[c0,c1,c2,c3,c4,c5,c6,d0,d1,d2,d3,d4,d5,d6] 27 (0,0))) (h1:NAt w F (.agg #[c0,c1,c2,c3,c4,c5,c6]) n1) (h2:NAt w F (.agg #[d0,d1,d2,d3,d4,d5,d6]) n2) (hF:F bb):bJ w F (.slice (some ⟨bb,0,none⟩) 2 2) [n1,n2]:=by
 refine⟨[(n1,.agg #[c0,c1,c2,c3,c4,c5,c6]),(n2,.agg #[d0,d1,d2,d3,d4,d5,d6])],rfl,?_,fun b hb=>?_,fun x hx=>?_⟩
 ·refine⟨rfl,_,_,rfl,Jb _,by unfold maxLen;decide,fun j u hj=>⟨bb,0,rfl,?_⟩⟩
  rw[Nat.zero_add,aB h j]
  simpa[NC,VC] using hj
 ·have e:b=bb:=gI hb
  rw[e]
  exact⟨hF,av h⟩
 ·simp only[Jl,List.not_mem_nil,or_false] at hx
  rcases hx with rfl|rfl
  ·exact h1
  ·exact h2
def G7 (k:Option Int) (bb:Nat):Value:=match k with
 |none=>.slice (some ⟨bb,0,none⟩) 2 2
 |some k=>.agg #[.int .i64 k,.bool false,.string ⟨#[]⟩,.slice none 0 0,.slice none 0 0,.slice none 0 0,.slice (some ⟨bb,0,none⟩) 2 2]
def vT (g lo : Nat) (hlo : g < lo) (k : Option Int) (vs : List Value) (nd : Nd) : cT (Kept fun i => i = g) :=
  ⟨fun v w => ∃ bb uk ub us uaa uan uac uwa uwn uwc ura urn urc uka ukn ukc, v = G7 k bb ∧ lo ≤ bb ∧
      w.heap[bb]? = some (.cells (vs ++ ([.int .i64 uk, .bool ub, .string (BA us), .slice uaa uan uac, .slice uwa uwn uwc, .slice ura urn urc, .slice uka ukn ukc] : List Value)).toArray 27 (0, 0)) ∧ NAt w (fun i => lo ≤ i) (.agg #[.int .i64 uk, .bool ub, .string (BA us), .slice uaa uan uac, .slice uwa uwn uwc, .slice ura urn urc, .slice uka ukn ukc]) nd,
   fun v w w' hk ⟨bb, uk, ub, us, uaa, uan, uac, uwa, uwn, uwc, ura, urn, urc, uka, ukn, ukc, h1, h2, h3, h4⟩ => ⟨bb, uk, ub, us, uaa, uan, uac, uwa, uwn, uwc, ura, urn, urc, uka, ukn, ukc, h1, h2, hk.heap h3 (fun e => by have e' : bb = g := e; omega), h4.kept hk (fun i hi e => by have e' : i = g := e; have hi' : lo ≤ i := hi; omega)⟩⟩
def ChI (T:TT) (w:World) (g d n b:Nat) (x:Rd9) (gk:Nat) (wx:World):Prop:=
 ∃(nd:Nd) (q:Ps) (vk:Int) (vb:Bool) (vn:LB) (aa:Option Addr) (an ac:Nat) (wa:Option Addr) (wn wc:Nat) (ra:Option Addr) (rn rc:Nat) (ka:Option Addr) (kn kc:Nat),NBx wx b #[.int .i64 vk,.bool vb,.string (BA vn),.slice aa an ac,.slice wa wn wc,.slice ra rn rc,.slice ka kn kc]∧NAt wx (fun i=>w.heap.size+1≤i∧i≠b) (.agg #[.int .i64 vk,.bool vb,.string (BA vn),.slice aa an ac,.slice wa wn wc,.slice ra rn rc,.slice ka kn kc]) nd∧RP T wx g d q∧Kept (fun i=>i=g) w wx∧NBx wx w.heap.size zN∧gk=q.r.length∧∃k,k≤n∧run k (.chainL d [nd] q)=some x
theorem yC (n:Nat) (HB:Hid (CJ 76 eR .pipe n)):CJ 56 eR .chain (n+1):=by
 intro T w g d p x hx hp hE hgn ht
 rw[run] at hx
 obtain⟨y,hy,hX⟩:=Ji.1 hx
 obtain⟨nd0,hn0⟩:=(cJ _ _ _ hy).1 trivial
 rw[hn0] at hX
 obtain⟨p0,hp0⟩:∃p0,y.p=p0:=⟨_,rfl⟩
 rw[hp0] at hX
 have HX:=jd hX
 obtain⟨W0,hW0⟩:∃W0,w.alloc (.cells zN 27)=W0:=⟨_,rfl⟩
 have hs0:W0.heap.size=w.heap.size+1:=by rw[←hW0,World.size_alloc]
 have KA:Hid (Kept (fun _=>False) w W0):=jd (by rw[←hW0];exact(Ja _ w).alloc _)
 have PA:Hid (NBx W0 w.heap.size zN):=jd (by rw[←hW0];exact heap_alloc w _)
 have HW0:=jd hW0
 have hgl:=hp.lt
 have HE:=jd hE;have HGN:=jd hgn;have HTB:=jd ht
 have HP0:=jd (hp.au KA.o);have HE0:=jd (hE.au KA.o)
 have HS0:=jd hs0
 have HBC:=jd (fun(wx:World) (q:Ps) (z:Rd9) (nd:Nd) (hz:run n (.pipe d q)=some z) (hn:z.ns=[nd]) (hr:RP T wx g d q) (he:bW wx)=>(HB.o T wx g d q z hz hr he HGN.o HTB.o).mono (fun e w' h=>fN hn rfl h))
 have HC:Hid (Calls Tryz.prog 76 #[.pointer (some ⟨g,0,none⟩)] W0 (NEl T W0 g d nd0 p0)):=jd (hp0▸HBC.o W0 p y nd0 hy hn0 HP0.o HE0.o)
 obtain⟨N,hN⟩:∃N,p0.r.length=N:=⟨_,rfl⟩
 have HN:=jd hN
 clear hx hp hE hgn ht hW0 hy hX hn0 hp0 hN
 go_enter Tryz.func56,Tryz.ntmps56
 go_wp2_with fail
 rw[HW0.o]
 refine HC.o.mono ?_
 rintro e w2 ⟨v,rfl,hv,r2,k2⟩
 have R2:=jd r2;have K2:=jd k2
 have hz2:=k2.size
 obtain⟨vk,vb,vn,aa,an,ac,wa,wn,wc,ra,rn,rc,ka,kn,kc,rfl⟩:=hv.agg
 have HV:=jd hv
 have HPR2:Hid (NBx w2 w.heap.size zN):=jd (K2.o.heap PA.o (fun e=>by have e':w.heap.size=g:=e;omega))
 clear hv r2 k2
 go_wp2_with fail
 obtain⟨W3,hW3⟩:∃W3,w2.alloc (.cells #[.int .i64 vk,.bool vb,.string (BA vn),.slice aa an ac,.slice wa wn wc,.slice ra rn rc,.slice ka kn kc] 27)=W3:=⟨_,rfl⟩
 have K3:Hid (Kept (fun _=>False) w2 W3):=jd (by rw[←hW3];exact(Ja _ w2).alloc _)
 have L3:Hid (NBx W3 w2.heap.size #[.int .i64 vk,.bool vb,.string (BA vn),.slice aa an ac,.slice wa wn wc,.slice ra rn rc,.slice ka kn kc]):=jd (by rw[←hW3];exact heap_alloc w2 _)
 rw[hW3]
 obtain⟨b,hb⟩:∃b,w2.heap.size=b:=⟨_,rfl⟩
 have hb1:w.heap.size+1≤b:=by omega
 have HB2:=jd hb
 rw[hb] at L3
 rw[hb]
 clear hW3 hs0 hz2 hb
 go_loopg [4] N (fun gk s4 wx=>ChI T w g d n b x gk wx)
 case atStart=>
  exact⟨nd0,p0,vk,vb,vn,aa,an,ac,wa,wn,wc,ra,rn,rc,ka,kn,kc,L3.o,(HV.o.mono (G:=fun i=>w.heap.size+1≤i∧i≠b) (fun i h1 h2=>⟨by have h2':W0.heap.size≤i:=h2;have:=HS0.o;omega,by have:=HB2.o;omega⟩)).kept K3.o (fun _ _ h=>h),R2.o.au K3.o,((KA.o.mono (S':=fun i=>i=g) (fun _ _ h=>h.elim)).trans K2.o (fun _ _ h=>h)).trans K3.o (fun _ _ h=>h.elim),K3.o.heap HPR2.o (fun h=>h),HN.o.symm,n,Jb _,HX.o⟩
 case round=>
  clear HV L3 K3 K2 R2 HPR2 HC HP0 HE0 PA KA HW0 HX
  obtain⟨nd,q,vk,vb,vn,aa,an,ac,wa,wn,wc,ra,rn,rc,ka,kn,kc,hnb,hv,hrp,hkw,hpr,hgk,k,hk,hrun⟩:=hrel
  have HNX:=jd hnb;have HV:=jd hv;have HRP:=jd hrp;have HKW:=jd hkw;have HPR:=jd hpr;have HGK:=jd hgk
  have HT4:=jd (fz T wr g d q hrp 4 (by decide))
  cases k with
  |zero=>cases hrun
  |succ k=>
  rw[run] at hrun
  by_cases h45:ag q=4∨ag q=5
  ·rw[Jt h45] at hrun
   obtain⟨z,hz,hrun⟩:=Ji.1 hrun
   obtain⟨nd2,hn2⟩:=(cJ _ _ _ hz).1 trivial
   have hz':=aM.le hz (show k≤n by omega)
   have hl:z.p.r.length<q.r.length:=Nat.lt_of_le_of_lt (eF _ _ _ hz) (Nat.lt_of_le_of_lt (pV _) (by have:=gh (p:=q) (by omega);omega))
   obtain⟨p2,hp2⟩:∃p2,z.p=p2:=⟨_,rfl⟩
   obtain⟨p1,hp1⟩:∃p1,aD (aJ q)=p1:=⟨_,rfl⟩
   obtain⟨K,hK⟩:∃K:Int,(if ag q=4 then 3 else 4)=K:=⟨_,rfl⟩
   rw[hn2,hp2,hK] at hrun
   rw[hp2] at hl
   rw[hp1] at hz'
   have HRUN:=jd hrun
   have HWQ:Hid (∀wx,RP T wx g d p1→bW wx→Calls Tryz.prog 76 #[.pointer (some ⟨g,0,none⟩)] wx (NEl T wx g d nd2 p2)):=jd (fun wx hr he=>hp2▸HBC.o wx p1 z nd2 hz' hn2 hr he)
   have HL:Hid (p2.r.length<q.r.length∧k≤n):=jd ⟨hl,by omega⟩
   have HP1:=jd hp1
   clear hnb hv hrp hkw hpr hgk hk hrun hz hn2 hz' hl hp2 hp1
   by_cases h4:ag q=4
   ·have hKe:K=3:=by rw[←hK,Jt h4]
    subst hKe
    rw[Jt h4,Jc h4] at HT4
    clear h45 h4 hK
    go_wp2_with fail
    refine HT4.o.mono ?_
    rintro e wB ⟨rfl,rB,kB⟩
    have HRPB:=jd rB
    have KWB:=jd kB
    clear rB kB HT4
    go_wp2_with fail
    have HRE:=jd (fD T wB g d (aJ q) HRPB.o)
    rw[HP1.o] at HRE
    refine HRE.o.mono ?_
    rintro e wC ⟨rfl,rC,kC⟩
    have HRPC:=jd rC
    have KWC:Hid (Kept (fun i=>i=g) wr wC):=jd (KWB.o.trans kC (fun _ _ h=>h))
    have HKC:Hid (Kept (fun i=>i=g) w wC):=jd (HKW.o.trans KWC.o (fun _ _ h=>h))
    have HPRC:Hid (NBx wC w.heap.size zN):=jd (KWC.o.heap HPR.o (fun e=>by have e':w.heap.size=g:=e;omega))
    have BC:Hid (NBx wC b #[.int .i64 vk,.bool vb,.string (BA vn),.slice aa an ac,.slice wa wn wc,.slice ra rn rc,.slice ka kn kc]):=jd (KWC.o.heap HNX.o (fun e=>by have e':b=g:=e;omega))
    have HVC:Hid (NAt wC (fun i=>w.heap.size+1≤i∧i≠b) (.agg #[.int .i64 vk,.bool vb,.string (BA vn),.slice aa an ac,.slice wa wn wc,.slice ra rn rc,.slice ka kn kc]) nd):=jd (HV.o.kept KWC.o (fun i hi e=>by have e':i=g:=e;have:=hi.1;omega))
    have hlC:g<wC.heap.size:=HRPC.o.lt
    have hbC:b<wC.heap.size:=av BC.o
    have HEC:Hid (bW wC):=jd (HE.o.dz HKC.o HGN.o)
    have HWP:Hid (∀wx,Kept (fun _=>False) wC wx→Calls Tryz.prog 76 #[.pointer (some ⟨g,0,none⟩)] wx (NEl T wx g d nd2 p2)):=jd (fun wx hk=>HWQ.o wx (HRPC.o.au hk) (HEC.o.au hk))
    have hbg:b≠g:=by omega
    have hG:∀i,wC.heap.size≤i→¬i=g:=fun i hi e=>by omega
    clear rC kC HRE HRPB KWB HV HNX HPR HRP HKW HWQ KWC
    go_wp2_with fail
    refine gP 6 [3] (RdI wC T g d p2 0 b #[.int .i64 vk,.bool vb,.string (BA vn),.slice aa an ac,.slice wa wn wc,.slice ra rn rc,.slice ka kn kc]) (Kept fun i=>i=g) [rV (.int .i64 3),rV (.agg #[.int .i64 vk,.bool vb,.string (BA vn),.slice aa an ac,.slice wa wn wc,.slice ra rn rc,.slice ka kn kc]),rV (.pointer (some ⟨g,0,none⟩)),rEl eW (fun i=>i=g) (fun i=>wC.heap.size≤i) hG nd2,vT g wC.heap.size hlC none [.int .i64 vk,.bool vb,.string (BA vn),.slice aa an ac,.slice wa wn wc,.slice ra rn rc,.slice ka kn kc] nd2,vT g wC.heap.size hlC (some 3) [.int .i64 vk,.bool vb,.string (BA vn),.slice aa an ac,.slice wa wn wc,.slice ra rn rc,.slice ka kn kc] nd2] (by kernel_rfl) (by kernel_rfl) ?_ ?_ ?_
    case refine_1=>exact RdI.start BC.o
    case refine_2=>
     iterate 3
      refine eO (by decide) (fun s a' w' hI hag hf K hK=>?_) ?_
      ·have s0:=hag.same 0 (by decide)
       have s3:=hag.same 3 (by decide)
       have s4:=hag.same 4 (by decide)
       clear hag
       obtain⟨⟨y0,y1,y2,y3,y4,y5,y6⟩,-⟩:=NBx.cells hI.box
       go_wp2_with fail
       exact hK _ _ hI (Ja _ _) rfl
     refine mn 0 rfl (fun a' w' hI hag hf K hK=>?_) ?_
     ·obtain⟨⟨_,h2,rfl⟩,-⟩:ah _ _ a' w' [2]:=hf
      clear hag
      have HI:=jd hI
      have hk0:=hI.k0 rfl
      clear hI
      go_wp2_with fail
      refine(HWP.o _ hk0).mono ?_
      rintro x4 w4 ⟨v,rfl,hw4,hr4,hk4⟩
      go_wp2_with fail
      exact hK _ _ (HI.o.call hk4 hr4 hbg) hk4 (hw4.mono (fun i _ hi=>lt9 hk0.size hi))
     refine eO (by decide) (fun s a' w' hI hag hf K hK=>?_) ?_
     ·obtain⟨⟨_,h1,rfl⟩,⟨v3,h3,e3⟩,-⟩:ah _ _ a' w' [1,3]:=hf
      clear hag
      have hw7:NAt w' (fun i=>wC.heap.size≤i) v3 nd2:=e3
      obtain⟨uk,ub,us,uaa,uan,uac,uwa,uwn,uwc,ura,urn,urc,uka,ukn,ukc,rfl⟩:=hw7.agg
      have hz:=hI.k.size
      go_wp2_with fail
      exact hK _ _ (hI.au ((Ja _ _).alloc _)) ((Ja _ _).alloc _) ⟨_,uk,ub,us,uaa,uan,uac,uwa,uwn,uwc,ura,urn,urc,uka,ukn,ukc,rfl,hz,heap_alloc _ _,hw7.kept ((Ja _ _).alloc _) (fun _ _ h=>h)⟩
     refine eO (by decide) (fun s a' w' hI hag hf K hK=>?_) ?_
     ·obtain⟨⟨_,h0,rfl⟩,⟨v4,h4,e4⟩,-⟩:ah _ _ a' w' [0,4]:=hf
      clear hag
      obtain⟨bb,uk,ub,us,uaa,uan,uac,uwa,uwn,uwc,ura,urn,urc,uka,ukn,ukc,hv4,hbb,hbh,hu⟩:(vT g wC.heap.size hlC none [.int .i64 vk,.bool vb,.string (BA vn),.slice aa an ac,.slice wa wn wc,.slice ra rn rc,.slice ka kn kc] nd2).1 v4 w':=e4
      have hv4':v4= .slice (some ⟨bb,0,none⟩) 2 2:=hv4
      clear hv4
      subst hv4'
      go_wp2_with fail
      exact hK (.agg #[.int .i64 3,.bool false,.string ⟨#[]⟩,.slice none 0 0,.slice none 0 0,.slice none 0 0,.slice (some ⟨bb,0,none⟩) 2 2]) _ hI (Ja _ _) ⟨bb,uk,ub,us,uaa,uan,uac,uwa,uwn,uwc,ura,urn,urc,uka,ukn,ukc,rfl,hbb,hbh,hu⟩
     exact trivial
    case refine_3=>
     intro vs wz hI hvs
     have q3:=hvs 3 _ _ rfl rfl
     have q4:=hvs 4 _ _ rfl rfl
     have q5:=hvs 5 _ _ rfl rfl
     simp only[pzz,aW,Act.put,Nat.reduceAdd,rpv (hvs 0 _ _ rfl rfl) rfl,rpv (hvs 1 _ _ rfl rfl) rfl,rpv (hvs 2 _ _ rfl rfl) rfl]
     clear hvs
     generalize vs 3=x3 at*
     generalize vs 4=x4 at*
     generalize vs 5=x5 at*
     obtain⟨bb,uk,ub,us,uaa,uan,uac,uwa,uwn,uwc,ura,urn,urc,uka,ukn,ukc,hx5,hbb,hbh,hu⟩:(vT g wC.heap.size hlC (some 3) [.int .i64 vk,.bool vb,.string (BA vn),.slice aa an ac,.slice wa wn wc,.slice ra rn rc,.slice ka kn kc] nd2).1 x5 wz:=q5
     have hx5':x5= .agg #[.int .i64 3,.bool false,.string ⟨#[]⟩,.slice none 0 0,.slice none 0 0,.slice none 0 0,.slice (some ⟨bb,0,none⟩) 2 2]:=hx5
     subst hx5'
     have HI:=jd hI
     have HU:=jd hu
     have HBH:Hid (wz.heap[bb]? =some (.cells #[.int .i64 vk,.bool vb,.string (BA vn),.slice aa an ac,.slice wa wn wc,.slice ra rn rc,.slice ka kn kc,.int .i64 uk,.bool ub,.string (BA us),.slice uaa uan uac,.slice uwa uwn uwc,.slice ura urn urc,.slice uka ukn ukc] 27 (0,0))):=jd hbh
     obtain⟨⟨y0,y1,y2,y3,y4,y5,y6⟩,z0,z1,z2,z3,z4,z5,z6⟩:=NBx.cells hI.box
     have hblt:b<wz.heap.size:=av hI.box
     have HKZ:Hid (Kept (fun i=>i=g) wC wz):=jd (hI.k1 (Jb _))
     have HRZ:=jd (hI.p (Jb _))
     have HSB:Hid (Kept (fun i=>i=b) wz (st7 wz b (.int .i64 3) (.bool false) (.string ⟨#[]⟩) (.slice none 0 0) (.slice none 0 0) (.slice none 0 0) (.slice (some ⟨bb,0,none⟩) 2 2))):=jd (bu (Ja (fun i=>i=b) wz) (fun _=>rfl) _ _ _ _ _ _ _)
     have HBB:=jd (bS hI.box (.int .i64 3) (.bool false) (.string ⟨#[]⟩) (.slice none 0 0) (.slice none 0 0) (.slice none 0 0) (.slice (some ⟨bb,0,none⟩) 2 2))
     clear hI q3 q4 hu hbh hx5
     go_wp2_with fail
     obtain⟨wN,hwN⟩:∃W,st7 wz b (.int .i64 3) (.bool false) (.string ⟨#[]⟩) (.slice none 0 0) (.slice none 0 0) (.slice none 0 0) (.slice (some ⟨bb,0,none⟩) 2 2)=W:=⟨_,rfl⟩
     rw[hwN] at HSB HBB
     have hwN':=hwN
     simp only[st7] at hwN'
     rw[hwN']
     clear hwN hwN' y0 y1 y2 y3 y4 y5 y6 z0 z1 z2 z3 z4 z5 z6
     have HKN:Hid (Kept (fun i=>i=g∨i=b) wC wN):=jd ((HKZ.o.mono (S':=fun i=>i=g∨i=b) (fun _ _ h=>.inl h)).trans HSB.o (fun _ _ h=>.inr h))
     have HKWN:Hid (Kept (fun i=>i=g) w wN):=jd (HKC.o.trans HKN.o (fun i hi e=>by rcases e with e|e<;>first|exact e|(exfalso;omega)))
     go_roundg (p2.r.length)
     case measure=>have h1:=HL.o;have h2:=HGK.o;omega
     case rel=>
      have hbbb:bb≠b:=by omega
      have hbbg:bb≠g:=by omega
      have hnN:NAt wN (fun i=>w.heap.size+1≤i∧i≠b) (.agg #[.int .i64 vk,.bool vb,.string (BA vn),.slice aa an ac,.slice wa wn wc,.slice ra rn rc,.slice ka kn kc]) nd:=HVC.o.kept HKN.o (fun i hi e=>by have h1:=hi.1;have h2:=hi.2;rcases e with e|e<;>omega)
      have huN:NAt wN (fun i=>w.heap.size+1≤i∧i≠b) (.agg #[.int .i64 uk,.bool ub,.string (BA us),.slice uaa uan uac,.slice uwa uwn uwc,.slice ura urn urc,.slice uka ukn ukc]) nd2:=(HU.o.kept HSB.o (fun i hi e=>by have e':i=b:=e;have hi':wC.heap.size≤i:=hi;omega)).mono (fun i _ hi=>by have hi':wC.heap.size≤i:=hi;omega)
      have hkN:bJ wN (fun i=>w.heap.size+1≤i∧i≠b) (.slice (some ⟨bb,0,none⟩) 2 2) [nd,nd2]:=nf (HSB.o.heap HBH.o (fun e=>hbbb e)) hnN huN (by omega)
      refine⟨ndK 3 [nd,nd2],p2,3,false,[],none,0,0,none,0,0,none,0,0,some ⟨bb,0,none⟩,2,2,HBB.o,NAt.shut (n:=ndK 3 [nd,nd2]) (bT.nil _ _) (bT.nil _ _) (bT.nil _ _) hkN,?_,HKWN.o,HKN.o.heap HPRC.o (fun e=>by rcases e with e|e<;>omega),rfl,k,HL.o.2,HRUN.o⟩
      obtain⟨a,h1,h2⟩:=HRZ.o
      exact⟨a,h1,h2.kept HSB.o (fun e=>hbg e.symm) (fun i hi e=>by have e':i=b:=e;have:=HTB.o i hi;omega)⟩
   ·have h5:ag q=5:=by omega
    have hKe:K=4:=by rw[←hK,Js h4]
    subst hKe
    rw[Js h4,Jd h4] at HT4
    clear h45 h4 hK
    go_wp2_with fail
    refine HT4.o.mono ?_
    rintro e wA ⟨rfl,rA,kA⟩
    have HT5:=jd (fz T wA g d q rA 5 (by decide))
    rw[Jt h5,Jc h5] at HT5
    have KA5:=jd kA
    clear rA kA HT4 h5
    go_wp2_with fail
    refine HT5.o.mono ?_
    rintro e wB ⟨rfl,rB,kB⟩
    have HRPB:=jd rB
    have KWB:Hid (Kept (fun i=>i=g) wr wB):=jd (KA5.o.trans kB (fun _ _ h=>h))
    clear rB kB HT5 KA5
    go_wp2_with fail
    have HRE:=jd (fD T wB g d (aJ q) HRPB.o)
    rw[HP1.o] at HRE
    refine HRE.o.mono ?_
    rintro e wC ⟨rfl,rC,kC⟩
    have HRPC:=jd rC
    have KWC:Hid (Kept (fun i=>i=g) wr wC):=jd (KWB.o.trans kC (fun _ _ h=>h))
    have HKC:Hid (Kept (fun i=>i=g) w wC):=jd (HKW.o.trans KWC.o (fun _ _ h=>h))
    have HPRC:Hid (NBx wC w.heap.size zN):=jd (KWC.o.heap HPR.o (fun e=>by have e':w.heap.size=g:=e;omega))
    have BC:Hid (NBx wC b #[.int .i64 vk,.bool vb,.string (BA vn),.slice aa an ac,.slice wa wn wc,.slice ra rn rc,.slice ka kn kc]):=jd (KWC.o.heap HNX.o (fun e=>by have e':b=g:=e;omega))
    have HVC:Hid (NAt wC (fun i=>w.heap.size+1≤i∧i≠b) (.agg #[.int .i64 vk,.bool vb,.string (BA vn),.slice aa an ac,.slice wa wn wc,.slice ra rn rc,.slice ka kn kc]) nd):=jd (HV.o.kept KWC.o (fun i hi e=>by have e':i=g:=e;have:=hi.1;omega))
    have hlC:g<wC.heap.size:=HRPC.o.lt
    have hbC:b<wC.heap.size:=av BC.o
    have HEC:Hid (bW wC):=jd (HE.o.dz HKC.o HGN.o)
    have HWP:Hid (∀wx,Kept (fun _=>False) wC wx→Calls Tryz.prog 76 #[.pointer (some ⟨g,0,none⟩)] wx (NEl T wx g d nd2 p2)):=jd (fun wx hk=>HWQ.o wx (HRPC.o.au hk) (HEC.o.au hk))
    have hbg:b≠g:=by omega
    have hG:∀i,wC.heap.size≤i→¬i=g:=fun i hi e=>by omega
    clear rC kC HRE HRPB KWB HV HNX HPR HRP HKW HWQ KWC
    go_wp2_with fail
    refine gP 6 [3] (RdI wC T g d p2 0 b #[.int .i64 vk,.bool vb,.string (BA vn),.slice aa an ac,.slice wa wn wc,.slice ra rn rc,.slice ka kn kc]) (Kept fun i=>i=g) [rV (.int .i64 4),rV (.agg #[.int .i64 vk,.bool vb,.string (BA vn),.slice aa an ac,.slice wa wn wc,.slice ra rn rc,.slice ka kn kc]),rV (.pointer (some ⟨g,0,none⟩)),rEl eW (fun i=>i=g) (fun i=>wC.heap.size≤i) hG nd2,vT g wC.heap.size hlC none [.int .i64 vk,.bool vb,.string (BA vn),.slice aa an ac,.slice wa wn wc,.slice ra rn rc,.slice ka kn kc] nd2,vT g wC.heap.size hlC (some 4) [.int .i64 vk,.bool vb,.string (BA vn),.slice aa an ac,.slice wa wn wc,.slice ra rn rc,.slice ka kn kc] nd2] (by kernel_rfl) (by kernel_rfl) ?_ ?_ ?_
    case refine_1=>exact RdI.start BC.o
    case refine_2=>
     iterate 3
      refine eO (by decide) (fun s a' w' hI hag hf K hK=>?_) ?_
      ·have s0:=hag.same 0 (by decide)
       have s3:=hag.same 3 (by decide)
       have s4:=hag.same 4 (by decide)
       clear hag
       obtain⟨⟨y0,y1,y2,y3,y4,y5,y6⟩,-⟩:=NBx.cells hI.box
       go_wp2_with fail
       exact hK _ _ hI (Ja _ _) rfl
     refine mn 0 rfl (fun a' w' hI hag hf K hK=>?_) ?_
     ·obtain⟨⟨_,h2,rfl⟩,-⟩:ah _ _ a' w' [2]:=hf
      clear hag
      have HI:=jd hI
      have hk0:=hI.k0 rfl
      clear hI
      go_wp2_with fail
      refine(HWP.o _ hk0).mono ?_
      rintro x4 w4 ⟨v,rfl,hw4,hr4,hk4⟩
      go_wp2_with fail
      exact hK _ _ (HI.o.call hk4 hr4 hbg) hk4 (hw4.mono (fun i _ hi=>lt9 hk0.size hi))
     refine eO (by decide) (fun s a' w' hI hag hf K hK=>?_) ?_
     ·obtain⟨⟨_,h1,rfl⟩,⟨v3,h3,e3⟩,-⟩:ah _ _ a' w' [1,3]:=hf
      clear hag
      have hw7:NAt w' (fun i=>wC.heap.size≤i) v3 nd2:=e3
      obtain⟨uk,ub,us,uaa,uan,uac,uwa,uwn,uwc,ura,urn,urc,uka,ukn,ukc,rfl⟩:=hw7.agg
      have hz:=hI.k.size
      go_wp2_with fail
      exact hK _ _ (hI.au ((Ja _ _).alloc _)) ((Ja _ _).alloc _) ⟨_,uk,ub,us,uaa,uan,uac,uwa,uwn,uwc,ura,urn,urc,uka,ukn,ukc,rfl,hz,heap_alloc _ _,hw7.kept ((Ja _ _).alloc _) (fun _ _ h=>h)⟩
     refine eO (by decide) (fun s a' w' hI hag hf K hK=>?_) ?_
     ·obtain⟨⟨_,h0,rfl⟩,⟨v4,h4,e4⟩,-⟩:ah _ _ a' w' [0,4]:=hf
      clear hag
      obtain⟨bb,uk,ub,us,uaa,uan,uac,uwa,uwn,uwc,ura,urn,urc,uka,ukn,ukc,hv4,hbb,hbh,hu⟩:(vT g wC.heap.size hlC none [.int .i64 vk,.bool vb,.string (BA vn),.slice aa an ac,.slice wa wn wc,.slice ra rn rc,.slice ka kn kc] nd2).1 v4 w':=e4
      have hv4':v4= .slice (some ⟨bb,0,none⟩) 2 2:=hv4
      clear hv4
      subst hv4'
      go_wp2_with fail
      exact hK (.agg #[.int .i64 4,.bool false,.string ⟨#[]⟩,.slice none 0 0,.slice none 0 0,.slice none 0 0,.slice (some ⟨bb,0,none⟩) 2 2]) _ hI (Ja _ _) ⟨bb,uk,ub,us,uaa,uan,uac,uwa,uwn,uwc,ura,urn,urc,uka,ukn,ukc,rfl,hbb,hbh,hu⟩
     exact trivial
    case refine_3=>
     intro vs wz hI hvs
     have q3:=hvs 3 _ _ rfl rfl
     have q4:=hvs 4 _ _ rfl rfl
     have q5:=hvs 5 _ _ rfl rfl
     simp only[pzz,aW,Act.put,Nat.reduceAdd,rpv (hvs 0 _ _ rfl rfl) rfl,rpv (hvs 1 _ _ rfl rfl) rfl,rpv (hvs 2 _ _ rfl rfl) rfl]
     clear hvs
     generalize vs 3=x3 at*
     generalize vs 4=x4 at*
     generalize vs 5=x5 at*
     obtain⟨bb,uk,ub,us,uaa,uan,uac,uwa,uwn,uwc,ura,urn,urc,uka,ukn,ukc,hx5,hbb,hbh,hu⟩:(vT g wC.heap.size hlC (some 4) [.int .i64 vk,.bool vb,.string (BA vn),.slice aa an ac,.slice wa wn wc,.slice ra rn rc,.slice ka kn kc] nd2).1 x5 wz:=q5
     have hx5':x5= .agg #[.int .i64 4,.bool false,.string ⟨#[]⟩,.slice none 0 0,.slice none 0 0,.slice none 0 0,.slice (some ⟨bb,0,none⟩) 2 2]:=hx5
     subst hx5'
     have HI:=jd hI
     have HU:=jd hu
     have HBH:Hid (wz.heap[bb]? =some (.cells #[.int .i64 vk,.bool vb,.string (BA vn),.slice aa an ac,.slice wa wn wc,.slice ra rn rc,.slice ka kn kc,.int .i64 uk,.bool ub,.string (BA us),.slice uaa uan uac,.slice uwa uwn uwc,.slice ura urn urc,.slice uka ukn ukc] 27 (0,0))):=jd hbh
     obtain⟨⟨y0,y1,y2,y3,y4,y5,y6⟩,z0,z1,z2,z3,z4,z5,z6⟩:=NBx.cells hI.box
     have hblt:b<wz.heap.size:=av hI.box
     have HKZ:Hid (Kept (fun i=>i=g) wC wz):=jd (hI.k1 (Jb _))
     have HRZ:=jd (hI.p (Jb _))
     have HSB:Hid (Kept (fun i=>i=b) wz (st7 wz b (.int .i64 4) (.bool false) (.string ⟨#[]⟩) (.slice none 0 0) (.slice none 0 0) (.slice none 0 0) (.slice (some ⟨bb,0,none⟩) 2 2))):=jd (bu (Ja (fun i=>i=b) wz) (fun _=>rfl) _ _ _ _ _ _ _)
     have HBB:=jd (bS hI.box (.int .i64 4) (.bool false) (.string ⟨#[]⟩) (.slice none 0 0) (.slice none 0 0) (.slice none 0 0) (.slice (some ⟨bb,0,none⟩) 2 2))
     clear hI q3 q4 hu hbh hx5
     go_wp2_with fail
     obtain⟨wN,hwN⟩:∃W,st7 wz b (.int .i64 4) (.bool false) (.string ⟨#[]⟩) (.slice none 0 0) (.slice none 0 0) (.slice none 0 0) (.slice (some ⟨bb,0,none⟩) 2 2)=W:=⟨_,rfl⟩
     rw[hwN] at HSB HBB
     have hwN':=hwN
     simp only[st7] at hwN'
     rw[hwN']
     clear hwN hwN' y0 y1 y2 y3 y4 y5 y6 z0 z1 z2 z3 z4 z5 z6
     have HKN:Hid (Kept (fun i=>i=g∨i=b) wC wN):=jd ((HKZ.o.mono (S':=fun i=>i=g∨i=b) (fun _ _ h=>.inl h)).trans HSB.o (fun _ _ h=>.inr h))
     have HKWN:Hid (Kept (fun i=>i=g) w wN):=jd (HKC.o.trans HKN.o (fun i hi e=>by rcases e with e|e<;>first|exact e|(exfalso;omega)))
     go_roundg (p2.r.length)
     case measure=>have h1:=HL.o;have h2:=HGK.o;omega
     case rel=>
      have hbbb:bb≠b:=by omega
      have hbbg:bb≠g:=by omega
      have hnN:NAt wN (fun i=>w.heap.size+1≤i∧i≠b) (.agg #[.int .i64 vk,.bool vb,.string (BA vn),.slice aa an ac,.slice wa wn wc,.slice ra rn rc,.slice ka kn kc]) nd:=HVC.o.kept HKN.o (fun i hi e=>by have h1:=hi.1;have h2:=hi.2;rcases e with e|e<;>omega)
      have huN:NAt wN (fun i=>w.heap.size+1≤i∧i≠b) (.agg #[.int .i64 uk,.bool ub,.string (BA us),.slice uaa uan uac,.slice uwa uwn uwc,.slice ura urn urc,.slice uka ukn ukc]) nd2:=(HU.o.kept HSB.o (fun i hi e=>by have e':i=b:=e;have hi':wC.heap.size≤i:=hi;omega)).mono (fun i _ hi=>by have hi':wC.heap.size≤i:=hi;omega)
      have hkN:bJ wN (fun i=>w.heap.size+1≤i∧i≠b) (.slice (some ⟨bb,0,none⟩) 2 2) [nd,nd2]:=nf (HSB.o.heap HBH.o (fun e=>hbbb e)) hnN huN (by omega)
      refine⟨ndK 4 [nd,nd2],p2,4,false,[],none,0,0,none,0,0,none,0,0,some ⟨bb,0,none⟩,2,2,HBB.o,NAt.shut (n:=ndK 4 [nd,nd2]) (bT.nil _ _) (bT.nil _ _) (bT.nil _ _) hkN,?_,HKWN.o,HKN.o.heap HPRC.o (fun e=>by rcases e with e|e<;>omega),rfl,k,HL.o.2,HRUN.o⟩
      obtain⟨a,h1,h2⟩:=HRZ.o
      exact⟨a,h1,h2.kept HSB.o (fun e=>hbg e.symm) (fun i hi e=>by have e':i=b:=e;have:=HTB.o i hi;omega)⟩
  ·rw[Js h45] at hrun
   have HXE:Hid (x=⟨[nd],false,q⟩):=jd (Jw hrun).symm
   have HXN:Hid (x.ns=[nd]):=jd (by rw[HXE.o])
   have HXP:Hid (x.p=q):=jd (by rw[HXE.o])
   have h4:ag q≠4:=by omega
   have h5:ag q≠5:=by omega
   rw[Js h4,Jd h4] at HT4
   clear hnb hv hrp hkw hpr hgk hk hrun h45 h4
   go_wp2_with fail
   refine HT4.o.mono ?_
   rintro e wA ⟨rfl,rA,kA⟩
   have HT5:=jd (fz T wA g d q rA 5 (by decide))
   rw[Js h5,Jd h5] at HT5
   have KA5:=jd kA
   clear rA kA HT4 h5
   go_wp2_with fail
   refine HT5.o.mono ?_
   rintro e wN ⟨rfl,rN,kN⟩
   have HRPn:=jd rN
   have KWN:Hid (Kept (fun i=>i=g) wr wN):=jd (KA5.o.trans kN (fun _ _ h=>h))
   have HKF:Hid (Kept (fun i=>i=g) w wN):=jd (HKW.o.trans KWN.o (fun _ _ h=>h))
   have PRN:Hid (NBx wN w.heap.size zN):=jd (KWN.o.heap HPR.o (fun e=>by have e':w.heap.size=g:=e;omega))
   have BN:Hid (NBx wN b #[.int .i64 vk,.bool vb,.string (BA vn),.slice aa an ac,.slice wa wn wc,.slice ra rn rc,.slice ka kn kc]):=jd (KWN.o.heap HNX.o (fun e=>by have e':b=g:=e;omega))
   have HVN:Hid (NAt wN (fun i=>w.heap.size+1≤i) (.agg #[.int .i64 vk,.bool vb,.string (BA vn),.slice aa an ac,.slice wa wn wc,.slice ra rn rc,.slice ka kn kc]) nd):=jd ((HV.o.kept KWN.o (fun i hi e=>by have e':i=g:=e;have:=hi.1;omega)).mono (fun i _ hi=>hi.1))
   clear rN kN HT5 KA5 KWN HV HNX HPR HKW HRP
   obtain⟨⟨c0,c1,c2,c3,c4,c5,c6⟩,f0,f1,f2,f3,f4,f5,f6⟩:=NBx.cells PRN.o
   obtain⟨⟨e0,e1,e2,e3,e4,e5,e6⟩,-⟩:=NBx.cells BN.o
   have hltN:w.heap.size<wN.heap.size:=av PRN.o
   have K7:Hid (Kept (fun i=>i=w.heap.size) wN (st7 wN w.heap.size (.int .i64 vk) (.bool vb) (.string (BA vn)) (.slice aa an ac) (.slice wa wn wc) (.slice ra rn rc) (.slice ka kn kc))):=jd (bu (Ja (fun i=>i=w.heap.size) wN) (fun _=>rfl) _ _ _ _ _ _ _)
   have B7:=jd (bS PRN.o (.int .i64 vk) (.bool vb) (.string (BA vn)) (.slice aa an ac) (.slice wa wn wc) (.slice ra rn rc) (.slice ka kn kc))
   go_wp2_with fail
   refine bodyPost_ret (v:= .agg #[.int .i64 vk,.bool vb,.string (BA vn),.slice aa an ac,.slice wa wn wc,.slice ra rn rc,.slice ka kn kc]) ?_ rfl ?_
   ·exact results_cell_row rfl _ _ w.heap.size 27 _ (0,0) _ (by rfl) B7.o Tryz.underlying27 rfl (by kernel_rfl)
   exact cp HXN.o HVN.o (by rw[HXP.o];exact HRPn.o) HKF.o K7.o hgl HTB.o
