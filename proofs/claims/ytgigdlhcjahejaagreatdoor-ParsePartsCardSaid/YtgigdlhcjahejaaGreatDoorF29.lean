import Derived.Test.YtgigdlhcjahejaaGreatDoorF28
import Derived.ScopeJumps
set_option linter.all false
set_option maxHeartbeats 400000000
namespace Go.Proofs.YtgigdlhcjahejaaGreatDoor
open Go Go.RowKit Go.Lw
set_option maxRecDepth 100000
attribute [local go_sem] aA
def muR (T:TT) (g:Nat) (w:World):Nat:=match w.cell? ⟨g,1,none⟩ with
 |some (.int _ k)=>T.L.length -k.toNat
 |_=>0
theorem RP.mu {T:TT} {w:World} {g d:Nat} {p:Ps} (h:RP T w g d p):muR T g w=p.r.length:=by
 obtain⟨at_,hd,hr⟩:=h
 have hc:=hr.cells.1.2.1
 unfold muR
 rw[hc,←hd,Jo]
 rfl
section
variable {J:Act→World→Prop} {Q:Exit→Act→World→Prop} {a:Act} {w:World}
theorem qV (l:Nat):Exit.jump l J Q .ret a w=Q .ret a w:=rfl
theorem BG {l:Nat} {J':Act→World→Prop} (h:∀a w,J a w→J' a w):∀e a w,Exit.jump l J Q e a w→Exit.jump l J' Q e a w:=fun e a w hq=>by
 cases e with
 |goto l'=>exact⟨hq.1,h _ _ hq.2⟩
 |_=>exact hq
end
theorem pY {P:Program} {a:Act} {w:World} {Q:Exit→Act→World→Prop} {c rest:Code} (l:Nat) (J:Act→World→Prop) (μ:Act→World→Nat) (hf:findLabel c l=some (Code.skip.seq rest))
  (pass:∀a w,J a w→rest.wp P (Exit.jump l (fun a' w'=>J a' w'∧μ a' w'<μ a w) Q) a w) (first:(∀a w,J a w→rest.wp P (Exit.jump l J Q) a w)→c.wp P (Exit.jump l J Q) a w):(Code.scope c).wp P Q a w:=
 wp_scope_jumps l J μ hf (first fun a w h=>wp_mono (pass a w h) (BG fun _ _ h=>h.1)) (fun a w h=>wp_seq (wp_skip (pass a w h)))
theorem lR (w:World) (g j:Nat) (v:Value) (cs:Array Value) (ty:TypeId):((w.setCell ⟨g,j,none⟩ v).alloc (.cells cs ty)).heap[w.heap.size]? =some (.cells cs ty (0,0)):=by
 have hz:(w.setCell ⟨g,j,none⟩ v).heap.size=w.heap.size:=by simp[World.setCell]
 have h:=heap_alloc (w.setCell ⟨g,j,none⟩ v) (.cells cs ty)
 rw[hz] at h
 exact h
def PiI (T:TT) (w:World) (g d n:Nat) (y:Rd9) (ng:Bool) (b:Nat) (wx:World):Prop:=
 ∃(acc:List Nd) (q:Ps) (F:Nat→Prop) (vk:Value),NB wx (w.heap.size+1) b F 2 ng [] (.slice none 0 0) (.slice none 0 0) (.slice none 0 0) vk [] [] [] acc∧RP T wx g d q∧Kept (fun i=>i=g) w wx∧NBx wx w.heap.size zN∧acc.length+q.r.length≤2048∧∃k,k≤n∧run k (.pipeL d acc q)=some y
def PiJ (T:TT) (w:World) (g d n:Nat) (y:Rd9) (ng:Bool) (a:Act) (wx:World):Prop:=
 ∃b:Nat,(∃u4 u5 u6 u7 u8 u9 u10 u11 u12 u13 u14 u15 u16 u17 u18 u19 u20 u21 u22 u23 u24 u25 u26 u27 u28 u29 u30 u31 u32 u33 u34 u35 u36 u37 u38 u39 u40 u41:Value,a={tmps:=#[.pointer (some ⟨g,0,none⟩),undef,.pointer (some ⟨w.heap.size,0,none⟩),.pointer (some ⟨b,0,none⟩),u4,u5,u6,u7,u8,u9,u10,u11,u12,u13,u14,u15,u16,u17,u18,u19,u20,u21,u22,u23,u24,u25,u26,u27,u28,u29,u30,u31,u32,u33,u34,u35,u36,u37,u38,u39,u40,u41],defers:=[]})∧PiI T w g d n y ng b wx
theorem Be (n:Nat) (HB:Hid (CJ 85 eR .command n)):CJ 76 eR .pipe (n+1):=by
 intro T w g d p x hx hp hE hgn ht
 rw[run] at hx
 obtain⟨y,hy,hX⟩:=Jh.1 hx
 obtain⟨ng,hng⟩:∃ng,decide (aI p=dx)=ng:=⟨_,rfl⟩
 obtain⟨p1,hp1⟩:∃p1,(if aI p=dx then aJ p else p)=p1:=⟨_,rfl⟩
 rw[hp1] at hy
 have hp1l:p1.r.length≤p.r.length:=by
  rw[←hp1]
  split
  ·exact vP p
  ·exact Jb _
 have HXN:Hid (x.ns=if ng=true then[.mk 2 true [] [] [] [] y.ns] else cR 2 y.ns):=jd (by
  rw[←hX,←hng]
  show(if _ then _ else _)=_
  by_cases h:aI p=dx
  ·rw[Jt h,Jt (Jc h)]
  ·rw[Js h,Js (by rw[Jd h];decide)])
 have HXP:Hid (x.p=y.p):=jd (by rw[←hX])
 have hpl:=hp.len
 have HPL:Hid (p1.r.length≤2048):=jd (by omega)
 have HY:=jd hy
 obtain⟨W0,hW0⟩:∃W0,w.alloc (.cells zN 27)=W0:=⟨_,rfl⟩
 have hs0:W0.heap.size=w.heap.size+1:=by rw[←hW0,World.size_alloc]
 have KA:Hid (Kept (fun _=>False) w W0):=jd (by rw[←hW0];exact(Ja _ w).alloc _)
 have PA:Hid (NBx W0 w.heap.size zN):=jd (by rw[←hW0];exact heap_alloc w _)
 have HW0:=jd hW0
 have hgl:=hp.lt
 have HE:=jd hE;have HGN:=jd hgn;have HTB:=jd ht
 have HP0:=jd (hp.au KA.o);have HE0:=jd (hE.au KA.o)
 have HS0:=jd hs0
 have HBC:=jd (fun(wx:World) (q:Ps) (z:Rd9) (nd:Nd) (hz:run n (.command d q)=some z) (hn:z.ns=[nd]) (hr:RP T wx g d q) (he:bW wx)=>(HB.o T wx g d q z hz hr he HGN.o HTB.o).mono (fun e w' h=>fN hn rfl h))
 have HGL:Hid (g<w.heap.size+1):=jd (by omega)
 have HRS:=jd (ib T W0 g d p HP0.o HE0.o)
 have HNG:=jd hng;have HP1:=jd hp1
 clear hx hp hE hgn ht hW0 hy hX hng hp1 hp1l hpl
 go_enter Tryz.func76,Tryz.ntmps76
 go_wp2_with fail
 refine pY 0 (PiJ T w g d n y ng) (fun _ w'=>muR T g w') rfl ?_ ?_
 ·intro a wr hJ
  obtain⟨b,⟨u4,u5,u6,u7,u8,u9,u10,u11,u12,u13,u14,u15,u16,u17,u18,u19,u20,u21,u22,u23,u24,u25,u26,u27,u28,u29,u30,u31,u32,u33,u34,u35,u36,u37,u38,u39,u40,u41,rfl⟩,acc,q,Fq,vk,hnb,hrp,hkw,hpr,hlen,k,hk,hrun⟩:=hJ
  have HMU:Hid (muR T g wr=q.r.length):=jd hrp.mu
  cases k with
  |zero=>cases hrun
  |succ k=>
  rw[run] at hrun
  obtain⟨z,hz,hrun⟩:=Ji.1 hrun
  obtain⟨nd,hn1⟩:=(cJ _ _ _ hz).1 trivial
  have hl1:z.p.r.length≤q.r.length:=eF _ _ _ hz
  have hz':=aM.le hz (show k≤n by omega)
  obtain⟨p2,hp2⟩:∃p2,z.p=p2:=⟨_,rfl⟩
  rw[hp2] at hl1
  rw[hn1,hp2] at hrun
  have HRUN:=jd hrun
  have HNB:=jd hnb;have HRP:=jd hrp;have HKW:=jd hkw;have HPR:=jd hpr
  have HEr:Hid (bW wr):=jd (HE.o.dz hkw HGN.o)
  have HML:Hid (acc.length≤5000):=jd (by omega)
  have HWP:Hid (∀wx,Kept (fun _=>False) wr wx→Calls Tryz.prog 85 #[.pointer (some ⟨g,0,none⟩)] wx (NEl T wx g d nd p2)):=jd (fun wx hk=>hp2▸HBC.o wx q z nd hz' hn1 (HRP.o.au hk) (HEr.o.au hk))
  have HLEN:Hid (acc.length+q.r.length≤2048∧p2.r.length≤q.r.length∧k≤n):=jd ⟨hlen,hl1,by omega⟩
  rw[HMU.o]
  clear hnb hrp hkw hpr hlen hk hrun hz hn1 hl1 hz' hp2 HRS HP0 HE0 KA PA HW0 HS0 HY HP1 hs0
  go_wp2_with fail
  have hnra:=HNB.o
  obtain⟨raa,rcpa,hsla,hrla⟩:=hnra.rk.slice
  obtain⟨ma,hma⟩:∃m,(acc).length=m:=⟨_,rfl⟩
  rw[hma] at hsla hrla
  subst hsla
  have hloba:=HNB.o.lob
  have hgla:=HGL.o
  have hbga:b≠g:=by omega
  obtain⟨psa,hpsa,howna,hela⟩:=hnra.rk
  have HMa:=jd hma
  rw[hma] at howna
  have HOWNa:=jd howna;have HPSa:=jd hpsa;have HELa:=jd hela
  have hmla:ma≤5000:=by have h9:=HML.o;omega
  have hSSa:∀i,wr.heap.size≤i→¬duS (fun i=>i=g) (blk (.slice raa ma rcpa)) i:=fun i hi e=>by
   rcases e with e|e
   ·have e':i=g:=e;have:=HNB.o.lt;have:=HRP.o.lt;omega
   ·have:=df HOWNa.o i e;omega
  have hb1a:¬(b=g):=hbga
  have hPra:∀(v:Value) (wx wy:World),Kept (fun i=>i=g) wx wy→(∃F',NB wx (w.heap.size+1) b F' 2 ng [] (.slice none 0 0) (.slice none 0 0) (.slice none 0 0) v [] [] [] (acc++[nd]))→∃F',NB wy (w.heap.size+1) b F' 2 ng [] (.slice none 0 0) (.slice none 0 0) (.slice none 0 0) v [] [] [] (acc++[nd]):=fun v wx wy hk ⟨F',h⟩=>⟨F',h.kept hk (fun i hi e=>by have e':i=g:=e;have:=HGL.o;omega)⟩
  clear hnra hpsa howna hela hma
  refine cS 7 3 5 (fun i=>i=g) (blk (.slice raa ma rcpa)) (RdI wr T g d p2 (w.heap.size+1) b #[.int .i64 2,.bool ng,.string (BA []),(.slice none 0 0),(.slice none 0 0),(.slice none 0 0),(.slice raa ma rcpa)]) (jV (fun i=>i=g) b 6 hb1a (fun v wq=>∃F',NB wq (w.heap.size+1) b F' 2 ng [] (.slice none 0 0) (.slice none 0 0) (.slice none 0 0) v [] [] [] (acc++[nd])) hPra) [rV (.pointer (some ⟨b,6,none⟩)),rV (.slice raa ma rcpa),rV (.pointer (some ⟨g,0,none⟩)),rEl eW (duS (fun i=>i=g) (blk (.slice raa ma rcpa))) (fun i=>wr.heap.size≤i) hSSa nd,tS eW NC 27 (duS (fun i=>i=g) (blk (.slice raa ma rcpa))) (fun i=>wr.heap.size≤i) hSSa nd,rV (.bool true),rV (.pointer (some ⟨b,6,none⟩))] (by kernel_rfl) (by kernel_rfl) ?_ ?_ ?_
  case refine_1=>exact RdI.start HNB.o.box
  case refine_2=>
   iterate 3
    refine dY (by decide) (by kernel_rfl) (fun s hs1 a' w' hI hag hf K hK=>?_) ?_
    ·obtain⟨⟨_,h0,rfl⟩,-⟩:=hf
     have s0:=hag.same 0 (by decide)
     have s3:=hag.same 3 (by decide)
     clear hag
     obtain⟨⟨y0,y1,y2,y3,y4,y5,y6⟩,-⟩:=NBx.cells hI.box
     go_wp2_with fail
     exact hK _ _ hI (Ja _ _) rfl
   refine jK (by decide) (fun a' w' hI hag hf K hK=>?_) ?_
   ·obtain⟨⟨_,h2,rfl⟩,-⟩:ah _ _ a' w' [2]:=hf
    clear hag
    have HI:=jd hI
    have hk0:=hI.k0 rfl
    clear hI
    go_wp2_with fail
    refine(HWP.o _ hk0).mono ?_
    rintro x w4 ⟨v,rfl,hw4,hr4,hk4⟩
    go_wp2_with fail
    exact hK _ _ (HI.o.call hk4 hr4 hbga) hk4 (hw4.mono (fun i _ hi=>lt9 hk0.size hi))
   refine dY (by decide) (by kernel_rfl) (fun s hs1 a' w' hI hag hf K hK=>?_) ?_
   ·obtain⟨⟨v3,h3,e3⟩,-⟩:ah _ _ a' w' [3]:=hf
    clear hag
    have hw7:NAt w' (fun i=>wr.heap.size≤i) v3 nd:=e3
    obtain⟨uk,ub,us,uaa,uan,uac,uwa,uwn,uwc,ura,urn,urc,uka,ukn,ukc,rfl⟩:=hw7.agg
    have hz:=hI.k.size
    go_wp2_with fail
    exact hK _ _ (hI.au ((Ja _ _).alloc _)) ((Ja _ _).alloc _) ⟨_,_,rfl,hz,heap_alloc _ _,hw7.kept ((Ja _ _).alloc _) (fun _ _ h=>h)⟩
   refine jS (fun a' w' hI hag hf K hK=>?_) ?_
   ·obtain⟨⟨_,h1,rfl⟩,⟨v4,h4,e4⟩,-⟩:ah _ _ a' w' [1,4,3]:=hf
    clear hag
    obtain⟨bb,u,rfl,hbb,hbh,hu⟩:∃bb u,v4= .slice (some ⟨bb,0,none⟩) 1 1∧wr.heap.size≤bb∧w'.heap[bb]? =some (.cells (NC (nd,u)).toArray 27 (0,0))∧NAt w' (fun i=>wr.heap.size≤i) u nd:=e4
    have hk1:=hI.k1 (Jb _)
    refine bg rfl _ _ _ rfl EKs (.slice raa ma rcpa) ma (psa.flatMap NC) (by simp[Act.eval,h1]) (bH hk1 HOWNa.o (fun i hi e=>absurd e ?_)) _ 1 (NC (nd,u)) (by simp[Act.eval,h4]) (fs (C:=NC) hbh hu.vc) (fun y hy=>?_) (by unfold maxLen;omega) (by omega) (fun ad9 cap9 w9 ho9 hg9 hf9=>?_)
    ·have h9:=(HNB.o.bk i hi).1;have:=HGL.o;intro e';have e2:i=g:=e';omega
    ·exact nT hu y hy
    have hk9:Kept (blk (.slice raa ma rcpa)) w' w9:=(Ja _ _).grown hg9 (fun i e _=>e)
    have ho9':w9.ownsRow 0 27 7 (.slice ad9 (ma+1) cap9) ((acc).length+1) (psa.flatMap NC++NC (nd,u)):=by rw[HMa.o];exact ho9
    have hpush:=(HNB.o.mL (S:=fun i=>i=g) HPSa.o HELa.o hk1 (fun i hi e=>by have e':i=g:=e;have:=HGL.o;omega) (x:=nd) (u:=u) (G:=fun i=>wr.heap.size≤i) hu (fun i hi=>hi) ho9' hg9 hf9).1
    exact hK _ _ (hI.app hk9 (fun i hi=>⟨(HNB.o.bk i hi).1,(HNB.o.bk i hi).2⟩) HGL.o (fun i hi=>Nat.lt_trans (HTB.o i hi) HGL.o)) hk9 ⟨_,hpush⟩
   refine eZ (by decide) (fun s a' w' hI hag hf K hK=>?_) ?_
   ·have s3:=hag.same 3 (by decide)
    clear hag
    go_wp2_with fail
    exact hK _ _ hI (Ja _ _) rfl
   exact trivial
  case refine_3=>
   intro vs wz hI hvs
   have q3:=hvs 3 _ _ rfl rfl
   have q4:=hvs 4 _ _ rfl rfl
   have q5:(jV (fun i=>i=g) b 6 hb1a (fun v wq=>∃F',NB wq (w.heap.size+1) b F' 2 ng [] (.slice none 0 0) (.slice none 0 0) (.slice none 0 0) v [] [] [] (acc++[nd])) hPra).1 (vs 5) wz:=hvs 5 _ _ rfl rfl
   simp only[pzz,aW,Act.put,Nat.reduceAdd,dpv (hvs 0 _ _ rfl rfl) (by decide) rfl,dpv (hvs 1 _ _ rfl rfl) (by decide) rfl,dpv (hvs 2 _ _ rfl rfl) (by decide) rfl,dpv (hvs 6 _ _ rfl rfl) (by decide) rfl]
   clear hvs
   generalize vs 3=x3 at*
   generalize vs 4=x4 at*
   generalize vs 5=x5 at*
   have HIa:=jd hI
   obtain⟨Fa,hnb⟩:∃F',NB (wz.setCell ⟨b,6,none⟩ x5) (w.heap.size+1) b F' 2 ng [] (.slice none 0 0) (.slice none 0 0) (.slice none 0 0) x5 [] [] [] (acc++[nd]):=q5
   obtain⟨za,zn,zc,rfl⟩:∃a n c,x5= .slice a n c:=by obtain⟨a,c,e,_⟩:=hnb.rk.slice;exact⟨a,_,c,e⟩
   obtain⟨⟨y0,y1,y2,y3,y4,y5,y6⟩,z0,z1,z2,z3,z4,z5,z6⟩:=NBx.cells hI.box
   have hblta:b<wz.heap.size:=av hI.box
   have HNBa:=jd hnb
   have HRPa:Hid (RP T (wz.setCell ⟨b,6,none⟩ (.slice za zn zc)) g d p2):=jd (by
    obtain⟨a,h1,h2⟩:=HIa.o.p (by decide)
    have kS:Kept (fun i=>i=b) wz (wz.setCell ⟨b,6,none⟩ (.slice za zn zc)):=(Ja (fun i=>i=b) wz).set b 6 (fun _=>rfl) _
    exact⟨a,h1,h2.kept kS (fun e=>hbga e.symm) (fun i hi e=>by have e':i=b:=e;have:=HTB.o i hi;omega)⟩)
   have HKWa:Hid (Kept (fun i=>i=g∨(w.heap.size+1)≤i) wr (wz.setCell ⟨b,6,none⟩ (.slice za zn zc))):=jd (HIa.o.k.set b 6 (fun _=>.inr hloba) _)
   clear hI q3 q4 hnb
   go_wp2_with fail
   obtain⟨wA,hwA⟩:∃W,wz.setCell ⟨b,6,none⟩ (.slice za zn zc)=W:=⟨_,rfl⟩
   rw[hwA] at HNBa HRPa HKWa⊢
   clear y0 y1 y2 y3 y4 y5 y6 z0 z1 z2 z3 z4 z5 z6 hwA HIa hblta
   have HKA:Hid (Kept (fun i=>i=g) w wA):=jd (HKW.o.trans HKWa.o (fun i hi e=>by rcases e with e|e<;>first|exact e|(exfalso;omega)))
   have HPRA:Hid (NBx wA w.heap.size zN):=jd (HKWa.o.heap HPR.o (fun e=>by rcases e with e|e<;>first|omega|(have e':w.heap.size=g:=e;omega)))
   have HTK:=jd (fz T wA g d p2 HRPa.o 6 (by decide))
   clear HNB HRP HKW HPR HWP HML HEr HKWa
   by_cases h6:ag p2=6
   ·have HRUN2:Hid (run k (.pipeL d (acc++[nd]) (aD (aJ p2)))=some y):=jd (by have h:=HRUN.o;rw[Jt h6] at h;exact h)
    have HTL:Hid ((aD (aJ p2)).r.length<p2.r.length):=jd (Nat.lt_of_le_of_lt (pV _) (by have:=gh (p:=p2) (by omega);omega))
    rw[Jt h6,Jc h6] at HTK
    clear h6
    refine HTK.o.mono ?_
    rintro e wB ⟨rfl,rB,kB⟩
    have KB:=jd kB
    have HRE:=jd (fD T wB g d (aJ p2) rB)
    clear rB kB HTK
    go_wp2_with fail
    refine HRE.o.mono ?_
    rintro e wC ⟨rfl,rC,kC⟩
    have KAC:Hid (Kept (fun i=>i=g) wA wC):=jd (KB.o.trans kC (fun _ _ h=>h))
    have RC:=jd rC
    clear rC kC KB HRE
    go_wp2_with fail
    go_step3
    show 0=0∧(PiJ T w g d n y ng _ _∧muR T g wC<q.r.length)
    refine⟨rfl,⟨b,⟨_,_,_,_,_,_,_,_,_,_,_,_,_,_,_,_,_,_,_,_,_,_,_,_,_,_,_,_,_,_,_,_,_,_,_,_,_,_,rfl⟩,acc++[nd],aD (aJ p2),Fa,_,HNBa.o.kept KAC.o (fun i hi e=>by have e':i=g:=e;have:=HGL.o;omega),RC.o,HKA.o.trans KAC.o (fun _ _ h=>h),KAC.o.heap HPRA.o (fun e=>by have e':w.heap.size=g:=e;omega),by have h1:=HTL.o;have h2:=HLEN.o;simp only[Jf,Jg,Jn];omega,k,by have h2:=HLEN.o;omega,HRUN2.o⟩,by rw[RC.o.mu];have h1:=HTL.o;have h2:=HLEN.o;omega⟩
   ·have HYE:Hid (y=⟨acc++[nd],false,p2⟩):=jd (by have h:=HRUN.o;rw[Js h6] at h;exact(Jw h).symm)
    rw[Js h6,Jd h6] at HTK
    clear h6
    refine HTK.o.mono ?_
    rintro e wN ⟨rfl,rN,kN⟩
    have HRPn:=jd rN
    have HNBn:=jd (HNBa.o.kept kN (fun i hi e=>by have e':i=g:=e;have:=HGL.o;omega))
    have HKF:Hid (Kept (fun i=>i=g) w wN):=jd (HKA.o.trans kN (fun _ _ h=>h))
    have PRN:Hid (NBx wN w.heap.size zN):=jd (kN.heap HPRA.o (fun e=>by have e':w.heap.size=g:=e;omega))
    have HXP2:Hid (x.p=p2):=jd (by rw[HXP.o,HYE.o])
    have HXN2:Hid (x.ns=if ng=true then[.mk 2 true [] [] [] [] (acc++[nd])] else cR 2 (acc++[nd])):=jd (by rw[HXN.o,HYE.o])
    replace HXP:=HXP2
    obtain⟨vk9,hvk9⟩:∃v,Value.slice za zn zc=v:=⟨_,rfl⟩
    rw[hvk9] at HNBn
    obtain⟨ta,tc,htt,_⟩:=HNBn.o.rk.slice
    obtain⟨tn,htn⟩:∃tn,(acc++[nd]).length=tn:=⟨_,rfl⟩
    have HTN:=jd htn
    rw[htn] at htt
    clear hvk9
    subst htt
    have htn9:tn≤5000:=by have h2:=HLEN.o;rw[Jf] at htn;simp at htn;omega
    clear rN kN htn HTK HNBa HRPa HKA HPRA HYE HRUN HXN HXP2
    obtain⟨⟨c0,c1,c2,c3,c4,c5,c6⟩,f0,f1,f2,f3,f4,f5,f6⟩:=NBx.cells PRN.o
    obtain⟨⟨e0,e1,e2,e3,e4,e5,e6⟩,-⟩:=NBx.cells HNBn.o.box
    have hltN:w.heap.size<wN.heap.size:=av PRN.o
    by_cases h1:tn=1∧ng=false
    ·obtain⟨h1,h2⟩:=h1
     have hacc:acc=[]:=by
      have h3:=HTN.o
      rw[Jf] at h3
      cases acc with
      |nil=>rfl
      |cons a l=>simp at h3;omega
     have HXN:Hid (x.ns=[nd]):=jd (by rw[HXN2.o,h2,hacc];rfl)
     have HKS:Hid (bJ wN (fun i=>w.heap.size+1≤i) (.slice ta tn tc) (acc++[nd])):=jd (um HNBn.o.rk (fun i hi=>(HNBn.o.f i hi).1) (fun i hi=>(HNBn.o.bk i hi).1))
     obtain⟨eb,off,aa,an,ac,wa,wn,wc,ra,rn,rc,ka,kn,kc,eta,g0,g1,g2,g3,g4,g5,g6,hnv⟩:=HKS.o.elem (k:=0) (n:=nd) (by rw[hacc];rfl)
     have HNV:=jd hnv
     obtain⟨vk,vb,vs,ws,al,rs,ks⟩:=nd
     simp only[Nat.zero_mul,Nat.add_zero,Nd.kind,Nd.neg,Nd.name] at g0 g1 g2 g3 g4 g5 g6
     subst eta
     subst h1
     subst h2
     have hbl:eb<wN.heap.size:=World.block_lt_of_cell? wN _ g0
     clear hnv hacc HTN HXN2
     have K7:Hid (Kept (fun i=>i=w.heap.size) wN (st7 wN w.heap.size (.int .i64 vk) (.bool vb) (.string (BA vs)) (.slice aa an ac) (.slice wa wn wc) (.slice ra rn rc) (.slice ka kn kc))):=jd (bu (Ja (fun i=>i=w.heap.size) wN) (fun _=>rfl) _ _ _ _ _ _ _)
     have B7:=jd (bS PRN.o (.int .i64 vk) (.bool vb) (.string (BA vs)) (.slice aa an ac) (.slice wa wn wc) (.slice ra rn rc) (.slice ka kn kc))
     go_wp2_with fail
     rw[qV]
     refine bodyPost_ret (v:= .agg #[.int .i64 vk,.bool vb,.string (BA vs),.slice aa an ac,.slice wa wn wc,.slice ra rn rc,.slice ka kn kc]) ?_ rfl ?_
     ·exact results_cell_row rfl _ _ w.heap.size 27 _ (0,0) _ (by rfl) B7.o Tryz.underlying27 rfl (by kernel_rfl)
     exact cp HXN.o HNV.o (by rw[HXP.o];exact HRPn.o) HKF.o K7.o hgl HTB.o
    ·have HXN:Hid (x.ns=[.mk 2 ng [] [] [] [] (acc++[nd])]):=jd (by
      rw[HXN2.o]
      cases ng with
      |true=>rfl
      |false=>
       have h3:(acc++[nd]).length≠1:=fun e=>h1 ⟨by rw[←HTN.o];exact e,rfl⟩
       show cR 2 (acc++[nd])=_
       unfold cR
       split
       ·rename_i u e;rw[e] at h3;exact absurd rfl h3
       ·rfl)
     have d1:((tn:Int)==1)=decide (tn=1):=by
      by_cases h:tn=1
      ·rw[h];rfl
      ·rw[Jd h];apply Jq.2;omega
     have K7:Hid (Kept (fun i=>i=w.heap.size) wN (st7 wN w.heap.size (.int .i64 2) (.bool ng) (.string (BA [])) (.slice none 0 0) (.slice none 0 0) (.slice none 0 0) (.slice ta tn tc))):=jd (bu (Ja (fun i=>i=w.heap.size) wN) (fun _=>rfl) _ _ _ _ _ _ _)
     have B7:=jd (bS PRN.o (.int .i64 2) (.bool ng) (.string (BA [])) (.slice none 0 0) (.slice none 0 0) (.slice none 0 0) (.slice ta tn tc))
     clear HXN2 HTN
     by_cases h2:tn=1
     ·have h3:ng=true:=by cases ng with|true=>rfl|false=>exact absurd ⟨h2,rfl⟩ h1
      have d2:((tn:Int)==1)=true:=by rw[h2];rfl
      have d3:(tn==1)=true:=by rw[h2];rfl
      subst h3
      clear h1 h2 d1
      go_wp2_with fail
      rw[qV]
      refine bodyPost_ret (v:= .agg #[.int .i64 2,.bool true,.string (BA []),.slice none 0 0,.slice none 0 0,.slice none 0 0,.slice ta tn tc]) ?_ rfl ?_
      ·exact results_cell_row rfl _ _ w.heap.size 27 _ (0,0) _ (by rfl) B7.o Tryz.underlying27 rfl (by kernel_rfl)
      exact cp HXN.o HNBn.o.at (by rw[HXP.o];exact HRPn.o) HKF.o K7.o hgl HTB.o
     ·have d2:((tn:Int)==1)=false:=by apply Jq.2;omega
      have d3:(tn==1)=false:=by apply Jq.2;exact h2
      clear h1 h2 d1
      go_wp2_with fail
      rw[qV]
      refine bodyPost_ret (v:= .agg #[.int .i64 2,.bool ng,.string (BA []),.slice none 0 0,.slice none 0 0,.slice none 0 0,.slice ta tn tc]) ?_ rfl ?_
      ·exact results_cell_row rfl _ _ w.heap.size 27 _ (0,0) _ (by rfl) B7.o Tryz.underlying27 rfl (by kernel_rfl)
      exact cp HXN.o HNBn.o.at (by rw[HXP.o];exact HRPn.o) HKF.o K7.o hgl HTB.o
 ·intro again
  go_wp2_with fail
  rw[HW0.o]
  by_cases hv:aI p=dx
  ·have hngt:ng=true:=by rw[←HNG.o];exact Jc hv
   subst hngt
   have HP1E:Hid (p1=aJ p):=jd (by rw[←HP1.o,Jt hv])
   have hk1:ag p≠0:=by rw[cK (by rw[hv];decide)];decide
   have HNX:=jd (fun(wx:World) (hk:Kept (fun _=>False) W0 wx)=>(HP0.o.au hk).next hk1)
   rw[hv] at HRS
   have f0:(BA dx==(⟨#[33]⟩:ByteArray))=true:=(bU [33] [33]).trans (by decide)
   have e0:(dx==[33])=true:=by decide
   obtain⟨rv,hrv⟩:∃rv,dx=rv:=⟨_,rfl⟩
   rw[hrv] at HRS f0 e0
   clear hv hk1 hrv
   refine HRS.o.mono ?_
   rintro e wD ⟨rfl,kD⟩
   have KD:=jd kD
   obtain⟨at_,a1,a2,a3,a4,RS,KS⟩:=HNX.o wD kD
   have hzD:=kD.size
   clear kD HNX HRS
   go_wp2_with fail
   obtain⟨WE,hWE⟩:∃WE,(wD.setCell ⟨g,1,none⟩ (.int .i64 ((at_:Int)+1))).alloc (.cells #[.int .i64 2,.bool true,.string ⟨#[]⟩,.slice none 0 0,.slice none 0 0,.slice none 0 0,.slice none 0 0] 27)=WE:=⟨_,rfl⟩
   have KE:Hid (Kept (fun _=>False) (wD.setCell ⟨g,1,none⟩ (.int .i64 ((at_:Int)+1))) WE):=jd (by rw[←hWE];exact(Ja _ _).alloc _)
   have BE:Hid (NBx WE wD.heap.size #[.int .i64 2,.bool true,.string (BA []),.slice none 0 0,.slice none 0 0,.slice none 0 0,.slice none 0 0]):=jd (by rw[←hWE];exact lR _ _ _ _ _ _)
   rw[hWE]
   have KDE:Hid (Kept (fun i=>i=g) W0 WE):=jd (((KD.o.mono (S':=fun i=>i=g) (fun _ _ h=>h.elim)).trans KS.o (fun _ _ h=>h)).trans KE.o (fun _ _ h=>h.elim))
   go_step3
   rename_i hK9
   refine hK9 _ _ (again _ _ ⟨wD.heap.size,⟨_,_,_,_,_,_,_,_,_,_,_,_,_,_,_,_,_,_,_,_,_,_,_,_,_,_,_,_,_,_,_,_,_,_,_,_,_,_,rfl⟩,[],p1,fun _=>False,.slice none 0 0,NB.init _ _ _ _ _ _ BE.o (by have:=HS0.o;omega),by rw[HP1E.o];exact RS.o.au KE.o,(KA.o.mono (S':=fun i=>i=g) (fun _ _ h=>h.elim)).trans KDE.o (fun _ _ h=>h),KDE.o.heap PA.o (fun e=>by have e':w.heap.size=g:=e;omega),by have:=HPL.o;simp;omega,n,Jb _,HY.o⟩)
  ·have hngt:ng=false:=by rw[←HNG.o];exact Jd hv
   subst hngt
   have HP1E:Hid (p1=p):=jd (by rw[←HP1.o,Js hv])
   obtain⟨rv,hrv⟩:∃rv,aI p=rv:=⟨_,rfl⟩
   rw[hrv] at HRS hv
   have f0:(BA rv==(⟨#[33]⟩:ByteArray))=false:=(bU rv [33]).trans (by simpa[dx] using hv)
   have e0:(rv==[33])=false:=by simpa[dx] using hv
   clear hv hrv
   refine HRS.o.mono ?_
   rintro e wD ⟨rfl,kD⟩
   have KD:=jd kD
   have hzD:=kD.size
   clear kD HRS
   go_wp2_with fail
   obtain⟨WE,hWE⟩:∃WE,wD.alloc (.cells #[.int .i64 2,.bool false,.string ⟨#[]⟩,.slice none 0 0,.slice none 0 0,.slice none 0 0,.slice none 0 0] 27)=WE:=⟨_,rfl⟩
   have KE:Hid (Kept (fun _=>False) wD WE):=jd (by rw[←hWE];exact(Ja _ _).alloc _)
   have BE:Hid (NBx WE wD.heap.size #[.int .i64 2,.bool false,.string (BA []),.slice none 0 0,.slice none 0 0,.slice none 0 0,.slice none 0 0]):=jd (by rw[←hWE];exact heap_alloc wD _)
   rw[hWE]
   have KDE:Hid (Kept (fun _=>False) W0 WE):=jd (KD.o.trans KE.o (fun _ _ h=>h))
   go_step3
   rename_i hK9
   refine hK9 _ _ (again _ _ ⟨wD.heap.size,⟨_,_,_,_,_,_,_,_,_,_,_,_,_,_,_,_,_,_,_,_,_,_,_,_,_,_,_,_,_,_,_,_,_,_,_,_,_,_,rfl⟩,[],p1,fun _=>False,.slice none 0 0,NB.init _ _ _ _ _ _ BE.o (by have:=HS0.o;omega),by rw[HP1E.o];exact HP0.o.au KDE.o,(KA.o.trans KDE.o (fun _ _ h=>h)).mono (fun _ _ h=>h.elim),KDE.o.heap PA.o (fun h=>h),by have:=HPL.o;simp;omega,n,Jb _,HY.o⟩)
