import Derived.Test.YtgigdlhcjahejaaGreatDoorF47
import Derived.Test.YtgigdlhcjahejaaGreatDoorF40
import Derived.Test.YtgigdlhcjahejaaGreatDoorF25
set_option linter.all false
set_option maxHeartbeats 400000000
namespace Go.Proofs.YtgigdlhcjahejaaGreatDoor
open Go Go.RowKit Go.Lw
set_option maxRecDepth 100000
attribute [local go_sem] aA
def Ha (n0:Nat) (x:LP):fO:=⟨fun v w=>WAt w (fun i=>n0≤i) v x,fun _ _ _ hk h=>h.kept hk (fun _ _ h=>h)⟩
def FF (n0:Nat) (x:LP):fO:=
 ⟨fun v w=>∃bb u,v= .slice (some ⟨bb,0,none⟩) 1 1∧n0≤bb∧w.heap[bb]? =some (.cells #[u] 59 (0,0))∧WAt w (fun i=>n0≤i) u x,fun _ _ _ hk ⟨bb,u,h1,h2,h3,h4⟩=>⟨bb,u,h1,h2,hk.heap h3 (fun h=>h),h4.kept hk (fun _ _ h=>h)⟩⟩
def Gu (n0:Nat) (x:LP):fO:=⟨fun v w=>∃a c,v= .slice a 1 c∧mI w (fun i=>n0≤i) v [x],fun _ _ _ hk ⟨a,c,h1,h2⟩=>⟨a,c,h1,h2.kept hk (fun _ _ h=>h)⟩⟩
theorem BO (w:World) (s:LB):Calls Tryz.prog 38 #[.string (BA s)] w fun e w'=>∃v,e= .returned v∧WAt w' (fun i=>w.heap.size≤i) v (iS s)∧Kept (fun _=>False) w w':=by
 have H1:=jd (WAt.one w (.mk 1 s [] false) rfl)
 have K1:=jd ((Ja (fun _=>False) w).alloc (.cells #[.int .i64 1,.string (BA s),.slice none 0 0,.bool false] 101))
 go_enter Tryz.func38,Tryz.ntmps38
 go_wp2_with fail
 go_ret
 exact⟨_,rfl,H1.o.mono (fun i _ h=>h.1),K1.o⟩
def NMk (w:World) (nd:Nd) (e:Ending) (w':World):Prop:=∃v,e= .returned v∧NAt w' (fun i=>w.heap.size≤i) v nd∧Kept (fun _=>False) w w'
theorem Ek (w:World) (sb:Nat) (s:LB) (hb:w.heap[sb]? =some (.cells #[.string (BA s)] 9 (0,0))):
  Calls Tryz.prog 15 #[.slice (some ⟨sb,0,none⟩) 1 1] w (NMk w (dg s)):=by
 obtain⟨W0,hW0⟩:∃W0,w.alloc (.cells zN 27)=W0:=⟨_,rfl⟩
 have hs0:W0.heap.size=w.heap.size+1:=by rw[←hW0,World.size_alloc]
 have KA:Hid (Kept (fun _=>False) w W0):=jd (by rw[←hW0];exact(Ja _ w).alloc _)
 have PA:Hid (NBx W0 w.heap.size zN):=jd (by rw[←hW0];exact heap_alloc w _)
 have HW0:=jd hW0
 obtain⟨W1,hW1⟩:∃W1,W0.alloc (.cells #[.int .i64 1,.bool false,.string ⟨#[]⟩,.slice none 0 0,.slice none 0 0,.slice none 0 0,.slice none 0 0] 27)=W1:=⟨_,rfl⟩
 have K1:Hid (Kept (fun _=>False) W0 W1):=jd (by rw[←hW1];exact(Ja _ W0).alloc _)
 have B1:Hid (NBx W1 (w.heap.size+1) #[.int .i64 1,.bool false,.string (BA []),.slice none 0 0,.slice none 0 0,.slice none 0 0,.slice none 0 0]):=jd (by rw[←hs0,←hW1];exact heap_alloc W0 _)
 have HSB:=jd hb
 have hsb:=av hb
 have HPR0:Hid (NBx W1 w.heap.size zN):=jd (K1.o.heap PA.o (fun h=>h))
 have KA1:Hid (Kept (fun _=>False) w W1):=jd (KA.o.trans K1.o (fun _ _ h=>h))
 have HW1:=jd hW1
 clear hb hW0 hW1 hs0
 go_enter Tryz.func15,Tryz.ntmps15
 go_wp2_with fail
 rw[HW0.o,HW1.o]
 go_loopg [9] 1 (fun gk s9 wx=>Kept (fun i=>i=w.heap.size+1) W1 wx∧((gk=1∧s9= .int .i64 0∧NBx wx (w.heap.size+1) #[.int .i64 1,.bool false,.string (BA []),.slice none 0 0,.slice none 0 0,.slice none 0 0,.slice none 0 0])∨
  (gk=0∧s9= .int .i64 1∧∃a c,NBx wx (w.heap.size+1) #[.int .i64 1,.bool false,.string (BA []),.slice none 0 0,.slice a 1 c,.slice none 0 0,.slice none 0 0]∧mI wx (fun i=>w.heap.size+2≤i) (.slice a 1 c) [iS s])))
 case atStart=>exact⟨Ja _ _,.inl ⟨rfl,rfl,B1.o⟩⟩
 case round=>
  obtain⟨hk,⟨hgk,rfl,hbx⟩|⟨hgk,rfl,a,c,hbx,hws⟩⟩:=hrel
  ·have HK:=jd hk;have HBX:=jd hbx;have HGK:=jd hgk
   have hsl:=av (hk.heap (KA1.o.heap HSB.o (fun h=>h)) (fun e=>by have e':sb=w.heap.size+1:=e;omega))
   have sc:=aB (hk.heap (KA1.o.heap HSB.o (fun h=>h)) (fun e=>by have e':sb=w.heap.size+1:=e;omega)) 0
   have hz1:=hk.size
   have hzb:=av hbx
   clear hk hbx hgk
   go_wp2_with fail
   refine bG 7 [stV (.pointer (some ⟨w.heap.size+1,4,none⟩)),stV (.slice none 0 0),stV (.string (BA s)),Ha wr.heap.size (iS s),FF wr.heap.size (iS s),Gu wr.heap.size (iS s),stV (.pointer (some ⟨w.heap.size+1,4,none⟩))] (by kernel_rfl) (by kernel_rfl) ?_ ?_
   ·iterate 3
     refine ai (fun a' w' hI hag hf K hK=>?_) ?_
     ·obtain⟨⟨_,h0,rfl⟩,-⟩:=hf
      have s3:=hag.same 3 (by decide)
      have s5:=hag.same 5 (by decide)
      clear hag
      obtain⟨⟨y0,y1,y2,y3,y4,y5,y6⟩,-⟩:=NBx.cells (hI.heap HBX.o (fun h=>h))
      go_wp2_with fail
      exact hK _ _ hI (Ja _ _) rfl
    refine ai (fun a' w' hI hag hf K hK=>?_) ?_
    ·obtain⟨⟨_,h2,rfl⟩,-⟩:ah _ _ a' w' [2]:=hf
     clear hag
     go_wp2_with fail
     refine(BO _ s).mono ?_
     rintro e w4 ⟨v,rfl,hw4,hk4⟩
     have hz4:=hI.size
     go_wp2_with fail
     exact hK _ _ (hI.trans hk4 (fun _ _ h=>h)) hk4 (hw4.mono (fun i _ hi=>lt9 hz4 hi))
    refine ai (fun a' w' hI hag hf K hK=>?_) ?_
    ·obtain⟨⟨v3,h3,e3⟩,-⟩:ah _ _ a' w' [3]:=hf
     clear hag
     have hw7:WAt w' (fun i=>wr.heap.size≤i) v3 (iS s):=e3
     obtain⟨ua,un,uc,rfl⟩:=hw7.slice
     have hz4:=hI.size
     go_wp2_with fail
     exact hK _ _ (hI.alloc _) ((Ja _ _).alloc _) ⟨_,_,rfl,hz4,heap_alloc _ _,hw7.kept ((Ja _ _).alloc _) (fun _ _ h=>h)⟩
    refine ai (fun a' w' hI hag hf K hK=>?_) ?_
    ·obtain⟨⟨_,h1,rfl⟩,⟨v4,h4,e4⟩,-⟩:ah _ _ a' w' [1,4,3]:=hf
     clear hag
     obtain⟨bb,u,rfl,hbb,hbh,hu⟩:(FF wr.heap.size (iS s)).1 v4 w':=e4
     have hz4:=hI.size
     refine bg rfl _ _ _ rfl EWs (.slice none 0 0) 0 [] (by simp[Act.eval,h1]) (World.ownsRow_nil _ _ _ _) _ 1 (WC (iS s,u)) (by simp[Act.eval,h4]) (fs (C:=WC) hbh rfl) (fun y hy=>by rw[Jk.1 hy];exact nA hu) (by unfold maxLen;omega) (by omega) (fun ad9 cap9 w9 ho9 hg9 hf9=>?_)
     have hk9:Kept (fun _=>False) w' w9:=(Ja _ _).grown hg9 (fun i e _=>by cases e)
     have hb9:∀i,blk (.slice ad9 1 cap9) i→wr.heap.size≤i∧i<w9.heap.size:=fun i hi=>by
      have h2:=df ho9 i hi
      rcases hf9 i hi with e|e
      ·exact(dk e).elim
      ·exact⟨lt9 hz4 e,h2⟩
     exact hK _ _ (hI.trans hk9 (fun _ _ h=>h)) hk9 ⟨_,_,rfl,[(iS s,u)],rfl,Rd.own ho9,hb9,fun y hy=>by rw[Jk.1 hy];exact hu.kept hk9 (fun _ _ h=>h)⟩
    refine ai (fun a' w' hI hag hf K hK=>?_) ?_
    ·have s3:=hag.same 3 (by decide)
     clear hag
     go_wp2_with fail
     exact hK _ _ hI (Ja _ _) rfl
    exact trivial
   ·intro vs wz hI hvs
    have q3:=hvs 3 _ _ rfl rfl
    have q4:=hvs 4 _ _ rfl rfl
    have q5:=hvs 5 _ _ rfl rfl
    simp only[pzz,aW,Act.put,Nat.reduceAdd,spv (hvs 0 _ _ rfl rfl) rfl,spv (hvs 1 _ _ rfl rfl) rfl,spv (hvs 2 _ _ rfl rfl) rfl,spv (hvs 6 _ _ rfl rfl) rfl]
    clear hvs
    generalize vs 3=x3 at*
    generalize vs 4=x4 at*
    generalize vs 5=x5 at*
    obtain⟨za,zc,rfl,hws⟩:(Gu wr.heap.size (iS s)).1 x5 wz:=q5
    have HWS:=jd hws
    have HKZ:=jd hI
    have bz:=hI.heap HBX.o (fun h=>h)
    have HBZ:=jd bz
    obtain⟨⟨y0,y1,y2,y3,y4,y5,y6⟩,z0,z1,z2,z3,z4,z5,z6⟩:=NBx.cells bz
    have hblt:=av bz
    clear hI q3 q4 hws bz
    go_wp2_with fail
    go_roundg 0
    case measure=>have:=HGK.o;omega
    case rel=>
     have hks:Kept (fun i=>i=w.heap.size+1) wz (wz.setCell ⟨w.heap.size+1,4,none⟩ (.slice za 1 zc)):=(Ja (fun i=>i=w.heap.size+1) wz).set (w.heap.size+1) 4 (fun _=>rfl) _
     exact⟨(HK.o.trans HKZ.o (fun _ _ h=>h.elim)).trans hks (fun _ _ h=>h),.inr ⟨rfl,rfl,za,zc,(show NBx wz (w.heap.size+1) _ from HBZ.o).s4 _,(HWS.o.mono (fun i _ hi=>by have hi':wr.heap.size≤i:=hi;omega)).kept hks (fun i hi e=>by have e':i=w.heap.size+1:=e;have hi':w.heap.size+2≤i:=hi;omega)⟩⟩
  ·have HWS:=jd hws
   have PRN:Hid (NBx wr w.heap.size zN):=jd (hk.heap HPR0.o (fun e=>by have e':w.heap.size=w.heap.size+1:=e;omega))
   have HKR:Hid (Kept (fun _=>False) w wr):=jd (KA1.o.trans hk (fun i hi e=>by have e':i=w.heap.size+1:=e;omega))
   have HVN:Hid (NAt wr (fun i=>w.heap.size+1≤i) (.agg #[.int .i64 1,.bool false,.string (BA []),.slice none 0 0,.slice a 1 c,.slice none 0 0,.slice none 0 0]) (dg s)):=jd (NAt.shut (n:=dg s) (bT.nil _ _) (hws.mono (fun i _ hi=>by have hi':w.heap.size+2≤i:=hi;omega)) (bT.nil _ _) (bJ.nil _ _))
   obtain⟨⟨y0,y1,y2,y3,y4,y5,y6⟩,-⟩:=NBx.cells hbx
   obtain⟨⟨c0,c1,c2,c3,c4,c5,c6⟩,f0,f1,f2,f3,f4,f5,f6⟩:=NBx.cells PRN.o
   have hltN:w.heap.size<wr.heap.size:=av PRN.o
   have hltB:w.heap.size+1<wr.heap.size:=av hbx
   have K7:Hid (Kept (fun i=>i=w.heap.size) wr (st7 wr w.heap.size (.int .i64 1) (.bool false) (.string (BA [])) (.slice none 0 0) (.slice a 1 c) (.slice none 0 0) (.slice none 0 0))):=jd (bu (Ja (fun i=>i=w.heap.size) wr) (fun _=>rfl) _ _ _ _ _ _ _)
   have B7:=jd (bS PRN.o (.int .i64 1) (.bool false) (.string (BA [])) (.slice none 0 0) (.slice a 1 c) (.slice none 0 0) (.slice none 0 0))
   clear hk hbx hws hgk
   go_wp2_with fail
   refine bodyPost_ret (v:= .agg #[.int .i64 1,.bool false,.string (BA []),.slice none 0 0,.slice a 1 c,.slice none 0 0,.slice none 0 0]) ?_ rfl ?_
   ·exact results_cell_row rfl _ _ w.heap.size 27 _ (0,0) _ (by rfl) B7.o Tryz.underlying27 rfl (by kernel_rfl)
   exact⟨_,rfl,(HVN.o.kept K7.o (fun i hi e=>by have e':i=w.heap.size:=e;have hi':w.heap.size+1≤i:=hi;omega)).mono (fun i _ hi=>Nat.le_of_succ_le hi),HKR.o.trans K7.o (fun i hi e=>by have e':i=w.heap.size:=e;omega)⟩
theorem pJ (w:World) (s:LB) (n:Nd) (hr:Reads s (.ok n)) (hE:bW w) (hS:lP w) (hs9:s.length≤1000000):
  Calls Tryz.prog 9 #[.string (BA s)] w fun e w'=>∃(aa:Option Addr) (an ac:Nat) (wa:Option Addr) (wn wc:Nat) (ra:Option Addr) (rn rc:Nat) (ka:Option Addr) (kn kc:Nat),
   e= .returned (.tuple #[.agg #[.int .i64 n.kind,.bool n.neg,.string (BA n.name),.slice aa an ac,.slice wa wn wc,.slice ra rn rc,.slice ka kn kc],.int .i64 0])∧NAt w' (fun b=>w.heap.size≤b) (.agg #[.int .i64 n.kind,.bool n.neg,.string (BA n.name),.slice aa an ac,.slice wa wn wc,.slice ra rn rc,.slice ka kn kc]) n∧SmN n∧Kept (fun _=>False) w w':=by
 refine(mG w s hE hS hs9).mono ?_
 rintro e w' ⟨x,hx,hp,hk⟩
 obtain rfl:=hx.det hr
 obtain⟨v,rfl,hn,hsm⟩:=hp
 obtain⟨aa,an,ac,wa,wn,wc,ra,rn,rc,ka,kn,kc,rfl,_⟩:=hn.opens
 exact⟨aa,an,ac,wa,wn,wc,ra,rn,rc,ka,kn,kc,rfl,hn,hsm,hk⟩
theorem BM (w:World) (s:LB) (c:Nat) (hr:Reads s (.error c)) (hE:bW w) (hS:lP w) (hs9:s.length≤1000000):
  Calls Tryz.prog 9 #[.string (BA s)] w fun e w'=>e= .returned (.tuple #[.agg #[.int .i64 0,.bool false,.string ⟨#[]⟩,.slice none 0 0,.slice none 0 0,.slice none 0 0,.slice none 0 0],.int .i64 (c:Int)])∧Kept (fun _=>False) w w':=by
 refine(mG w s hE hS hs9).mono ?_
 rintro e w' ⟨x,hx,hp,hk⟩
 obtain rfl:=hx.det hr
 exact⟨hp,hk⟩
theorem G6:wk1.length≤1000000:=by decide
theorem G9:wk2.length≤1000000:=by decide
theorem mV (w:World) (sb:Nat) (s:LB) (hb:w.heap[sb]? =some (.cells #[.string (BA s)] 9 (0,0))):
  Calls Tryz.prog 15 #[.slice (some ⟨sb,0,none⟩) 1 1] w fun e w'=>∃(aa:Option Addr) (an ac:Nat) (wa:Option Addr) (wn wc:Nat) (ra:Option Addr) (rn rc:Nat) (ka:Option Addr) (kn kc:Nat),
   e= .returned (.agg #[.int .i64 1,.bool false,.string (BA []),.slice aa an ac,.slice wa wn wc,.slice ra rn rc,.slice ka kn kc])∧NAt w' (fun i=>w.heap.size≤i) (.agg #[.int .i64 1,.bool false,.string (BA []),.slice aa an ac,.slice wa wn wc,.slice ra rn rc,.slice ka kn kc]) (dg s)∧Kept (fun _=>False) w w':=by
 refine(Ek w sb s hb).mono ?_
 rintro e w' ⟨v,rfl,hn,hk⟩
 obtain⟨aa,an,ac,wa,wn,wc,ra,rn,rc,ka,kn,kc,rfl,_⟩:=hn.opens
 exact⟨aa,an,ac,wa,wn,wc,ra,rn,rc,ka,kn,kc,rfl,hn,hk⟩
theorem tE (w:World) (hE:bW w) (hS:lP w):Calls Tryz.prog 12 #[] w fun e w'=>e= .returned (.bool true)∧Kept (fun _=>False) w w':=by
 have HE:=jd hE;have HSE:=jd hS
 obtain⟨N1,hN1⟩:∃n,wn1=n:=⟨_,rfl⟩
 obtain⟨N2,hN2⟩:∃n,wn2=n:=⟨_,rfl⟩
 have R1:Hid (Reads wk1 (.ok N1)):=jd (hN1▸A9)
 have R2:Hid (Reads wk2 (.ok N2)):=jd (hN2▸AJ)
 have HN1:=jd hN1;have HN2:=jd hN2
 clear hE hS hN1 hN2
 go_enter Tryz.func12,Tryz.ntmps12
 go_wp2_with fail
 refine(pJ _ wk1 N1 R1.o HE.o HSE.o G6).mono ?_
 rintro e w1 ⟨aa,an,ac,wa,wn,wc,ra,rn,rc,ka,kn,kc,rfl,hn1,hsm1,k1⟩
 have HA1:=jd hn1;have HSM1:=jd hsm1;have K1:=jd k1
 have hz1:=k1.size
 clear hn1 hsm1 k1
 go_wp2_with fail
 obtain⟨W1,hW1⟩:∃W,w1.alloc (.cells #[.int .i64 N1.kind,.bool N1.neg,.string (BA N1.name),.slice aa an ac,.slice wa wn wc,.slice ra rn rc,.slice ka kn kc] 27)=W:=⟨_,rfl⟩
 rw[hW1]
 obtain⟨b1,hb1⟩:∃b,w1.heap.size=b:=⟨_,rfl⟩
 have B1:Hid (NBx W1 b1 #[.int .i64 N1.kind,.bool N1.neg,.string (BA N1.name),.slice aa an ac,.slice wa wn wc,.slice ra rn rc,.slice ka kn kc]):=jd (by rw[←hb1,←hW1];exact heap_alloc w1 _)
 have KW1:Hid (Kept (fun _=>False) w1 W1):=jd (by rw[←hW1];exact(Ja _ w1).alloc _)
 have K1':Hid (Kept (fun _=>False) w W1):=jd (K1.o.trans KW1.o (fun _ _ h=>h))
 have HA1':Hid (NAt W1 (fun b=>b<b1) (.agg #[.int .i64 N1.kind,.bool N1.neg,.string (BA N1.name),.slice aa an ac,.slice wa wn wc,.slice ra rn rc,.slice ka kn kc]) N1):=jd ((HA1.o.mono (fun i h _=>by rw[←hb1];exact h)).kept KW1.o (fun _ _ h=>h))
 have hbW1:b1<W1.heap.size:=av B1.o
 rw[hb1]
 clear hW1 hb1 HA1 K1 KW1 hz1
 refine(pJ _ wk2 N2 R2.o (HE.o.au K1'.o) (HSE.o.kept K1'.o (fun h=>h)) G9).mono ?_
 rintro e w2 ⟨aa2,an2,ac2,wa2,wn2,wc2,ra2,rn2,rc2,ka2,kn2,kc2,rfl,hn2,hsm2,k2⟩
 have HA2:=jd hn2;have K2:=jd k2
 have hz2:=k2.size
 clear hn2 hsm2 k2
 go_wp2_with fail
 obtain⟨b3,hb3⟩:∃b,w2.heap.size=b:=⟨_,rfl⟩
 obtain⟨W3,hW3⟩:∃W,w2.alloc (.cells #[.int .i64 N2.kind,.bool N2.neg,.string (BA N2.name),.slice aa2 an2 ac2,.slice wa2 wn2 wc2,.slice ra2 rn2 rc2,.slice ka2 kn2 kc2] 27)=W:=⟨_,rfl⟩
 rw[hW3]
 have hz3:W3.heap.size=b3+1:=by rw[←hW3,←hb3,World.size_alloc]
 have B3:Hid (NBx W3 b3 #[.int .i64 N2.kind,.bool N2.neg,.string (BA N2.name),.slice aa2 an2 ac2,.slice wa2 wn2 wc2,.slice ra2 rn2 rc2,.slice ka2 kn2 kc2]):=jd (by rw[←hb3,←hW3];exact heap_alloc w2 _)
 have KW3:Hid (Kept (fun _=>False) w2 W3):=jd (by rw[←hW3];exact(Ja _ w2).alloc _)
 have K3:Hid (Kept (fun _=>False) W1 W3):=jd (K2.o.trans KW3.o (fun _ _ h=>h))
 have HA3:Hid (NAt W3 (fun _=>True) (.agg #[.int .i64 N2.kind,.bool N2.neg,.string (BA N2.name),.slice aa2 an2 ac2,.slice wa2 wn2 wc2,.slice ra2 rn2 rc2,.slice ka2 kn2 kc2]) N2):=jd ((HA2.o.mono (fun i h _=>trivial)).kept KW3.o (fun _ _ h=>h))
 rw[hb3]
 rw[←hz3]
 clear hW3 HA2 K2 KW3 hb3
 refine(mV (W3.alloc (.cells #[.string (BA [120])] 9)) _ [120] (heap_alloc W3 _)).mono ?_
 rintro e wx ⟨xa,xan,xac,xw,xwn,xwc,xr,xrn,xrc,xk,xkn,xkc,rfl,hnx,hkx⟩
 have HNx:=jd (hnx.mono (G:=fun _=>True) (fun _ _ _=>trivial));have Kx:Hid (Kept (fun _=>False) W3 wx):=jd (((Ja _ W3).alloc _).trans hkx (fun _ _ h=>h))
 have hzx:=Kx.o.size
 clear hnx hkx
 go_wp2_with fail
 refine(mV (wx.alloc (.cells #[.string (BA [121])] 9)) _ [121] (heap_alloc wx _)).mono ?_
 rintro e wy ⟨ya,yan,yac,yw,ywn,ywc,yr,yrn,yrc,yk,ykn,ykc,rfl,hny,hky⟩
 have HNy:=jd (hny.mono (G:=fun _=>True) (fun _ _ _=>trivial));have Ky:Hid (Kept (fun _=>False) wx wy):=jd (((Ja _ wx).alloc _).trans hky (fun _ _ h=>h))
 have hzy:=Ky.o.size
 clear hny hky
 go_wp2_with fail
 obtain⟨b5,hb5⟩:∃b,wy.heap.size=b:=⟨_,rfl⟩
 obtain⟨W5,hW5⟩:∃W,wy.alloc (.cells #[.int .i64 1,.bool false,.string (BA []),.slice xa xan xac,.slice xw xwn xwc,.slice xr xrn xrc,.slice xk xkn xkc,.int .i64 1,.bool false,.string (BA []),.slice ya yan yac,.slice yw ywn ywc,.slice yr yrn yrc,.slice yk ykn ykc] 27)=W:=⟨_,rfl⟩
 rw[hW5,hb5]
 have hz5:W5.heap.size=b5+1:=by rw[←hW5,←hb5,World.size_alloc]
 have KP5:Hid (Kept (fun _=>False) wy W5):=jd (by rw[←hW5];exact(Ja _ wy).alloc _)
 have B5:W5.heap[b5]? =some (.cells #[.int .i64 1,.bool false,.string (BA []),.slice xa xan xac,.slice xw xwn xwc,.slice xr xrn xrc,.slice xk xkn xkc,.int .i64 1,.bool false,.string (BA []),.slice ya yan yac,.slice yw ywn ywc,.slice yr yrn yrc,.slice yk ykn ykc] 27 (0,0)):=by rw[←hb5,←hW5];exact heap_alloc wy _
 have HM5:Hid (NAt W5 (fun _=>True) (.agg #[.int .i64 2,.bool true,.string ⟨#[]⟩,.slice none 0 0,.slice none 0 0,.slice none 0 0,.slice (some ⟨b5,0,none⟩) 2 2]) (.mk 2 true [] [] [] [] [dg [120],dg [121]])):=jd (NAt.shut (n:=(.mk 2 true [] [] [] [] [dg [120],dg [121]])) (bT.nil _ _) (bT.nil _ _) (bT.nil _ _) (nf B5 ((HNx.o.kept Ky.o (fun _ _ h=>h)).kept KP5.o (fun _ _ h=>h)) (HNy.o.kept KP5.o (fun _ _ h=>h)) trivial))
 rw[←hz5]
 clear hW5 B5 hb5
 refine(mV (W5.alloc (.cells #[.string (BA [122])] 9)) _ [122] (heap_alloc W5 _)).mono ?_
 rintro e wz ⟨za,zan,zac,zw,zwn,zwc,zr,zrn,zrc,zk,zkn,zkc,rfl,hnz,hkz⟩
 have HNz:=jd (hnz.mono (G:=fun _=>True) (fun _ _ _=>trivial));have Kz:Hid (Kept (fun _=>False) W5 wz):=jd (((Ja _ W5).alloc _).trans hkz (fun _ _ h=>h))
 have hzz:=Kz.o.size
 clear hnz hkz
 go_wp2_with fail
 obtain⟨b6,hb6⟩:∃b,wz.heap.size=b:=⟨_,rfl⟩
 obtain⟨W6,hW6⟩:∃W,wz.alloc (.cells #[.int .i64 2,.bool true,.string ⟨#[]⟩,.slice none 0 0,.slice none 0 0,.slice none 0 0,.slice (some ⟨b5,0,none⟩) 2 2,.int .i64 1,.bool false,.string (BA []),.slice za zan zac,.slice zw zwn zwc,.slice zr zrn zrc,.slice zk zkn zkc] 27)=W:=⟨_,rfl⟩
 rw[hW6,hb6]
 have hz6:W6.heap.size=b6+1:=by rw[←hW6,←hb6,World.size_alloc]
 have KP6:Hid (Kept (fun _=>False) wz W6):=jd (by rw[←hW6];exact(Ja _ wz).alloc _)
 have B6:W6.heap[b6]? =some (.cells #[.int .i64 2,.bool true,.string ⟨#[]⟩,.slice none 0 0,.slice none 0 0,.slice none 0 0,.slice (some ⟨b5,0,none⟩) 2 2,.int .i64 1,.bool false,.string (BA []),.slice za zan zac,.slice zw zwn zwc,.slice zr zrn zrc,.slice zk zkn zkc] 27 (0,0)):=by rw[←hb6,←hW6];exact heap_alloc wz _
 have HM6:Hid (NAt W6 (fun _=>True) (.agg #[.int .i64 3,.bool false,.string ⟨#[]⟩,.slice none 0 0,.slice none 0 0,.slice none 0 0,.slice (some ⟨b6,0,none⟩) 2 2]) (ndK 3 [(.mk 2 true [] [] [] [] [dg [120],dg [121]]),dg [122]])):=jd (NAt.shut (n:=(ndK 3 [(.mk 2 true [] [] [] [] [dg [120],dg [121]]),dg [122]])) (bT.nil _ _) (bT.nil _ _) (bT.nil _ _) (nf B6 ((HM5.o.kept Kz.o (fun _ _ h=>h)).kept KP6.o (fun _ _ h=>h)) (HNz.o.kept KP6.o (fun _ _ h=>h)) trivial))
 rw[←hz6]
 clear hW6 B6 hb6
 refine(mV (W6.alloc (.cells #[.string (BA [119])] 9)) _ [119] (heap_alloc W6 _)).mono ?_
 rintro e wv ⟨va,van,vac,vw,vwn,vwc,vr,vrn,vrc,vk,vkn,vkc,rfl,hnv,hkv⟩
 have HNv:=jd (hnv.mono (G:=fun _=>True) (fun _ _ _=>trivial));have Kv:Hid (Kept (fun _=>False) W6 wv):=jd (((Ja _ W6).alloc _).trans hkv (fun _ _ h=>h))
 have hzv:=Kv.o.size
 clear hnv hkv
 have K1v:Hid (Kept (fun _=>False) W1 wv):=jd (((((((K3.o.trans Kx.o (fun _ _ h=>h)).trans Ky.o (fun _ _ h=>h)).trans KP5.o (fun _ _ h=>h)).trans Kz.o (fun _ _ h=>h)).trans KP6.o (fun _ _ h=>h))).trans Kv.o (fun _ _ h=>h))
 have K3v:Hid (Kept (fun _=>False) W3 wv):=jd ((((((Kx.o.trans Ky.o (fun _ _ h=>h)).trans KP5.o (fun _ _ h=>h)).trans Kz.o (fun _ _ h=>h)).trans KP6.o (fun _ _ h=>h))).trans Kv.o (fun _ _ h=>h))
 have B1v:=jd (K1v.o.heap B1.o (fun h=>h))
 have hb1v:=av B1v.o
 obtain⟨⟨y0,y1,y2,y3,y4,y5,y6⟩,-⟩:=NBx.cells (show NBx wv b1 _ from B1v.o)
 obtain⟨b7,hb7⟩:∃b,wv.heap.size=b:=⟨_,rfl⟩
 obtain⟨W7,hW7⟩:∃W,wv.alloc (.cells #[.int .i64 3,.bool false,.string ⟨#[]⟩,.slice none 0 0,.slice none 0 0,.slice none 0 0,.slice (some ⟨b6,0,none⟩) 2 2,.int .i64 1,.bool false,.string (BA []),.slice va van vac,.slice vw vwn vwc,.slice vr vrn vrc,.slice vk vkn vkc] 27)=W:=⟨_,rfl⟩
 obtain⟨W8,hW8⟩:∃W,W7.alloc (.cells #[.int .i64 5,.bool false,.string ⟨#[]⟩,.slice none 0 0,.slice none 0 0,.slice none 0 0,.slice (some ⟨b7,0,none⟩) 2 2] 27)=W:=⟨_,rfl⟩
 have hz7:W7.heap.size=b7+1:=by rw[←hW7,←hb7,World.size_alloc]
 have KP7:Hid (Kept (fun _=>False) wv W7):=jd (by rw[←hW7];exact(Ja _ wv).alloc _)
 have KP8:Hid (Kept (fun _=>False) W7 W8):=jd (by rw[←hW8];exact(Ja _ W7).alloc _)
 have KP:Hid (Kept (fun _=>False) wv W8):=jd (KP7.o.trans KP8.o (fun _ _ h=>h))
 have B7:W7.heap[b7]? =some (.cells #[.int .i64 3,.bool false,.string ⟨#[]⟩,.slice none 0 0,.slice none 0 0,.slice none 0 0,.slice (some ⟨b6,0,none⟩) 2 2,.int .i64 1,.bool false,.string (BA []),.slice va van vac,.slice vw vwn vwc,.slice vr vrn vrc,.slice vk vkn vkc] 27 (0,0)):=by rw[←hb7,←hW7];exact heap_alloc wv _
 have B8:Hid (NBx W8 (b7+1) #[.int .i64 5,.bool false,.string ⟨#[]⟩,.slice none 0 0,.slice none 0 0,.slice none 0 0,.slice (some ⟨b7,0,none⟩) 2 2]):=jd (by rw[←hz7,←hW8];exact heap_alloc W7 _)
 have HM7:Hid (NAt W7 (fun _=>True) (.agg #[.int .i64 5,.bool false,.string ⟨#[]⟩,.slice none 0 0,.slice none 0 0,.slice none 0 0,.slice (some ⟨b7,0,none⟩) 2 2]) (ndK 5 [(ndK 3 [(.mk 2 true [] [] [] [] [dg [120],dg [121]]),dg [122]]),dg [119]])):=jd (NAt.shut (n:=(ndK 5 [(ndK 3 [(.mk 2 true [] [] [] [] [dg [120],dg [121]]),dg [122]]),dg [119]])) (bT.nil _ _) (bT.nil _ _) (bT.nil _ _) (nf B7 ((HM6.o.kept Kv.o (fun _ _ h=>h)).kept KP7.o (fun _ _ h=>h)) (HNv.o.kept KP7.o (fun _ _ h=>h)) trivial))
 have HM8:Hid (NAt W8 (fun _=>True) (.agg #[.int .i64 5,.bool false,.string ⟨#[]⟩,.slice none 0 0,.slice none 0 0,.slice none 0 0,.slice (some ⟨b7,0,none⟩) 2 2]) N2):=jd (by rw[←HN2.o];exact HM7.o.kept KP8.o (fun _ _ h=>h))
 have HW7:=jd hW7;have HW8:=jd hW8;have HB7:=jd hb7;have HZ7:=jd hz7
 have HT1:Hid (NAt W8 (fun b=>b<b1) (.agg #[.int .i64 N1.kind,.bool N1.neg,.string (BA N1.name),.slice aa an ac,.slice wa wn wc,.slice ra rn rc,.slice ka kn kc]) N1):=jd ((HA1'.o.kept K1v.o (fun _ _ h=>h)).kept KP.o (fun _ _ h=>h))
 have K18:Hid (Kept (fun _=>False) W1 W8):=jd (K1v.o.trans KP.o (fun _ _ h=>h))
 have hW18:=K18.o.size
 clear B7 hW7 hW8 hb7 hz7
 go_wp2_with fail
 rw[HB7.o,HW7.o,HW8.o]
 refine(Bc _ _ _ _ HT1.o (fun b h=>Jv (Nat.lt_trans h hbW1) hW18) HSM1.o ((HE.o.au K1'.o).au K18.o) ((HSE.o.kept K1'.o (fun h=>h)).kept K18.o (fun h=>h))).mono ?_
 rintro e w9 ⟨rfl,k9⟩
 have K9:=jd k9
 clear k9
 have htx:sJ N1=wt1:=by rw[←HN1.o];exact DL
 rw[htx]
 have HT9:=jd (HT1.o.kept K9.o (fun _ _ h=>h))
 obtain⟨va9,vw9,vr9,vk9,hve,hra,hrw,hrr,-⟩:=HT9.o.open
 have eal:N1.al.length=1:=by rw[←HN1.o];rfl
 have ews:N1.ws.length=2:=by rw[←HN1.o];rfl
 have ers:N1.rs.length=1:=by rw[←HN1.o];rfl
 have er0:N1.rs[0]? =some (7,iS [102]):=by rw[←HN1.o];rfl
 have hve':=hve
 simp only[nv,Value.agg.injEq,Array.mk.injEq,List.cons.injEq,and_true,true_and] at hve'
 obtain⟨rfl,rfl,rfl,rfl⟩:=hve'
 obtain rfl:an=1:=by rw[hra.len,eal]
 obtain rfl:wn=2:=by rw[hrw.len,ews]
 obtain rfl:rn=1:=by rw[hrr.len,ers]
 obtain⟨rb,ro,oa,on,oc,rfl,-,r0,r1⟩:=hrr.elem (by intro x;rfl) (by decide) er0
 have hrbl:rb<w9.heap.size:=by
  obtain⟨_,_,_,hrb,_⟩:=hrr
  exact(hrb rb rfl).2
 have t1:w9.cell? ⟨rb,ro,none⟩=some (.int .i64 7):=by simpa[RC] using r0
 have B1n:Hid (NBx w9 b1 _):=jd (K9.o.heap (KP.o.heap B1v.o (fun h=>h)) (fun h=>h))
 have B3n:Hid (NBx w9 b3 _):=jd (K9.o.heap (KP.o.heap (K3v.o.heap B3.o (fun h=>h)) (fun h=>h)) (fun h=>h))
 have B8n:Hid (NBx w9 (b7+1) _):=jd (K9.o.heap B8.o (fun h=>h))
 have HK9:Hid (Kept (fun _=>False) w w9):=jd ((K1'.o.trans K18.o (fun _ _ h=>h)).trans K9.o (fun _ _ h=>h))
 have HSA:=jd ((((HA3.o.kept K3v.o (fun _ _ h=>h)).kept KP.o (fun _ _ h=>h)).kept K9.o (fun _ _ h=>h)))
 have HSB:=jd (HM8.o.kept K9.o (fun _ _ h=>h))
 have hl1:=av B1n.o;have hl3:=av B3n.o;have hl8:=av B8n.o
 clear y0 y1 y2 y3 y4 y5 y6 hve htx hra hrw hrr eal ews ers er0 r0 r1
 obtain⟨⟨y0,y1,y2,y3,y4,y5,y6⟩,-⟩:=NBx.cells B1n.o
 obtain⟨⟨u0,u1,u2,u3,u4,u5,u6⟩,-⟩:=NBx.cells B3n.o
 obtain⟨⟨z0,z1,z2,z3,z4,z5,z6⟩,-⟩:=NBx.cells B8n.o
 have hbq:(BA wt1==(⟨#[97,61,49,32,98,32,39,99,39,32,60,102]⟩:ByteArray))=true:=by decide+kernel
 go_wp2_with fail
 refine(sT HSA.o HSB.o).mono ?_
 rintro e w10 ⟨rfl,k10⟩
 rw[rf]
 have K10:=jd k10
 clear k10
 go_wp2_with fail
 go_ret
 exact⟨rfl,HK9.o.trans K10.o (fun _ _ h=>h)⟩
end Go.Proofs.YtgigdlhcjahejaaGreatDoor
namespace Go.Lw
open Go Go.RowKit
section
variable {P:Program} {Q:Exit→Act→World→Prop}
end
end Go.Lw
namespace Go.Lw
open Go Go.RowKit
section
variable {P:Program} {Q:Exit→Act→World→Prop}
def GStep {Γ:Type} (P:Program) (Q:Exit→Act→World→Prop) (l:List Oper) (I:(Nat→Bool)→Γ→World→Prop) (R:Γ→World→Γ→World→Prop) (Φ:Nat→Value→Γ→World→Prop) (a0:Act) (j:Nat) (o:Oper):Prop:=
 ∀(D:Nat→Bool) (γ:Γ) a w,I D γ w→D j=false→(∀k∈cU o,D k=true)→(∀k o',l[k]? =some o'→D k=true→∀d∈cU o',D d=true)→dA l a0 a→(∀k o' s,l[k]? =some o'→o'.dst=some s→lT l 8 j k=true→a.tmps[s]? =a0.tmps[s]?)→ah l (fun k v w=>Φ k v γ w) a w (cU o)→
  ∀K:Act→World→Prop,(∀v γ' w',I (fun k=>if k=j then true else D k) γ' w'→R γ w γ' w'→Φ j v γ' w'→K (a.put o.dst v) w')→wpList P l.toArray (Exit.then K Q) [o] a w
def oh {Γ:Type} (P:Program) (Q:Exit→Act→World→Prop) (l:List Oper) (I:(Nat→Bool)→Γ→World→Prop) (R:Γ→World→Γ→World→Prop) (Φ:Nat→Value→Γ→World→Prop) (a0:Act):Nat→List Oper→Prop
 |_,[]=>True
 |j,o::rest=>GStep P Q l I R Φ a0 j o∧oh P Q l I R Φ a0 (j+1) rest
theorem ae {Γ:Type} {l:List Oper} {I:(Nat→Bool)→Γ→World→Prop} {R:Γ→World→Γ→World→Prop} {Φ:Nat→Value→Γ→World→Prop} {a0:Act} {j:Nat} {o:Oper} {rest:List Oper} (h:GStep P Q l I R Φ a0 j o) (k:oh P Q l I R Φ a0 (j+1) rest):oh P Q l I R Φ a0 j (o::rest):=⟨h,k⟩
theorem sI {Γ:Type} {l:List Oper} {I:(Nat→Bool)→Γ→World→Prop} {R:Γ→World→Γ→World→Prop} {Φ:Nat→Value→Γ→World→Prop} {a0:Act}:∀(m:List Oper) (k j:Nat) (o:Oper),oh P Q l I R Φ a0 k m→m[j]? =some o→GStep P Q l I R Φ a0 (k+j) o
 |[],_,_,_,_,h=>by simp at h
 |o'::m,k,0,o,hs,h=>by
  simp at h;subst h;exact hs.1
 |o'::m,k,j+1,o,hs,h=>by
  have:=sI m (k+1) j o hs.2 (by simpa using h)
  rw[show k+(j+1)=k+1+j by omega];exact this
theorem Ah {listed:Array Bool} {n:Nat} (h1:∀k,k<n→listed.getD k false=true) (h2:∀k,listed.getD k false=true→k<n):(fun k=>listed.getD k false)=fun k=>decide (k<n):=funext fun k=>by
 by_cases hk:k<n
 ·rw[h1 k hk,Jc hk]
 ·rw[Jd hk]
  rcases hx:listed.getD k false with _|_
  ·rfl
  ·exact(hk (h2 k hx)).elim
theorem vZ {Γ:Type} {l:List Oper} {I:(Nat→Bool)→Γ→World→Prop} {R:Γ→World→Γ→World→Prop} {Φ:Nat→Value→Γ→World→Prop} {a0:Act} (n:Nat) (hn:n≤l.length)
  (hd:(bR (l.take n)).Nodup) (hlt:∀d∈bR (l.take n),d<a0.tmps.size) (hR:∀k v γ w γ' w',R γ w γ' w'→Φ k v γ w→Φ k v γ' w') (hs:oh P Q (l.take n) I R Φ a0 0 (l.take n))
  (hord:∀k o,l[k]? =some o→∀e∈o.after,Region.binds .any e=true→e.on<k)
  (htail:∀j o,n≤j→l[j]? =some o→∀D:Nat→Prop,dr l D→(∀e∈o.after,Region.binds .any e=true→D e.on)→∀i,i<j→D i)
  (hguard:∀k o,k<n→l[k]? =some o→∀a:Act,Region.wanted o (yielded l.toArray a.tmps)=Region.wanted o (yielded (l.take n).toArray a.tmps))
  (hend:∀γ a w,I (fun k=>decide (k<n)) γ w→dA (l.take n) a0 a→(∀k,k<n→dd (l.take n) (fun k v w=>Φ k v γ w) k a w)→wpList P l.toArray Q (l.drop n) a w):
  ∀(fuel:Nat) (listed:Array Bool) (γ:Γ) (a:Act) (w:World),listed.size=l.length→(∀k,listed.getD k false=true→k<n)→I (fun k=>listed.getD k false) γ w→dA (l.take n) a0 a→(∀k o s,(l.take n)[k]? =some o→o.dst=some s→listed.getD k false=false→a.tmps[s]? =a0.tmps[s]?)→(∀k,listed.getD k false=true→dd (l.take n) (fun k v w=>Φ k v γ w) k a w)→
   ((listed.toList.filter (·=false)).length=fuel)→dr l (fun k=>listed.getD k false=true)→wpAny P .any l.toArray Q fuel listed a w:=by
 intro fuel
 have hcnt0:∀(m:List Bool) (p:Nat),(∀k,k<m.length→(m[k]? =some true↔k<p))→p≤m.length→(m.filter (·=false)).length=m.length -p:=by
  intro m
  induction m with
  |nil=>intro p _ hp;simp at hp⊢
  |cons b m ihm=>
   intro p hp hple
   have h0:=hp 0 (by simp)
   cases p with
   |zero=>
    have hb:b=false:=by
     rcases b with _|_
     ·rfl
     ·simp at h0
    have:=ihm 0 (fun k hk=>by have:=hp (k+1) (by simpa using hk);simpa using this) (Ju _)
    rw[hb,List.filter_cons,Jt (by simp),Jg,this];simp
   |succ p=>
    have hb:b=true:=by simpa using h0.2 (by omega)
    have:=ihm p (fun k hk=>by have:=hp (k+1) (by simpa using hk);simpa using this) (by simpa using hple)
    rw[hb,List.filter_cons,Js (by simp),Jg,this];omega
 induction fuel with
 |zero=>
  intro listed γ a w hsz hln hI ha hlate hl hc hclosed
  have hall:∀k,k<l.length→listed.getD k false=true:=fun k hk=>by
   rcases hx:listed.getD k false with _|_
   ·exfalso
    have hmem:false∈listed.toList.filter (·=false):=by
     rw[List.mem_filter]
     refine⟨?_,by simp⟩
     have hk':k<listed.size:=by omega
     have:listed[k]? =some false:=by
      rw[Array.getElem?_eq_getElem hk']
      simp only[Array.getD,hk',dif_pos] at hx
      simpa using hx
     exact Array.mem_toList_iff.2 (Array.mem_of_getElem? this)
    rw[List.eq_nil_of_length_eq_zero hc] at hmem
    cases hmem
   ·rfl
  have hnl:n=l.length:=by
   rcases Nat.lt_or_ge n l.length with h|h
   ·have:=hln n (hall n h);omega
   ·omega
  exact gM n hord htail 0 n listed a w (Jb _) (by omega) hsz (fun k hk=>⟨fun _=>by omega,fun _=>hall k hk⟩) (hend γ a w (by rw[Ah (fun k hk=>hall k (by omega)) hln] at hI;exact hI) ha fun k hk=>hl k (hall k (by omega)))
 |succ fuel ih=>
  intro listed γ a w hsz hln hI ha hlate hl hc hclosed
  by_cases hall:∀k,k<n→listed.getD k false=true
  ·have hiff:∀k,k<l.length→(listed.getD k false=true↔k<n):=fun k hk=>⟨hln k,hall k⟩
   have hf:fuel+1=l.length -n:=by
    rw[←hc,←hsz,←Array.length_toList]
    refine hcnt0 listed.toList n (fun k hk=>?_) (by simpa[hsz] using hn)
    have hk':k<listed.size:=by simpa using hk
    have:=hiff k (by omega)
    simp[hk'] at this⊢;exact this
   exact gM n hord htail (fuel+1) n listed a w (Jb _) (by omega) hsz hiff (hend γ a w (by rw[Ah hall hln] at hI;exact hI) ha fun k hk=>hl k (hall k hk))
  obtain⟨k0,hk0n,hk0⟩:∃k,k<n∧listed.getD k false=false:=by
   refine Classical.byContradiction fun hno=>hall fun k hk=>?_
   rcases hx:listed.getD k false with _|_
   ·exact(hno ⟨k,hk,hx⟩).elim
   ·rfl
  refine⟨fun hr=>?_,fun i hi=>?_⟩
  ·exfalso
   have key:∀k,k<n→listed.getD k false=true:=by
    intro k
    induction k using Nat.strongRecOn with
    |ind k ihk=>
     intro hk
     rcases hx:listed.getD k false with _|_
     ·exfalso
      have hk':k<listed.size:=by omega
      have:k∈Region.ready .any l.toArray listed:=by
       refine mem_ready.2 ⟨?_,l[k],by simp[show k<l.length by omega],fun e he hb=>?_⟩
       ·simp[hk'] at hx⊢;exact hx
       ·have hlt:=hord k l[k] (Je (by omega)) e he hb
        exact ihk e.on hlt (by omega)
      rw[hr] at this;cases this
     ·rfl
   exact hall key
  obtain⟨h0,o,ho,hafter⟩:=mem_ready.1 hi
  have ho':l[i]? =some o:=by simpa using ho
  have hil:i<l.length:=by
   rcases Nat.lt_or_ge i l.length with h|h
   ·exact h
   ·simp[h] at ho
  have hin:i<n:=by
   rcases Nat.lt_or_ge i n with h|h
   ·exact h
   ·exfalso
    have:=htail i o h ho' _ hclosed hafter k0 (by omega)
    rw[hk0] at this;cases this
  have hot:(l.take n)[i]? =some o:=by rw[List.getElem?_take,Jt hin];exact ho'
  have hstep:=sI (l.take n) 0 i o hs hot
  rw[Nat.zero_add] at hstep
  have hfacts:ah (l.take n) (fun k v w=>Φ k v γ w) a w (cU o):=jf _ fun k hk=>by
   unfold cU at hk
   rw[List.mem_eraseDups] at hk
   obtain⟨e,he,rfl⟩:=List.mem_map.1 hk
   rw[List.mem_filter] at he
   exact hl _ (hafter e (by simpa using he.1) (by simpa using he.2))
  have next:∀v γ' w',I (fun k=>if k=i then true else listed.getD k false) γ' w'→R γ w γ' w'→Φ i v γ' w'→wpAny P .any l.toArray Q fuel (listed.setIfInBounds i true) (a.put o.dst v) w':=by
   intro v γ' w' hI' hR' hΦ
   have hcnt:∀(m:List Bool) (i:Nat),m[i]? =some false→((m.set i true).filter (·=false)).length+1=(m.filter (·=false)).length:=by
    intro m
    induction m with
    |nil=>intro i h;simp at h
    |cons b m ihm=>
     intro i h
     cases i with
     |zero=>simp at h;subst h;simp
     |succ i=>
      have:=ihm i (by simpa using h)
      rw[List.set_cons_succ,List.filter_cons,List.filter_cons]
      split<;>simp_all
   have hfuel:((listed.setIfInBounds i true).toList.filter (·=false)).length=fuel:=by
    have:=hcnt listed.toList i (by
     have hk':i<listed.size:=by omega
     simp[hk'] at h0⊢;exact h0)
    rw[Array.toList_setIfInBounds];omega
   refine ih (listed.setIfInBounds i true) γ' (a.put o.dst v) w' (by simpa using hsz) (fun k hk=>?_) (by
    have e:(fun k=>(listed.setIfInBounds i true).getD k false)=fun k=>if k=i then true else listed.getD k false:=funext fun k=>by
     by_cases hk:k=i
     ·subst hk
      have hk':k<listed.size:=by omega
      simp[hk']
     ·rw[Js hk,getD_set_ne false (Ne.symm hk)]
    rw[e];exact hI') ?_ (fun k ok s hk hds hnl=>?_) (fun k hk=>?_) hfuel ?_
   ·by_cases hki:k=i
    ·omega
    ·rw[getD_set_ne false (Ne.symm hki)] at hk;exact hln k hk
   ·refine⟨by rw[iY];exact ha.size,fun s hs=>?_,by rw[j4];exact ha.defs⟩
    rw[eD _ _ _ _ (fun d hd e=>by subst e;exact hs (di hot hd))]
    exact ha.same s hs
   ·by_cases hki:k=i
    ·exfalso
     rw[hki] at hnl
     have hk':i<listed.size:=by omega
     simp[hk'] at hnl
    ·have hnl':listed.getD k false=false:=by rw[getD_set_ne false (Ne.symm hki)] at hnl;exact hnl
     rw[eD _ _ _ _ (fun d' hd'=>gq hd hot hk hd' hds (Ne.symm hki))]
     exact hlate k ok s hk hds hnl'
   ·by_cases hki:k=i
    ·subst hki
     cases hdd:o.dst with
     |none=>simp only[dd,hot,hdd]
     |some d=>
      simp only[dd,hot,hdd]
      exact⟨v,ko _ _ _ (by rw[ha.size];exact hlt d (di hot hdd)),hΦ⟩
    ·have hk':listed.getD k false=true:=by rw[getD_set_ne false (Ne.symm hki)] at hk;exact hk
     have hkf:=hl k hk'
     cases hlk:(l.take n)[k]? with
     |none=>simp only[dd,hlk]
     |some ok=>
      cases hdk:ok.dst with
      |none=>simp only[dd,hlk,hdk]
      |some d=>
       simp only[dd,hlk,hdk] at hkf⊢
       obtain⟨u,hu,hΦu⟩:=hkf
       exact⟨u,by rw[eD _ _ _ _ (fun d' hd'=>gq hd hot hlk hd' hdk (Ne.symm hki))];exact hu,hR _ _ _ _ _ _ hR' hΦu⟩
   ·intro k ok hk hD e he hb
    have hie:i≠e.on→listed.getD e.on false=true→(listed.setIfInBounds i true).getD e.on false=true:=fun hei h1=>by rw[getD_set_ne false hei];exact h1
    have hno:i=e.on→listed.getD e.on false=true→False:=fun hei h1=>by
     rw[hei] at h0
     rcases Nat.lt_or_ge e.on listed.size with h'|h'
     ·simp[h'] at h0 h1;rw[h0] at h1;cases h1
     ·simp[Array.getElem?_eq_none h'] at h1
    have h1:listed.getD e.on false=true:=by
     by_cases hki:k=i
     ·rw[hki,ho'] at hk
      have e1:=Jw hk
      subst e1
      exact hafter e he hb
     ·have hD':(listed.setIfInBounds i true).getD k false=true:=hD
      rw[getD_set_ne false (Ne.symm hki)] at hD'
      exact hclosed k ok hk hD' e he hb
    exact hie (fun hei=>hno hei h1) h1
  have hni0:listed.getD i false=false:=by
   rcases hx:listed.getD i false with _|_
   ·rfl
   ·exfalso
    rcases Nat.lt_or_ge i listed.size with h'|h'
    ·simp[h'] at h0 hx;rw[h0] at hx;cases hx
    ·omega
  have hdeps:∀k∈cU o,listed.getD k false=true:=fun k hk=>by
   obtain⟨e,he,hb,rfl⟩:=gY hk
   exact hafter e he hb
  have hcl0:∀k o',(l.take n)[k]? =some o'→listed.getD k false=true→∀d∈cU o',listed.getD d false=true:=fun k o' hk hD d hd=>by
   obtain⟨e,he,hb,rfl⟩:=gY hd
   refine hclosed k o' ?_ hD e he hb
   rw[List.getElem?_take] at hk
   split at hk
   ·exact hk
   ·cases hk
  have:=hstep (fun k=>listed.getD k false) γ a w hI hni0 hdeps hcl0 ha (fun k o' s hk hds hp=>hlate k o' s hk hds (by
   rcases hx:listed.getD k false with _|_
   ·rfl
   ·exfalso
    have hcl':dr (l.take n) (fun k=>listed.getD k false=true):=fun k o hk hD e he hb=>hclosed k o (by
     rw[List.getElem?_take] at hk
     split at hk
     ·exact hk
     ·cases hk) hD e he hb
    have h1:listed.getD i false=true:=nr hp hcl' (fun o ho e he hb=>hcl' k o ho hx e he hb)
    rcases Nat.lt_or_ge i listed.size with h'|h'
    ·simp[h'] at h0 h1;rw[h0] at h1;cases h1
    ·omega)) hfacts _ next
  unfold wpOp
  rw[ho]
  simp only[wpList] at this⊢
  rw[hguard i o hin ho' a]
  split
  ·rename_i hw
   rw[Jt hw] at this
   rcases this with h|⟨h1,a',w',h2⟩
   ·exact .inl (pE h)
   ·exact .inr ⟨h1,a',w',h2⟩
  ·rename_i hw
   rw[Js hw] at this
   exact this
def iJ {Γ:Type} (R:Γ→World→Γ→World→Prop):Type:={p:Value→Γ→World→Prop//∀v γ w γ' w',R γ w γ' w'→p v γ w→p v γ' w'}
def gV {Γ:Type} {R:Γ→World→Γ→World→Prop} (c:Value):iJ R:=⟨fun v _ _=>v=c,fun _ _ _ _ _ _ h=>h⟩
def EM {Γ:Type} {R:Γ→World→Γ→World→Prop} (specs:List (iJ R)) (k:Nat) (v:Value) (γ:Γ) (w:World):Prop:=
 match specs[k]? with
 |some p=>p.1 v γ w
 |none=>True
theorem lS {Γ:Type} {id:Nat} {l:List Oper} {a0:Act} {w0:World} (n:Nat) (I:(Nat→Bool)→Γ→World→Prop) (R:Γ→World→Γ→World→Prop) (specs:List (iJ R)) (γ0:Γ)
  (hm:P.follows .mixedOrders=true) (hok:eM a0.tmps.size n l=true) (h0:I (fun _=>false) γ0 w0.drew)
  (hs:oh P Q (l.take n) I R (EM specs) a0 0 (l.take n))
  (hend:∀(vs:Nat→Value) γ w,I (fun k=>decide (k<n)) γ w→(∀k o d,(l.take n)[k]? =some o→o.dst=some d→EM specs k (vs k) γ w)→wpList P l.toArray Q (l.drop n) (aW vs 0 (l.take n) a0) w):(Code.region id l.toArray true).wp P Q a0 w0:=by
 refine wp_region_any hm ?_
 simp only[eM,Jr,decide_eq_true_eq,List.all_eq_true] at hok
 obtain⟨⟨⟨⟨⟨h0',h1⟩,h2⟩,h3⟩,h4⟩,h5⟩:=hok
 refine(vZ (I:=I) (R:=R) (Φ:=EM specs) (a0:=a0) n h0' h1 h2 (fun k v γ w γ' w' hr h=>?_) hs (fun k o hk e he hb=>by have:=fZ l 0 k o h3 hk e he hb;omega) (fun j o hj ho D hD hd i hi=>?_) (fun k o hk ho a=>kO h5 k o hk ho a) (fun γ a w hI ha hf=>?_) _ _ γ0 _ _ (by simp) (fun k hk=>?_) ?_ ⟨rfl,fun _ _=>rfl,rfl⟩ (fun _ _ _ _ _ _=>rfl) (fun k hk=>?_) (by simp) (fun k o hk hD=>by simp[Array.getD] at hD))
 ·unfold EM at*
  split
  ·rename_i p hp
   rw[hp] at h
   exact p.2 v γ w γ' w' hr h
  ·trivial
 ·exact ir (l.drop n) n (j -n) o h4 (by rw[List.getElem?_drop,show n+(j -n)=j by omega];exact ho) D hD hd i (by omega)
 ·obtain⟨vs,rfl,hvs⟩:=kM h1 h2 ha (fun k hk=>hf k (by rw[Jp] at hk;omega))
  exact hend vs γ w hI hvs
 ·simp[Array.getD] at hk
 ·have e:(fun k=>(Array.replicate l.toArray.size false).getD k false)=fun _=>false:=funext fun k=>by simp[Array.getD]
  rw[e];exact h0
 ·simp[Array.getD] at hk
end
