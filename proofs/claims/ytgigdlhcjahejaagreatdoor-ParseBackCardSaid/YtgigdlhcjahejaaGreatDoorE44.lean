/- Of the proof of ParseBack: PrW, PrX, PbP. -/
import Derived.Test.YtgigdlhcjahejaaGreatDoorE42
import Derived.Test.YtgigdlhcjahejaaGreatDoorE43
namespace Go.Proofs.YtgigdlhcjahejaaGreatDoor
open Go Go.RowKit Go.Lw
set_option maxRecDepth 100000
set_option linter.unusedVariables false
set_option linter.unusedSimpArgs false
attribute [local go_sem] au
def Gj (n0:Nat) (x:LP):dY:=⟨fun v w=>WAt w (fun i=>n0≤i) v x,fun _ _ _ hk h=>h.kept hk (fun _ _ h=>h)⟩
def EN (n0:Nat) (x:LP):dY:=
 ⟨fun v w=>∃bb u,v= .slice (some ⟨bb,0,none⟩) 1 1∧n0≤bb∧w.heap[bb]? =some (.cells #[u] 59 (0,0))∧WAt w (fun i=>n0≤i) u x,fun _ _ _ hk ⟨bb,u,h1,h2,h3,h4⟩=>⟨bb,u,h1,h2,hk.heap h3 (fun h=>h),h4.kept hk (fun _ _ h=>h)⟩⟩
def FE (n0:Nat) (x:LP):dY:=⟨fun v w=>∃a c,v= .slice a 1 c∧mj w (fun i=>n0≤i) v [x],fun _ _ _ hk ⟨a,c,h1,h2⟩=>⟨a,c,h1,h2.kept hk (fun _ _ h=>h)⟩⟩
set_option maxHeartbeats 8000000 in
theorem Bh (w:World) (s:LB):Calls Tryz.prog 38 #[.string (BA s)] w fun e w'=>∃v,e= .returned v∧WAt w' (fun i=>w.heap.size≤i) v (mg s)∧Kept (fun _=>False) w w':=by
 have H1:=jd (WAt.one w (.mk 1 s [] false) rfl)
 have K1:=jd ((Ja (fun _=>False) w).alloc (.cells #[.int .i64 1,.string (BA s),.slice none 0 0,.bool false] 101))
 go_enter Tryz.func38,Tryz.ntmps38
 go_wp2_with fail
 go_ret
 exact⟨_,rfl,H1.o.mono (fun i _ h=>h.1),K1.o⟩
def NMk (w:World) (nd:Nd) (e:Ending) (w':World):Prop:=∃v,e= .returned v∧NAt w' (fun i=>w.heap.size≤i) v nd∧Kept (fun _=>False) w w'
set_option maxHeartbeats 16000000 in
theorem Ea (w:World) (sb:Nat) (s:LB) (hb:w.heap[sb]? =some (.cells #[.string (BA s)] 9 (0,0))):
  Calls Tryz.prog 15 #[.slice (some ⟨sb,0,none⟩) 1 1] w (NMk w (gA s)):=by
 obtain⟨W0,hW0⟩:∃W0,w.alloc (.cells zN 27)=W0:=⟨_,rfl⟩
 have hs0:W0.heap.size=w.heap.size+1:=by rw[←hW0,World.size_alloc]
 have KA:Hid (Kept (fun _=>False) w W0):=jd (by rw[←hW0];exact(Ja _ w).alloc _)
 have PA:Hid (NBx W0 w.heap.size zN):=jd (by rw[←hW0];exact heap_alloc w _)
 have HW0:=jd hW0
 obtain⟨W1,hW1⟩:∃W1,W0.alloc (.cells #[.int .i64 1,.bool false,.string ⟨#[]⟩,.slice none 0 0,.slice none 0 0,.slice none 0 0,.slice none 0 0] 27)=W1:=⟨_,rfl⟩
 have K1:Hid (Kept (fun _=>False) W0 W1):=jd (by rw[←hW1];exact(Ja _ W0).alloc _)
 have B1:Hid (NBx W1 (w.heap.size+1) #[.int .i64 1,.bool false,.string (BA []),.slice none 0 0,.slice none 0 0,.slice none 0 0,.slice none 0 0]):=jd (by rw[←hs0,←hW1];exact heap_alloc W0 _)
 have HSB:=jd hb
 have hsb:=aj hb
 have HPR0:Hid (NBx W1 w.heap.size zN):=jd (K1.o.heap PA.o (fun h=>h))
 have KA1:Hid (Kept (fun _=>False) w W1):=jd (KA.o.trans K1.o (fun _ _ h=>h))
 have HW1:=jd hW1
 clear hb hW0 hW1 hs0
 go_enter Tryz.func15,Tryz.ntmps15
 go_wp2_with fail
 rw[HW0.o,HW1.o]
 go_loopg [9] 1 (fun gk s9 wx=>Kept (fun i=>i=w.heap.size+1) W1 wx∧((gk=1∧s9= .int .i64 0∧NBx wx (w.heap.size+1) #[.int .i64 1,.bool false,.string (BA []),.slice none 0 0,.slice none 0 0,.slice none 0 0,.slice none 0 0])∨
  (gk=0∧s9= .int .i64 1∧∃a c,NBx wx (w.heap.size+1) #[.int .i64 1,.bool false,.string (BA []),.slice none 0 0,.slice a 1 c,.slice none 0 0,.slice none 0 0]∧mj wx (fun i=>w.heap.size+2≤i) (.slice a 1 c) [mg s])))
 case atStart=>exact⟨Ja _ _,.inl ⟨rfl,rfl,B1.o⟩⟩
 case round=>
  obtain⟨hk,⟨hgk,rfl,hbx⟩|⟨hgk,rfl,a,c,hbx,hws⟩⟩:=hrel
  ·have HK:=jd hk;have HBX:=jd hbx;have HGK:=jd hgk
   have hsl:=aj (hk.heap (KA1.o.heap HSB.o (fun h=>h)) (fun e=>by have e':sb=w.heap.size+1:=e;omega))
   have sc:=aq (hk.heap (KA1.o.heap HSB.o (fun h=>h)) (fun e=>by have e':sb=w.heap.size+1:=e;omega)) 0
   have hz1:=hk.size
   have hzb:=aj hbx
   clear hk hbx hgk
   go_wp2_with fail
   refine bE 7 [stV (.pointer (some ⟨w.heap.size+1,4,none⟩)),stV (.slice none 0 0),stV (.string (BA s)),Gj wr.heap.size (mg s),EN wr.heap.size (mg s),FE wr.heap.size (mg s),stV (.pointer (some ⟨w.heap.size+1,4,none⟩))] (by kernel_rfl) (by kernel_rfl) ?_ ?_
   ·iterate 3
     refine ae (fun a' w' hI hag hf K hK=>?_) ?_
     ·obtain⟨⟨_,h0,rfl⟩,-⟩:=hf
      have s3:=hag.same 3 (by decide)
      have s5:=hag.same 5 (by decide)
      clear hag
      obtain⟨⟨y0,y1,y2,y3,y4,y5,y6⟩,-⟩:=NBx.cells (hI.heap HBX.o (fun h=>h))
      go_wp2_with fail
      exact hK _ _ hI (Ja _ _) rfl
    refine ae (fun a' w' hI hag hf K hK=>?_) ?_
    ·obtain⟨⟨_,h2,rfl⟩,-⟩:ay _ _ a' w' [2]:=hf
     clear hag
     go_wp2_with fail
     refine(Bh _ s).mono ?_
     rintro e w4 ⟨v,rfl,hw4,hk4⟩
     have hz4:=hI.size
     go_wp2_with fail
     exact hK _ _ (hI.trans hk4 (fun _ _ h=>h)) hk4 (hw4.mono (fun i _ hi=>lt9 hz4 hi))
    refine ae (fun a' w' hI hag hf K hK=>?_) ?_
    ·obtain⟨⟨v3,h3,e3⟩,-⟩:ay _ _ a' w' [3]:=hf
     clear hag
     have hw7:WAt w' (fun i=>wr.heap.size≤i) v3 (mg s):=e3
     obtain⟨ua,un,uc,rfl⟩:=hw7.slice
     have hz4:=hI.size
     go_wp2_with fail
     exact hK _ _ (hI.alloc _) ((Ja _ _).alloc _) ⟨_,_,rfl,hz4,heap_alloc _ _,hw7.kept ((Ja _ _).alloc _) (fun _ _ h=>h)⟩
    refine ae (fun a' w' hI hag hf K hK=>?_) ?_
    ·obtain⟨⟨_,h1,rfl⟩,⟨v4,h4,e4⟩,-⟩:ay _ _ a' w' [1,4,3]:=hf
     clear hag
     obtain⟨bb,u,rfl,hbb,hbh,hu⟩:(EN wr.heap.size (mg s)).1 v4 w':=e4
     have hz4:=hI.size
     refine aQ rfl _ _ _ rfl EWs (.slice none 0 0) 0 [] (by simp[Act.eval,h1]) (World.ownsRow_nil _ _ _ _) _ 1 (WC (mg s,u)) (by simp[Act.eval,h4]) (dB (C:=WC) hbh rfl) (fun y hy=>by rw[Jk.1 hy];exact iJ hu) (by unfold maxLen;omega) (by omega) (fun ad9 cap9 w9 ho9 hg9 hf9=>?_)
     have hk9:Kept (fun _=>False) w' w9:=(Ja _ _).grown hg9 (fun i e _=>by cases e)
     have hb9:∀i,blk (.slice ad9 1 cap9) i→wr.heap.size≤i∧i<w9.heap.size:=fun i hi=>by
      have h2:=cP ho9 i hi
      rcases hf9 i hi with e|e
      ·exact(dt e).elim
      ·exact⟨lt9 hz4 e,h2⟩
     exact hK _ _ (hI.trans hk9 (fun _ _ h=>h)) hk9 ⟨_,_,rfl,[(mg s,u)],rfl,Rd.own ho9,hb9,fun y hy=>by rw[Jk.1 hy];exact hu.kept hk9 (fun _ _ h=>h)⟩
    refine ae (fun a' w' hI hag hf K hK=>?_) ?_
    ·have s3:=hag.same 3 (by decide)
     clear hag
     go_wp2_with fail
     exact hK _ _ hI (Ja _ _) rfl
    exact trivial
   ·intro vs wz hI hvs
    have q3:=hvs 3 _ _ rfl rfl
    have q4:=hvs 4 _ _ rfl rfl
    have q5:=hvs 5 _ _ rfl rfl
    simp only[pzz,aL,Act.put,Nat.reduceAdd,spv (hvs 0 _ _ rfl rfl) rfl,spv (hvs 1 _ _ rfl rfl) rfl,spv (hvs 2 _ _ rfl rfl) rfl,spv (hvs 6 _ _ rfl rfl) rfl]
    clear hvs
    generalize vs 3=x3 at*
    generalize vs 4=x4 at*
    generalize vs 5=x5 at*
    obtain⟨za,zc,rfl,hws⟩:(FE wr.heap.size (mg s)).1 x5 wz:=q5
    have HWS:=jd hws
    have HKZ:=jd hI
    have bz:=hI.heap HBX.o (fun h=>h)
    have HBZ:=jd bz
    obtain⟨⟨y0,y1,y2,y3,y4,y5,y6⟩,z0,z1,z2,z3,z4,z5,z6⟩:=NBx.cells bz
    have hblt:=aj bz
    clear hI q3 q4 hws bz
    go_wp2_with fail
    go_roundg 0
    case measure=>have:=HGK.o;omega
    case rel=>
     have hks:Kept (fun i=>i=w.heap.size+1) wz (wz.setCell ⟨w.heap.size+1,4,none⟩ (.slice za 1 zc)):=(Ja (fun i=>i=w.heap.size+1) wz).set (w.heap.size+1) 4 (fun _=>rfl) _
     exact⟨(HK.o.trans HKZ.o (fun _ _ h=>h.elim)).trans hks (fun _ _ h=>h),.inr ⟨rfl,rfl,za,zc,(show NBx wz (w.heap.size+1) _ from HBZ.o).s4 _,(HWS.o.mono (fun i _ hi=>by have hi':wr.heap.size≤i:=hi;omega)).kept hks (fun i hi e=>by have e':i=w.heap.size+1:=e;have hi':w.heap.size+2≤i:=hi;omega)⟩⟩
  ·have HWS:=jd hws
   have PRN:Hid (NBx wr w.heap.size zN):=jd (hk.heap HPR0.o (fun e=>by have e':w.heap.size=w.heap.size+1:=e;omega))
   have HKR:Hid (Kept (fun _=>False) w wr):=jd (KA1.o.trans hk (fun i hi e=>by have e':i=w.heap.size+1:=e;omega))
   have HVN:Hid (NAt wr (fun i=>w.heap.size+1≤i) (.agg #[.int .i64 1,.bool false,.string (BA []),.slice none 0 0,.slice a 1 c,.slice none 0 0,.slice none 0 0]) (gA s)):=jd (NAt.shut (n:=gA s) (bQ.nil _ _) (hws.mono (fun i _ hi=>by have hi':w.heap.size+2≤i:=hi;omega)) (bQ.nil _ _) (cE.nil _ _))
   obtain⟨⟨y0,y1,y2,y3,y4,y5,y6⟩,-⟩:=NBx.cells hbx
   obtain⟨⟨c0,c1,c2,c3,c4,c5,c6⟩,f0,f1,f2,f3,f4,f5,f6⟩:=NBx.cells PRN.o
   have hltN:w.heap.size<wr.heap.size:=aj PRN.o
   have hltB:w.heap.size+1<wr.heap.size:=aj hbx
   have K7:Hid (Kept (fun i=>i=w.heap.size) wr (st7 wr w.heap.size (.int .i64 1) (.bool false) (.string (BA [])) (.slice none 0 0) (.slice a 1 c) (.slice none 0 0) (.slice none 0 0))):=jd (aX (Ja (fun i=>i=w.heap.size) wr) (fun _=>rfl) _ _ _ _ _ _ _)
   have B7:=jd (bH PRN.o (.int .i64 1) (.bool false) (.string (BA [])) (.slice none 0 0) (.slice a 1 c) (.slice none 0 0) (.slice none 0 0))
   clear hk hbx hws hgk
   go_wp2_with fail
   refine bodyPost_ret (v:= .agg #[.int .i64 1,.bool false,.string (BA []),.slice none 0 0,.slice a 1 c,.slice none 0 0,.slice none 0 0]) ?_ rfl ?_
   ·exact results_cell_row rfl _ _ w.heap.size 27 _ (0,0) _ (by rfl) B7.o Tryz.underlying27 rfl (by kernel_rfl)
   exact⟨_,rfl,(HVN.o.kept K7.o (fun i hi e=>by have e':i=w.heap.size:=e;have hi':w.heap.size+1≤i:=hi;omega)).mono (fun i _ hi=>Nat.le_of_succ_le hi),HKR.o.trans K7.o (fun i hi e=>by have e':i=w.heap.size:=e;omega)⟩
theorem j7 (w:World) (s:LB) (n:Nd) (hr:Reads s (.ok n)) (hE:bW w) (hS:mC w) (hs9:s.length≤1000000):
  Calls Tryz.prog 9 #[.string (BA s)] w fun e w'=>∃(aa:Option Addr) (an ac:Nat) (wa:Option Addr) (wn wc:Nat) (ra:Option Addr) (rn rc:Nat) (ka:Option Addr) (kn kc:Nat),
   e= .returned (.tuple #[.agg #[.int .i64 n.kind,.bool n.neg,.string (BA n.name),.slice aa an ac,.slice wa wn wc,.slice ra rn rc,.slice ka kn kc],.int .i64 0])∧NAt w' (fun b=>w.heap.size≤b) (.agg #[.int .i64 n.kind,.bool n.neg,.string (BA n.name),.slice aa an ac,.slice wa wn wc,.slice ra rn rc,.slice ka kn kc]) n∧SmN n∧Kept (fun _=>False) w w':=by
 refine(qu w s hE hS hs9).mono ?_
 rintro e w' ⟨x,hx,hp,hk⟩
 obtain rfl:=hx.det hr
 obtain⟨v,rfl,hn,hsm⟩:=hp
 obtain⟨aa,an,ac,wa,wn,wc,ra,rn,rc,ka,kn,kc,rfl,_⟩:=hn.opens
 exact⟨aa,an,ac,wa,wn,wc,ra,rn,rc,ka,kn,kc,rfl,hn,hsm,hk⟩
theorem Gp:wk1.length≤1000000:=by decide
theorem Gf:wk2.length≤1000000:=by decide
theorem po (w:World) (sb:Nat) (s:LB) (hb:w.heap[sb]? =some (.cells #[.string (BA s)] 9 (0,0))):
  Calls Tryz.prog 15 #[.slice (some ⟨sb,0,none⟩) 1 1] w fun e w'=>∃(aa:Option Addr) (an ac:Nat) (wa:Option Addr) (wn wc:Nat) (ra:Option Addr) (rn rc:Nat) (ka:Option Addr) (kn kc:Nat),
   e= .returned (.agg #[.int .i64 1,.bool false,.string (BA []),.slice aa an ac,.slice wa wn wc,.slice ra rn rc,.slice ka kn kc])∧NAt w' (fun i=>w.heap.size≤i) (.agg #[.int .i64 1,.bool false,.string (BA []),.slice aa an ac,.slice wa wn wc,.slice ra rn rc,.slice ka kn kc]) (gA s)∧Kept (fun _=>False) w w':=by
 refine(Ea w sb s hb).mono ?_
 rintro e w' ⟨v,rfl,hn,hk⟩
 obtain⟨aa,an,ac,wa,wn,wc,ra,rn,rc,ka,kn,kc,rfl,_⟩:=hn.opens
 exact⟨aa,an,ac,wa,wn,wc,ra,rn,rc,ka,kn,kc,rfl,hn,hk⟩
set_option maxHeartbeats 16000000 in
theorem sr (w:World) (hE:bW w) (hS:mC w):Calls Tryz.prog 12 #[] w fun e w'=>e= .returned (.bool true)∧Kept (fun _=>False) w w':=by
 have HE:=jd hE;have HSE:=jd hS
 obtain⟨N1,hN1⟩:∃n,wn1=n:=⟨_,rfl⟩
 obtain⟨N2,hN2⟩:∃n,wn2=n:=⟨_,rfl⟩
 have R1:Hid (Reads wk1 (.ok N1)):=jd (hN1▸A0)
 have R2:Hid (Reads wk2 (.ok N2)):=jd (hN2▸AO)
 have HN1:=jd hN1;have HN2:=jd hN2
 clear hE hS hN1 hN2
 go_enter Tryz.func12,Tryz.ntmps12
 go_wp2_with fail
 refine(j7 _ wk1 N1 R1.o HE.o HSE.o Gp).mono ?_
 rintro e w1 ⟨aa,an,ac,wa,wn,wc,ra,rn,rc,ka,kn,kc,rfl,hn1,hsm1,k1⟩
 have HA1:=jd hn1;have HSM1:=jd hsm1;have K1:=jd k1
 have hz1:=k1.size
 clear hn1 hsm1 k1
 go_wp2_with fail
 obtain⟨W1,hW1⟩:∃W,w1.alloc (.cells #[.int .i64 N1.kind,.bool N1.neg,.string (BA N1.name),.slice aa an ac,.slice wa wn wc,.slice ra rn rc,.slice ka kn kc] 27)=W:=⟨_,rfl⟩
 rw[hW1]
 obtain⟨b1,hb1⟩:∃b,w1.heap.size=b:=⟨_,rfl⟩
 have B1:Hid (NBx W1 b1 #[.int .i64 N1.kind,.bool N1.neg,.string (BA N1.name),.slice aa an ac,.slice wa wn wc,.slice ra rn rc,.slice ka kn kc]):=jd (by rw[←hb1,←hW1];exact heap_alloc w1 _)
 have KW1:Hid (Kept (fun _=>False) w1 W1):=jd (by rw[←hW1];exact(Ja _ w1).alloc _)
 have K1':Hid (Kept (fun _=>False) w W1):=jd (K1.o.trans KW1.o (fun _ _ h=>h))
 have HA1':Hid (NAt W1 (fun b=>b<b1) (.agg #[.int .i64 N1.kind,.bool N1.neg,.string (BA N1.name),.slice aa an ac,.slice wa wn wc,.slice ra rn rc,.slice ka kn kc]) N1):=jd ((HA1.o.mono (fun i h _=>by rw[←hb1];exact h)).kept KW1.o (fun _ _ h=>h))
 have hbW1:b1<W1.heap.size:=aj B1.o
 rw[hb1]
 clear hW1 hb1 HA1 K1 KW1 hz1
 refine(j7 _ wk2 N2 R2.o (HE.o.ag K1'.o) (HSE.o.kept K1'.o (fun h=>h)) Gf).mono ?_
 rintro e w2 ⟨aa2,an2,ac2,wa2,wn2,wc2,ra2,rn2,rc2,ka2,kn2,kc2,rfl,hn2,hsm2,k2⟩
 have HA2:=jd hn2;have K2:=jd k2
 have hz2:=k2.size
 clear hn2 hsm2 k2
 go_wp2_with fail
 obtain⟨b3,hb3⟩:∃b,w2.heap.size=b:=⟨_,rfl⟩
 obtain⟨W3,hW3⟩:∃W,w2.alloc (.cells #[.int .i64 N2.kind,.bool N2.neg,.string (BA N2.name),.slice aa2 an2 ac2,.slice wa2 wn2 wc2,.slice ra2 rn2 rc2,.slice ka2 kn2 kc2] 27)=W:=⟨_,rfl⟩
 rw[hW3]
 have hz3:W3.heap.size=b3+1:=by rw[←hW3,←hb3,World.size_alloc]
 have B3:Hid (NBx W3 b3 #[.int .i64 N2.kind,.bool N2.neg,.string (BA N2.name),.slice aa2 an2 ac2,.slice wa2 wn2 wc2,.slice ra2 rn2 rc2,.slice ka2 kn2 kc2]):=jd (by rw[←hb3,←hW3];exact heap_alloc w2 _)
 have KW3:Hid (Kept (fun _=>False) w2 W3):=jd (by rw[←hW3];exact(Ja _ w2).alloc _)
 have K3:Hid (Kept (fun _=>False) W1 W3):=jd (K2.o.trans KW3.o (fun _ _ h=>h))
 have HA3:Hid (NAt W3 (fun _=>True) (.agg #[.int .i64 N2.kind,.bool N2.neg,.string (BA N2.name),.slice aa2 an2 ac2,.slice wa2 wn2 wc2,.slice ra2 rn2 rc2,.slice ka2 kn2 kc2]) N2):=jd ((HA2.o.mono (fun i h _=>trivial)).kept KW3.o (fun _ _ h=>h))
 rw[hb3]
 rw[←hz3]
 clear hW3 HA2 K2 KW3 hb3
 refine(po (W3.alloc (.cells #[.string (BA [120])] 9)) _ [120] (heap_alloc W3 _)).mono ?_
 rintro e wx ⟨xa,xan,xac,xw,xwn,xwc,xr,xrn,xrc,xk,xkn,xkc,rfl,hnx,hkx⟩
 have HNx:=jd (hnx.mono (G:=fun _=>True) (fun _ _ _=>trivial));have Kx:Hid (Kept (fun _=>False) W3 wx):=jd (((Ja _ W3).alloc _).trans hkx (fun _ _ h=>h))
 have hzx:=Kx.o.size
 clear hnx hkx
 go_wp2_with fail
 refine(po (wx.alloc (.cells #[.string (BA [121])] 9)) _ [121] (heap_alloc wx _)).mono ?_
 rintro e wy ⟨ya,yan,yac,yw,ywn,ywc,yr,yrn,yrc,yk,ykn,ykc,rfl,hny,hky⟩
 have HNy:=jd (hny.mono (G:=fun _=>True) (fun _ _ _=>trivial));have Ky:Hid (Kept (fun _=>False) wx wy):=jd (((Ja _ wx).alloc _).trans hky (fun _ _ h=>h))
 have hzy:=Ky.o.size
 clear hny hky
 go_wp2_with fail
 obtain⟨b5,hb5⟩:∃b,wy.heap.size=b:=⟨_,rfl⟩
 obtain⟨W5,hW5⟩:∃W,wy.alloc (.cells #[.int .i64 1,.bool false,.string (BA []),.slice xa xan xac,.slice xw xwn xwc,.slice xr xrn xrc,.slice xk xkn xkc,.int .i64 1,.bool false,.string (BA []),.slice ya yan yac,.slice yw ywn ywc,.slice yr yrn yrc,.slice yk ykn ykc] 27)=W:=⟨_,rfl⟩
 rw[hW5,hb5]
 have hz5:W5.heap.size=b5+1:=by rw[←hW5,←hb5,World.size_alloc]
 have KP5:Hid (Kept (fun _=>False) wy W5):=jd (by rw[←hW5];exact(Ja _ wy).alloc _)
 have B5:W5.heap[b5]? =some (.cells #[.int .i64 1,.bool false,.string (BA []),.slice xa xan xac,.slice xw xwn xwc,.slice xr xrn xrc,.slice xk xkn xkc,.int .i64 1,.bool false,.string (BA []),.slice ya yan yac,.slice yw ywn ywc,.slice yr yrn yrc,.slice yk ykn ykc] 27 (0,0)):=by rw[←hb5,←hW5];exact heap_alloc wy _
 have HM5:Hid (NAt W5 (fun _=>True) (.agg #[.int .i64 2,.bool true,.string ⟨#[]⟩,.slice none 0 0,.slice none 0 0,.slice none 0 0,.slice (some ⟨b5,0,none⟩) 2 2]) (.mk 2 true [] [] [] [] [gA [120],gA [121]])):=jd (NAt.shut (n:=(.mk 2 true [] [] [] [] [gA [120],gA [121]])) (bQ.nil _ _) (bQ.nil _ _) (bQ.nil _ _) (nc B5 ((HNx.o.kept Ky.o (fun _ _ h=>h)).kept KP5.o (fun _ _ h=>h)) (HNy.o.kept KP5.o (fun _ _ h=>h)) trivial))
 rw[←hz5]
 clear hW5 B5 hb5
 refine(po (W5.alloc (.cells #[.string (BA [122])] 9)) _ [122] (heap_alloc W5 _)).mono ?_
 rintro e wz ⟨za,zan,zac,zw,zwn,zwc,zr,zrn,zrc,zk,zkn,zkc,rfl,hnz,hkz⟩
 have HNz:=jd (hnz.mono (G:=fun _=>True) (fun _ _ _=>trivial));have Kz:Hid (Kept (fun _=>False) W5 wz):=jd (((Ja _ W5).alloc _).trans hkz (fun _ _ h=>h))
 have hzz:=Kz.o.size
 clear hnz hkz
 go_wp2_with fail
 obtain⟨b6,hb6⟩:∃b,wz.heap.size=b:=⟨_,rfl⟩
 obtain⟨W6,hW6⟩:∃W,wz.alloc (.cells #[.int .i64 2,.bool true,.string ⟨#[]⟩,.slice none 0 0,.slice none 0 0,.slice none 0 0,.slice (some ⟨b5,0,none⟩) 2 2,.int .i64 1,.bool false,.string (BA []),.slice za zan zac,.slice zw zwn zwc,.slice zr zrn zrc,.slice zk zkn zkc] 27)=W:=⟨_,rfl⟩
 rw[hW6,hb6]
 have hz6:W6.heap.size=b6+1:=by rw[←hW6,←hb6,World.size_alloc]
 have KP6:Hid (Kept (fun _=>False) wz W6):=jd (by rw[←hW6];exact(Ja _ wz).alloc _)
 have B6:W6.heap[b6]? =some (.cells #[.int .i64 2,.bool true,.string ⟨#[]⟩,.slice none 0 0,.slice none 0 0,.slice none 0 0,.slice (some ⟨b5,0,none⟩) 2 2,.int .i64 1,.bool false,.string (BA []),.slice za zan zac,.slice zw zwn zwc,.slice zr zrn zrc,.slice zk zkn zkc] 27 (0,0)):=by rw[←hb6,←hW6];exact heap_alloc wz _
 have HM6:Hid (NAt W6 (fun _=>True) (.agg #[.int .i64 3,.bool false,.string ⟨#[]⟩,.slice none 0 0,.slice none 0 0,.slice none 0 0,.slice (some ⟨b6,0,none⟩) 2 2]) (ndK 3 [(.mk 2 true [] [] [] [] [gA [120],gA [121]]),gA [122]])):=jd (NAt.shut (n:=(ndK 3 [(.mk 2 true [] [] [] [] [gA [120],gA [121]]),gA [122]])) (bQ.nil _ _) (bQ.nil _ _) (bQ.nil _ _) (nc B6 ((HM5.o.kept Kz.o (fun _ _ h=>h)).kept KP6.o (fun _ _ h=>h)) (HNz.o.kept KP6.o (fun _ _ h=>h)) trivial))
 rw[←hz6]
 clear hW6 B6 hb6
 refine(po (W6.alloc (.cells #[.string (BA [119])] 9)) _ [119] (heap_alloc W6 _)).mono ?_
 rintro e wv ⟨va,van,vac,vw,vwn,vwc,vr,vrn,vrc,vk,vkn,vkc,rfl,hnv,hkv⟩
 have HNv:=jd (hnv.mono (G:=fun _=>True) (fun _ _ _=>trivial));have Kv:Hid (Kept (fun _=>False) W6 wv):=jd (((Ja _ W6).alloc _).trans hkv (fun _ _ h=>h))
 have hzv:=Kv.o.size
 clear hnv hkv
 have K1v:Hid (Kept (fun _=>False) W1 wv):=jd (((((((K3.o.trans Kx.o (fun _ _ h=>h)).trans Ky.o (fun _ _ h=>h)).trans KP5.o (fun _ _ h=>h)).trans Kz.o (fun _ _ h=>h)).trans KP6.o (fun _ _ h=>h))).trans Kv.o (fun _ _ h=>h))
 have K3v:Hid (Kept (fun _=>False) W3 wv):=jd ((((((Kx.o.trans Ky.o (fun _ _ h=>h)).trans KP5.o (fun _ _ h=>h)).trans Kz.o (fun _ _ h=>h)).trans KP6.o (fun _ _ h=>h))).trans Kv.o (fun _ _ h=>h))
 have B1v:=jd (K1v.o.heap B1.o (fun h=>h))
 have hb1v:=aj B1v.o
 obtain⟨⟨y0,y1,y2,y3,y4,y5,y6⟩,-⟩:=NBx.cells (show NBx wv b1 _ from B1v.o)
 obtain⟨b7,hb7⟩:∃b,wv.heap.size=b:=⟨_,rfl⟩
 obtain⟨W7,hW7⟩:∃W,wv.alloc (.cells #[.int .i64 3,.bool false,.string ⟨#[]⟩,.slice none 0 0,.slice none 0 0,.slice none 0 0,.slice (some ⟨b6,0,none⟩) 2 2,.int .i64 1,.bool false,.string (BA []),.slice va van vac,.slice vw vwn vwc,.slice vr vrn vrc,.slice vk vkn vkc] 27)=W:=⟨_,rfl⟩
 obtain⟨W8,hW8⟩:∃W,W7.alloc (.cells #[.int .i64 5,.bool false,.string ⟨#[]⟩,.slice none 0 0,.slice none 0 0,.slice none 0 0,.slice (some ⟨b7,0,none⟩) 2 2] 27)=W:=⟨_,rfl⟩
 have hz7:W7.heap.size=b7+1:=by rw[←hW7,←hb7,World.size_alloc]
 have KP7:Hid (Kept (fun _=>False) wv W7):=jd (by rw[←hW7];exact(Ja _ wv).alloc _)
 have KP8:Hid (Kept (fun _=>False) W7 W8):=jd (by rw[←hW8];exact(Ja _ W7).alloc _)
 have KP:Hid (Kept (fun _=>False) wv W8):=jd (KP7.o.trans KP8.o (fun _ _ h=>h))
 have B7:W7.heap[b7]? =some (.cells #[.int .i64 3,.bool false,.string ⟨#[]⟩,.slice none 0 0,.slice none 0 0,.slice none 0 0,.slice (some ⟨b6,0,none⟩) 2 2,.int .i64 1,.bool false,.string (BA []),.slice va van vac,.slice vw vwn vwc,.slice vr vrn vrc,.slice vk vkn vkc] 27 (0,0)):=by rw[←hb7,←hW7];exact heap_alloc wv _
 have B8:Hid (NBx W8 (b7+1) #[.int .i64 5,.bool false,.string ⟨#[]⟩,.slice none 0 0,.slice none 0 0,.slice none 0 0,.slice (some ⟨b7,0,none⟩) 2 2]):=jd (by rw[←hz7,←hW8];exact heap_alloc W7 _)
 have HM7:Hid (NAt W7 (fun _=>True) (.agg #[.int .i64 5,.bool false,.string ⟨#[]⟩,.slice none 0 0,.slice none 0 0,.slice none 0 0,.slice (some ⟨b7,0,none⟩) 2 2]) (ndK 5 [(ndK 3 [(.mk 2 true [] [] [] [] [gA [120],gA [121]]),gA [122]]),gA [119]])):=jd (NAt.shut (n:=(ndK 5 [(ndK 3 [(.mk 2 true [] [] [] [] [gA [120],gA [121]]),gA [122]]),gA [119]])) (bQ.nil _ _) (bQ.nil _ _) (bQ.nil _ _) (nc B7 ((HM6.o.kept Kv.o (fun _ _ h=>h)).kept KP7.o (fun _ _ h=>h)) (HNv.o.kept KP7.o (fun _ _ h=>h)) trivial))
 have HM8:Hid (NAt W8 (fun _=>True) (.agg #[.int .i64 5,.bool false,.string ⟨#[]⟩,.slice none 0 0,.slice none 0 0,.slice none 0 0,.slice (some ⟨b7,0,none⟩) 2 2]) N2):=jd (by rw[←HN2.o];exact HM7.o.kept KP8.o (fun _ _ h=>h))
 have HW7:=jd hW7;have HW8:=jd hW8;have HB7:=jd hb7;have HZ7:=jd hz7
 have HT1:Hid (NAt W8 (fun b=>b<b1) (.agg #[.int .i64 N1.kind,.bool N1.neg,.string (BA N1.name),.slice aa an ac,.slice wa wn wc,.slice ra rn rc,.slice ka kn kc]) N1):=jd ((HA1'.o.kept K1v.o (fun _ _ h=>h)).kept KP.o (fun _ _ h=>h))
 have K18:Hid (Kept (fun _=>False) W1 W8):=jd (K1v.o.trans KP.o (fun _ _ h=>h))
 have hW18:=K18.o.size
 clear B7 hW7 hW8 hb7 hz7
 go_wp2_with fail
 rw[HB7.o,HW7.o,HW8.o]
 refine(ju _ _ _ _ HT1.o (fun b h=>Nat.lt_of_lt_of_le (Nat.lt_trans h hbW1) hW18) HSM1.o ((HE.o.ag K1'.o).ag K18.o) ((HSE.o.kept K1'.o (fun h=>h)).kept K18.o (fun h=>h))).mono ?_
 rintro e w9 ⟨rfl,k9⟩
 have K9:=jd k9
 clear k9
 have htx:mG N1=wt1:=by rw[←HN1.o];exact CD
 rw[htx]
 have HT9:=jd (HT1.o.kept K9.o (fun _ _ h=>h))
 obtain⟨va9,vw9,vr9,vk9,hve,hra,hrw,hrr,-⟩:=HT9.o.open
 have eal:N1.al.length=1:=by rw[←HN1.o];rfl
 have ews:N1.ws.length=2:=by rw[←HN1.o];rfl
 have ers:N1.rs.length=1:=by rw[←HN1.o];rfl
 have er0:N1.rs[0]? =some (7,mg [102]):=by rw[←HN1.o];rfl
 have hve':=hve
 simp only[nv,Value.agg.injEq,Array.mk.injEq,List.cons.injEq,and_true,true_and] at hve'
 obtain⟨rfl,rfl,rfl,rfl⟩:=hve'
 obtain rfl:an=1:=by rw[hra.len,eal]
 obtain rfl:wn=2:=by rw[hrw.len,ews]
 obtain rfl:rn=1:=by rw[hrr.len,ers]
 obtain⟨rb,ro,oa,on,oc,rfl,-,r0,r1⟩:=hrr.elem (by intro x;rfl) (by decide) er0
 have hrbl:rb<w9.heap.size:=by
  obtain⟨_,_,_,hrb,_⟩:=hrr
  exact(hrb rb rfl).2
 have t1:w9.cell? ⟨rb,ro,none⟩=some (.int .i64 7):=by simpa[RC] using r0
 have B1n:Hid (NBx w9 b1 _):=jd (K9.o.heap (KP.o.heap B1v.o (fun h=>h)) (fun h=>h))
 have B3n:Hid (NBx w9 b3 _):=jd (K9.o.heap (KP.o.heap (K3v.o.heap B3.o (fun h=>h)) (fun h=>h)) (fun h=>h))
 have B8n:Hid (NBx w9 (b7+1) _):=jd (K9.o.heap B8.o (fun h=>h))
 have HK9:Hid (Kept (fun _=>False) w w9):=jd ((K1'.o.trans K18.o (fun _ _ h=>h)).trans K9.o (fun _ _ h=>h))
 have HSA:=jd ((((HA3.o.kept K3v.o (fun _ _ h=>h)).kept KP.o (fun _ _ h=>h)).kept K9.o (fun _ _ h=>h)))
 have HSB:=jd (HM8.o.kept K9.o (fun _ _ h=>h))
 have hl1:=aj B1n.o;have hl3:=aj B3n.o;have hl8:=aj B8n.o
 clear y0 y1 y2 y3 y4 y5 y6 hve htx hra hrw hrr eal ews ers er0 r0 r1
 obtain⟨⟨y0,y1,y2,y3,y4,y5,y6⟩,-⟩:=NBx.cells B1n.o
 obtain⟨⟨u0,u1,u2,u3,u4,u5,u6⟩,-⟩:=NBx.cells B3n.o
 obtain⟨⟨z0,z1,z2,z3,z4,z5,z6⟩,-⟩:=NBx.cells B8n.o
 have hbq:(BA wt1==(⟨#[97,61,49,32,98,32,39,99,39,32,60,102]⟩:ByteArray))=true:=by decide+kernel
 go_wp2_with fail
 refine(ll HSA.o HSB.o).mono ?_
 rintro e w10 ⟨rfl,k10⟩
 rw[jB]
 have K10:=jd k10
 clear k10
 go_wp2_with fail
 go_ret
 exact⟨rfl,HK9.o.trans K10.o (fun _ _ h=>h)⟩
end Go.Proofs.YtgigdlhcjahejaaGreatDoor
namespace Go.Proofs.YtgigdlhcjahejaaGreatDoor
open Go Go.RowKit Go.Lw
set_option linter.unusedVariables false
set_option linter.unusedSimpArgs false
theorem ie {k:Int} {b:Bool} {s:LB} {a:List (LB×LP)} {w:List LP} {r:List (Int×LP)} {l:List Nd} {red:Bool} (h:bZ (.mk k b s a w r l) red=true):b=false∧s=[]∧a=[]∧w=[]∧eY r=true∧(red=false→r=[]):=by
 unfold bZ at h
 simp only[Bool.and_eq_true,Bool.not_eq_true',List.isEmpty_iff,Bool.or_eq_true] at h
 obtain⟨⟨⟨⟨h1,h2⟩,h3⟩,h4⟩,h5⟩:=h
 refine⟨h1,h2,h3,h4,?_,fun e=>?_⟩
 ·rcases h5 with h5|h5
  ·rw[h5];rfl
  ·exact h5.2
 ·rcases h5 with h5|h5
  ·exact h5
  ·rw[e] at h5;exact absurd h5.1 (by decide)
theorem vf {k:Int} {b:Bool} {s:LB} {a:List (LB×LP)} {w:List LP} {r:List (Int×LP)} {l:List Nd} (h:cv (.mk k b s a w r l)=true):b=false∧s=[]∧l=[]∧¬(a=[]∧w=[]∧r=[])∧(∀x∈a,iA x=false)∧iF w=true∧eY r=true∧j6 a w=true:=by
 unfold cv at h
 simp only[Bool.and_eq_true,Bool.not_eq_true',Bool.or_eq_false_iff,Bool.not_eq_false',List.isEmpty_iff,Bool.and_eq_false_iff,List.any_eq_false] at h
 obtain⟨⟨⟨⟨⟨⟨⟨h1,h2⟩,h3⟩,h4⟩,h5⟩,h6⟩,h7⟩,h8⟩:=h
 refine⟨h1,h2,h3,?_,fun x hx=>by simpa using h5 x hx,h6,h7,h8⟩
 rintro⟨rfl,rfl,rfl⟩
 simp at h4
theorem AK {k:Int} {b:Bool} {s:LB} {a:List (LB×LP)} {w:List LP} {r:List (Int×LP)} {l:List Nd} (h:dS (.mk k b s a w r l)=true):b=false∧a=[]∧cQ s=true∧iF w=true∧eY r=true∧l.length=1∧aJ (.mk k b s a w r l)=true:=by
 unfold dS at h
 simp only[Bool.and_eq_true,Bool.not_eq_true',List.isEmpty_iff,decide_eq_true_eq] at h
 obtain⟨⟨⟨⟨⟨⟨h1,h2⟩,h3⟩,h4⟩,h5⟩,h6⟩,h7⟩:=h
 exact⟨h1,h2,h3,h4,h5,h6,h7⟩
theorem gG {k:Int} {b:Bool} {s:LB} {a:List (LB×LP)} {w:List LP} {r:List (Int×LP)} {l:List Nd} (h:aJ (.mk k b s a w r l)=true):∀x∈l,cf x=true:=by
 unfold aJ at h
 simp only[Bool.not_eq_true',List.any_eq_false] at h
 intro x hx
 simpa using h x hx
inductive ShK:Int→Bool→LB→List (LB×LP)→List LP→List (Int×LP)→List Nd→Prop
 |simple {a w r} (h0:¬(a=[]∧w=[]∧r=[])) (h1:∀x∈a,iA x=false) (h2:iF w=true) (h3:eY r=true) (h4:j6 a w=true):ShK 1 false [] a w r []
 |pipe {b l} (h1:1<l.length∨b=true∧l.length=1) (h2:∀x∈l,cA x.kind=true):ShK 2 b [] [] [] [] l
 |joined {k x y} (hk:k=3∨k=4) (h1:x.kind≠5) (h2:y.kind≠5∧y.kind≠3∧y.kind≠4):ShK k false [] [] [] [] [x,y]
 |list {l} (h1:l.length≠1) (h2:∀x∈l,x.kind≠5):ShK 5 false [] [] [] [] l
 |branches {r l} (h1:eY r=true) (h2:2≤l.length) (h3:∀x∈l,cf x=true):ShK 6 false [] [] [] r l
 |loop {k r x y} (hk:k=7∨k=8) (h1:eY r=true) (h2:cf x=true) (h3:cf y=true):ShK k false [] [] [] r [x,y]
 |each {s w r x} (h0:cQ s=true) (h1:iF w=true) (h2:eY r=true) (h3:cf x=true):ShK 9 false s [] w r [x]
 |group {r x} (h1:eY r=true) (h2:cf x=true):ShK 10 false [] [] [] r [x]
theorem fT {k:Int} {b:Bool} {s:LB} {a:List (LB×LP)} {w:List LP} {r:List (Int×LP)} {l:List Nd} (h:aZ (.mk k b s a w r l)=true):ShK k b s a w r l:=by
 rw[aZ] at h
 split at h
 ·rename_i e;subst e
  obtain⟨rfl,rfl,rfl,h0,h1,h2,h3,h4⟩:=vf h
  exact .simple h0 h1 h2 h3 h4
 split at h
 ·rename_i e;subst e
  unfold pR at h
  simp only[Bool.and_eq_true,Bool.or_eq_true,decide_eq_true_eq,Bool.not_eq_true',List.any_eq_false] at h
  obtain⟨⟨h1,h2⟩,h3⟩:=h
  obtain⟨-,rfl,rfl,rfl,-,hr⟩:=ie h1
  cases hr rfl
  exact .pipe h2 (fun x hx=>by simpa using h3 x hx)
 split at h
 ·rename_i e
  unfold cN at h
  rw[Bool.and_eq_true] at h
  obtain⟨rfl,rfl,rfl,rfl,-,hr⟩:=ie h.1
  cases hr rfl
  have h2:=h.2
  unfold mR at h2
  split at h2
  ·simp only[Bool.and_eq_true,bne_iff_ne,ne_eq] at h2
   exact .joined e h2.1.1.1 ⟨h2.1.1.2,h2.1.2,h2.2⟩
  ·cases h2
 split at h
 ·rename_i e;subst e
  unfold iK at h
  simp only[Bool.and_eq_true,decide_eq_true_eq,Bool.not_eq_true',List.any_eq_false] at h
  obtain⟨⟨h1,h2⟩,h3⟩:=h
  obtain⟨rfl,rfl,rfl,rfl,-,hr⟩:=ie h1
  cases hr rfl
  exact .list h2 (fun x hx=>by simpa using h3 x hx)
 split at h
 ·rename_i e;subst e
  unfold cY at h
  rw[Bool.and_eq_true,Bool.and_eq_true,decide_eq_true_eq] at h
  obtain⟨rfl,rfl,rfl,rfl,hr,-⟩:=ie h.1.1
  exact .branches hr h.1.2 (gG h.2)
 split at h
 ·rename_i e
  unfold fL at h
  rw[Bool.and_eq_true,Bool.and_eq_true,decide_eq_true_eq] at h
  obtain⟨rfl,rfl,rfl,rfl,hr,-⟩:=ie h.1.1
  obtain⟨x,y,rfl⟩:∃x y,l=[x,y]:=by
   have h2:=h.1.2
   match l,h2 with
   |[x,y],_=>exact⟨x,y,rfl⟩
  exact .loop e hr (gG h.2 x (by simp)) (gG h.2 y (by simp))
 split at h
 ·rename_i e;subst e
  obtain⟨rfl,rfl,h0,h1,h2,h3,h4⟩:=AK h
  obtain⟨x,rfl⟩:=List.length_eq_one_iff.1 h3
  exact .each h0 h1 h2 (gG h4 x (by simp))
 split at h
 ·rename_i e;subst e
  unfold eU at h
  rw[Bool.and_eq_true,Bool.and_eq_true,decide_eq_true_eq] at h
  obtain⟨rfl,rfl,rfl,rfl,hr,-⟩:=ie h.1.1
  obtain⟨x,rfl⟩:=List.length_eq_one_iff.1 h.1.2
  exact .group hr (gG h.2 x (by simp))
 ·cases h
theorem uP {s t:LB} {l m:List Kt} (h:Lo s l) (e:t=s) (f:m=l):Lo t m:=by rw[e,f];exact h
theorem DK:∀n:Nd,Shp n→Lo (aK n) (aI n):=by
 refine n7 fun k b s a w r l ih hs=>?_
 obtain⟨h,hl⟩:=hs.open
 have ih':∀n∈l,Lo (aK n) (aI n):=fun n hn=>ih n hn (hl n hn)
 have hk:∀x∈l.map (fun n=>(aK n,aI n)),Lo x.1 x.2:=fun x hx=>by
  obtain⟨n,hn,rfl⟩:=List.mem_map.1 hx;exact ih' n hn
 have e1:l.map aK=(l.map (fun n=>(aK n,aI n))).map (·.1):=by rw[List.map_map];rfl
 have e2:l.map aI=(l.map fun n=>(aK n,aI n)).map (·.2):=by rw[List.map_map];rfl
 rw[BL,il]
 have op:∀k∈[vP,orK,ft],Lo k.2 [k]:=fun k hk=>FF (List.mem_cons_of_mem _ hk)
 cases fT h with
 |simple h0 h1 h2 h3 h4=>
  obtain⟨x,hx1,hx2,hx3⟩:=vB h1 (fun y hy=>((jQ h2).2 y hy).2)
  have:=so hx3 h3
  rw[hx1,hx2] at this
  exact this
 |pipe h1 h2=>
  have hp:=Lo.Fp (op ft (by simp)) hk
  rw[←e1,←e2] at hp
  cases b with
  |false=>exact hp
  |true=>exact uP ((dZ (s:=dU) (by decide)).blank hp) rfl rfl
 |joined hk' h1 h2=>
  rcases hk' with rfl|rfl
  ·have hp:=Lo.Fp (op vP (by simp)) hk
   rw[←e1,←e2] at hp
   exact hp
  ·have hp:=Lo.Fp (op orK (by simp)) hk
   rw[←e1,←e2] at hp
   exact hp
 |list h1 h2=>
  have hp:=Lo.Gw hk
  rw[←e1,←e2] at hp
  exact hp
 |branches h1 h2 h3=>
  have hp:=jx (rZ (l.map (fun n=>(aK n,aI n))) true (by rw[List.length_map];omega) hk rIf [kwK rIf] (dZ (by decide))) h1
  rw[←e1,←e2] at hp
  refine uP hp ?_ ?_
  ·show aT [rIf++[32]++bK true _++rFi] r=_
   simp
  ·show kwK rIf::dh true _++[kwK rFi]++cJ r=_
   simp
 |@loop k r x y hk' h1 h2 h3=>
  have go:∀kw:LB,kw∈gE→Lo (aT [kw++[32]++aK x++[59,32]++rDo++[32]++aK y++[59,32]++bM] r) (kwK kw::aI x++[aW,kwK rDo]++aI y++[aW,kwK bM]++cJ r):=fun kw hkw=>by
   have hp:=jx ((((((((dZ hkw).blank (ih' x (by simp))).od).blank (dZ (s:=rDo) (by decide))).blank (ih' y (by simp))).od).blank (dZ (s:=bM) (by decide)))) h1
   refine uP hp ?_ ?_<;>simp
  rcases hk' with rfl|rfl
  ·exact go dE (by decide)
  ·exact go dI (by decide)
 |@each s w r x h0 h1 h2 h3=>
  obtain⟨z,hz1,hz2,hz3⟩:=vB (a:=[]) (w:=w) (fun _ h=>by cases h) (fun y hy=>((jQ h1).2 y hy).2)
  have hd:Lo (fh++32::s++32::rIn) ([kwK fh]++[kwK s]++[kwK rIn]):=((dZ (s:=fh) (by decide)).blank (yR h0)).blank (dZ (s:=rIn) (by decide))
  have hj:=Lo.F6 (l:=(fh++32::s++32::rIn,[kwK fh]++[kwK s]++[kwK rIn])::z) (fun y hy=>by
   rcases Jl.1 hy with rfl|hy
   ·exact hd
   ·exact hz3 y hy)
  rw[List.map_cons,List.map_cons,hz1,List.flatten_cons,hz2] at hj
  have hp:=jx (((((hj.od).blank (dZ (s:=rDo) (by decide))).blank (ih' x (by simp))).od).blank (dZ (s:=bM) (by decide))) h2
  refine uP hp ?_ ?_
  ·show aT [cG [32] ((fh++[32]++s++[32]++rIn)::cd [] w)++[59,32]++rDo++[32]++aK x++[59,32]++bM] r=_
   simp
  ·show[kwK fh,kwK s,kwK rIn]++ky [] w++[aW,kwK rDo]++aI x++[aW,kwK bM]++cJ r=_
   simp
 |@group r x h1 h2=>
  have hp:=jx ((((dZ (s:=im) (by decide)).blank (ih' x (by simp))).od).blank (dZ (s:=eO) (by decide))) h1
  refine uP hp ?_ ?_
  ·show aT [[123,32]++aK x++[59,32,125]] r=aT [im++32::aK x++[59]++32::eO] r
   simp[im,eO]
  ·show kwK im::aI x++[aW,kwK eO]++cJ r=_
   simp
theorem zZ {n:Nd} (h:eF n=true):∃l,dG (aK n)= .ok l∧l.map Tk.kt=aI n:=by
 unfold eF at h
 simp only[Bool.and_eq_true,List.all_eq_true,decide_eq_true_eq] at h
 have hs:Shp n:=h.1.1.1
 have hlo:=DK n hs
 refine D8 ?_ h.2 hlo.ok
 have:=hlo.lx [] (.inl rfl)
 rw[List.append_nil] at this
 rw[this]
 show Except.map _ (.ok [])=_
 show Except.ok (aI n++[])=_
 rw[List.append_nil]
end Go.Proofs.YtgigdlhcjahejaaGreatDoor
