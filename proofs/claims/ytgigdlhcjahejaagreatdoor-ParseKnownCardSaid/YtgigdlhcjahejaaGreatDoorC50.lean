/- Of the proof of ParseKnown: PrX, PkP. -/
import Derived.Test.YtgigdlhcjahejaaGreatDoorC49
import Derived.Test.YtgigdlhcjahejaaGreatDoorC40
namespace Go.Proofs.YtgigdlhcjahejaaGreatDoor
open Go Go.RowKit Go.Lw
set_option maxRecDepth 100000
set_option linter.unusedVariables false
set_option linter.unusedSimpArgs false
attribute [local go_sem] aq
theorem fJ (w:World) (s:List UInt8) (n:Nd) (hr:Reads s (.ok n)) (hE:bu w) (hS:jQ w) (hs9:s.length≤1000000):
  Calls Tryz.prog 9 #[.string (BA s)] w fun e w'=>∃(aa:Option Addr) (an ac:Nat) (wa:Option Addr) (wn wc:Nat) (ra:Option Addr) (rn rc:Nat) (ka:Option Addr) (kn kc:Nat),
   e= .returned (.tuple #[.agg #[.int .i64 n.kind,.bool n.neg,.string (BA n.name),.slice aa an ac,.slice wa wn wc,.slice ra rn rc,.slice ka kn kc],.int .i64 0])∧NAt w' (fun b=>w.heap.size≤b) (.agg #[.int .i64 n.kind,.bool n.neg,.string (BA n.name),.slice aa an ac,.slice wa wn wc,.slice ra rn rc,.slice ka kn kc]) n∧SmN n∧Kept (fun _=>False) w w':=by
 refine(ny w s hE hS hs9).mono ?_
 rintro e w' ⟨x,hx,hp,hk⟩
 obtain rfl:=hx.det hr
 obtain⟨v,rfl,hn,hsm⟩:=hp
 obtain⟨aa,an,ac,wa,wn,wc,ra,rn,rc,ka,kn,kc,rfl,_⟩:=hn.opens
 exact⟨aa,an,ac,wa,wn,wc,ra,rn,rc,ka,kn,kc,rfl,hn,hsm,hk⟩
theorem eS (w:World) (s:List UInt8) (c:Nat) (hr:Reads s (.error c)) (hE:bu w) (hS:jQ w) (hs9:s.length≤1000000):
  Calls Tryz.prog 9 #[.string (BA s)] w fun e w'=>e= .returned (.tuple #[.agg #[.int .i64 0,.bool false,.string ⟨#[]⟩,.slice none 0 0,.slice none 0 0,.slice none 0 0,.slice none 0 0],.int .i64 (c:Int)])∧Kept (fun _=>False) w w':=by
 refine(ny w s hE hS hs9).mono ?_
 rintro e w' ⟨x,hx,hp,hk⟩
 obtain rfl:=hx.det hr
 exact⟨hp,hk⟩
theorem BM:wk1.length≤1000000:=by decide
theorem Bz:wk2.length≤1000000:=by decide
theorem mG (w:World) (sb:Nat) (s:List UInt8) (hb:w.heap[sb]? =some (.cells #[.string (BA s)] 9 (0,0))):
  Calls Tryz.prog 15 #[.slice (some ⟨sb,0,none⟩) 1 1] w fun e w'=>∃(aa:Option Addr) (an ac:Nat) (wa:Option Addr) (wn wc:Nat) (ra:Option Addr) (rn rc:Nat) (ka:Option Addr) (kn kc:Nat),
   e= .returned (.agg #[.int .i64 1,.bool false,.string (BA []),.slice aa an ac,.slice wa wn wc,.slice ra rn rc,.slice ka kn kc])∧NAt w' (fun i=>w.heap.size≤i) (.agg #[.int .i64 1,.bool false,.string (BA []),.slice aa an ac,.slice wa wn wc,.slice ra rn rc,.slice ka kn kc]) (fp s)∧Kept (fun _=>False) w w':=by
 refine(zE w sb s hb).mono ?_
 rintro e w' ⟨v,rfl,hn,hk⟩
 obtain⟨aa,an,ac,wa,wn,wc,ra,rn,rc,ka,kn,kc,rfl,_⟩:=hn.opens
 exact⟨aa,an,ac,wa,wn,wc,ra,rn,rc,ka,kn,kc,rfl,hn,hk⟩
set_option maxHeartbeats 16000000 in
theorem vL (w:World) (hE:bu w) (hS:jQ w):Calls Tryz.prog 12 #[] w fun e w'=>e= .returned (.bool true)∧Kept (fun _=>False) w w':=by
 have HE:=jd hE;have HSE:=jd hS
 obtain⟨N1,hN1⟩:∃n,wn1=n:=⟨_,rfl⟩
 obtain⟨N2,hN2⟩:∃n,wn2=n:=⟨_,rfl⟩
 have R1:Hid (Reads wk1 (.ok N1)):=jd (hN1▸vx)
 have R2:Hid (Reads wk2 (.ok N2)):=jd (hN2▸vt)
 have HN1:=jd hN1;have HN2:=jd hN2
 clear hE hS hN1 hN2
 go_enter Tryz.func12,Tryz.ntmps12
 go_wp2_with fail
 refine(fJ _ wk1 N1 R1.o HE.o HSE.o BM).mono ?_
 rintro e w1 ⟨aa,an,ac,wa,wn,wc,ra,rn,rc,ka,kn,kc,rfl,hn1,hsm1,k1⟩
 have HA1:=jd hn1;have HSM1:=jd hsm1;have K1:=jd k1
 have hz1:=k1.size
 clear hn1 hsm1 k1
 go_wp2_with fail
 obtain⟨W1,hW1⟩:∃W,w1.alloc (.cells #[.int .i64 N1.kind,.bool N1.neg,.string (BA N1.name),.slice aa an ac,.slice wa wn wc,.slice ra rn rc,.slice ka kn kc] 27)=W:=⟨_,rfl⟩
 rw[hW1]
 obtain⟨b1,hb1⟩:∃b,w1.heap.size=b:=⟨_,rfl⟩
 have B1:Hid (NBx W1 b1 #[.int .i64 N1.kind,.bool N1.neg,.string (BA N1.name),.slice aa an ac,.slice wa wn wc,.slice ra rn rc,.slice ka kn kc]):=jd (by rw[←hb1,←hW1];exact heap_alloc w1 _)
 have KW1:Hid (Kept (fun _=>False) w1 W1):=jd (by rw[←hW1];exact(Kept.refl _ w1).alloc _)
 have K1':Hid (Kept (fun _=>False) w W1):=jd (K1.o.trans KW1.o (fun _ _ h=>h))
 have HA1':Hid (NAt W1 (fun b=>b<b1) (.agg #[.int .i64 N1.kind,.bool N1.neg,.string (BA N1.name),.slice aa an ac,.slice wa wn wc,.slice ra rn rc,.slice ka kn kc]) N1):=jd ((HA1.o.mono (fun i h _=>by rw[←hb1];exact h)).kept KW1.o (fun _ _ h=>h))
 have hbW1:b1<W1.heap.size:=ah B1.o
 rw[hb1]
 clear hW1 hb1 HA1 K1 KW1 hz1
 refine(fJ _ wk2 N2 R2.o (HE.o.af K1'.o) (HSE.o.kept K1'.o (fun h=>h)) Bz).mono ?_
 rintro e w2 ⟨aa2,an2,ac2,wa2,wn2,wc2,ra2,rn2,rc2,ka2,kn2,kc2,rfl,hn2,hsm2,k2⟩
 have HA2:=jd hn2;have K2:=jd k2
 have hz2:=k2.size
 clear hn2 hsm2 k2
 go_wp2_with fail
 obtain⟨b3,hb3⟩:∃b,w2.heap.size=b:=⟨_,rfl⟩
 obtain⟨W3,hW3⟩:∃W,w2.alloc (.cells #[.int .i64 N2.kind,.bool N2.neg,.string (BA N2.name),.slice aa2 an2 ac2,.slice wa2 wn2 wc2,.slice ra2 rn2 rc2,.slice ka2 kn2 kc2] 27)=W:=⟨_,rfl⟩
 rw[hW3]
 have hz3:W3.heap.size=b3+1:=by rw[←hW3,←hb3,World.size_alloc]
 have B3:Hid (NBx W3 b3 #[.int .i64 N2.kind,.bool N2.neg,.string (BA N2.name),.slice aa2 an2 ac2,.slice wa2 wn2 wc2,.slice ra2 rn2 rc2,.slice ka2 kn2 kc2]):=jd (by rw[←hb3,←hW3];exact heap_alloc w2 _)
 have KW3:Hid (Kept (fun _=>False) w2 W3):=jd (by rw[←hW3];exact(Kept.refl _ w2).alloc _)
 have K3:Hid (Kept (fun _=>False) W1 W3):=jd (K2.o.trans KW3.o (fun _ _ h=>h))
 have HA3:Hid (NAt W3 (fun _=>True) (.agg #[.int .i64 N2.kind,.bool N2.neg,.string (BA N2.name),.slice aa2 an2 ac2,.slice wa2 wn2 wc2,.slice ra2 rn2 rc2,.slice ka2 kn2 kc2]) N2):=jd ((HA2.o.mono (fun i h _=>trivial)).kept KW3.o (fun _ _ h=>h))
 rw[hb3]
 rw[←hz3]
 clear hW3 HA2 K2 KW3 hb3
 refine(mG (W3.alloc (.cells #[.string (BA [120])] 9)) _ [120] (heap_alloc W3 _)).mono ?_
 rintro e wx ⟨xa,xan,xac,xw,xwn,xwc,xr,xrn,xrc,xk,xkn,xkc,rfl,hnx,hkx⟩
 have HNx:=jd (hnx.mono (G:=fun _=>True) (fun _ _ _=>trivial));have Kx:Hid (Kept (fun _=>False) W3 wx):=jd (((Kept.refl _ W3).alloc _).trans hkx (fun _ _ h=>h))
 have hzx:=Kx.o.size
 clear hnx hkx
 go_wp2_with fail
 refine(mG (wx.alloc (.cells #[.string (BA [121])] 9)) _ [121] (heap_alloc wx _)).mono ?_
 rintro e wy ⟨ya,yan,yac,yw,ywn,ywc,yr,yrn,yrc,yk,ykn,ykc,rfl,hny,hky⟩
 have HNy:=jd (hny.mono (G:=fun _=>True) (fun _ _ _=>trivial));have Ky:Hid (Kept (fun _=>False) wx wy):=jd (((Kept.refl _ wx).alloc _).trans hky (fun _ _ h=>h))
 have hzy:=Ky.o.size
 clear hny hky
 go_wp2_with fail
 obtain⟨b5,hb5⟩:∃b,wy.heap.size=b:=⟨_,rfl⟩
 obtain⟨W5,hW5⟩:∃W,wy.alloc (.cells #[.int .i64 1,.bool false,.string (BA []),.slice xa xan xac,.slice xw xwn xwc,.slice xr xrn xrc,.slice xk xkn xkc,.int .i64 1,.bool false,.string (BA []),.slice ya yan yac,.slice yw ywn ywc,.slice yr yrn yrc,.slice yk ykn ykc] 27)=W:=⟨_,rfl⟩
 rw[hW5,hb5]
 have hz5:W5.heap.size=b5+1:=by rw[←hW5,←hb5,World.size_alloc]
 have KP5:Hid (Kept (fun _=>False) wy W5):=jd (by rw[←hW5];exact(Kept.refl _ wy).alloc _)
 have B5:W5.heap[b5]? =some (.cells #[.int .i64 1,.bool false,.string (BA []),.slice xa xan xac,.slice xw xwn xwc,.slice xr xrn xrc,.slice xk xkn xkc,.int .i64 1,.bool false,.string (BA []),.slice ya yan yac,.slice yw ywn ywc,.slice yr yrn yrc,.slice yk ykn ykc] 27 (0,0)):=by rw[←hb5,←hW5];exact heap_alloc wy _
 have HM5:Hid (NAt W5 (fun _=>True) (.agg #[.int .i64 2,.bool true,.string ⟨#[]⟩,.slice none 0 0,.slice none 0 0,.slice none 0 0,.slice (some ⟨b5,0,none⟩) 2 2]) (.mk 2 true [] [] [] [] [fp [120],fp [121]])):=jd (NAt.shut (n:=(.mk 2 true [] [] [] [] [fp [120],fp [121]])) (bh.nil _ _) (bh.nil _ _) (bh.nil _ _) (ke B5 ((HNx.o.kept Ky.o (fun _ _ h=>h)).kept KP5.o (fun _ _ h=>h)) (HNy.o.kept KP5.o (fun _ _ h=>h)) trivial))
 rw[←hz5]
 clear hW5 B5 hb5
 refine(mG (W5.alloc (.cells #[.string (BA [122])] 9)) _ [122] (heap_alloc W5 _)).mono ?_
 rintro e wz ⟨za,zan,zac,zw,zwn,zwc,zr,zrn,zrc,zk,zkn,zkc,rfl,hnz,hkz⟩
 have HNz:=jd (hnz.mono (G:=fun _=>True) (fun _ _ _=>trivial));have Kz:Hid (Kept (fun _=>False) W5 wz):=jd (((Kept.refl _ W5).alloc _).trans hkz (fun _ _ h=>h))
 have hzz:=Kz.o.size
 clear hnz hkz
 go_wp2_with fail
 obtain⟨b6,hb6⟩:∃b,wz.heap.size=b:=⟨_,rfl⟩
 obtain⟨W6,hW6⟩:∃W,wz.alloc (.cells #[.int .i64 2,.bool true,.string ⟨#[]⟩,.slice none 0 0,.slice none 0 0,.slice none 0 0,.slice (some ⟨b5,0,none⟩) 2 2,.int .i64 1,.bool false,.string (BA []),.slice za zan zac,.slice zw zwn zwc,.slice zr zrn zrc,.slice zk zkn zkc] 27)=W:=⟨_,rfl⟩
 rw[hW6,hb6]
 have hz6:W6.heap.size=b6+1:=by rw[←hW6,←hb6,World.size_alloc]
 have KP6:Hid (Kept (fun _=>False) wz W6):=jd (by rw[←hW6];exact(Kept.refl _ wz).alloc _)
 have B6:W6.heap[b6]? =some (.cells #[.int .i64 2,.bool true,.string ⟨#[]⟩,.slice none 0 0,.slice none 0 0,.slice none 0 0,.slice (some ⟨b5,0,none⟩) 2 2,.int .i64 1,.bool false,.string (BA []),.slice za zan zac,.slice zw zwn zwc,.slice zr zrn zrc,.slice zk zkn zkc] 27 (0,0)):=by rw[←hb6,←hW6];exact heap_alloc wz _
 have HM6:Hid (NAt W6 (fun _=>True) (.agg #[.int .i64 3,.bool false,.string ⟨#[]⟩,.slice none 0 0,.slice none 0 0,.slice none 0 0,.slice (some ⟨b6,0,none⟩) 2 2]) (ndK 3 [(.mk 2 true [] [] [] [] [fp [120],fp [121]]),fp [122]])):=jd (NAt.shut (n:=(ndK 3 [(.mk 2 true [] [] [] [] [fp [120],fp [121]]),fp [122]])) (bh.nil _ _) (bh.nil _ _) (bh.nil _ _) (ke B6 ((HM5.o.kept Kz.o (fun _ _ h=>h)).kept KP6.o (fun _ _ h=>h)) (HNz.o.kept KP6.o (fun _ _ h=>h)) trivial))
 rw[←hz6]
 clear hW6 B6 hb6
 refine(mG (W6.alloc (.cells #[.string (BA [119])] 9)) _ [119] (heap_alloc W6 _)).mono ?_
 rintro e wv ⟨va,van,vac,vw,vwn,vwc,vr,vrn,vrc,vk,vkn,vkc,rfl,hnv,hkv⟩
 have HNv:=jd (hnv.mono (G:=fun _=>True) (fun _ _ _=>trivial));have Kv:Hid (Kept (fun _=>False) W6 wv):=jd (((Kept.refl _ W6).alloc _).trans hkv (fun _ _ h=>h))
 have hzv:=Kv.o.size
 clear hnv hkv
 have K1v:Hid (Kept (fun _=>False) W1 wv):=jd (((((((K3.o.trans Kx.o (fun _ _ h=>h)).trans Ky.o (fun _ _ h=>h)).trans KP5.o (fun _ _ h=>h)).trans Kz.o (fun _ _ h=>h)).trans KP6.o (fun _ _ h=>h))).trans Kv.o (fun _ _ h=>h))
 have K3v:Hid (Kept (fun _=>False) W3 wv):=jd ((((((Kx.o.trans Ky.o (fun _ _ h=>h)).trans KP5.o (fun _ _ h=>h)).trans Kz.o (fun _ _ h=>h)).trans KP6.o (fun _ _ h=>h))).trans Kv.o (fun _ _ h=>h))
 have B1v:=jd (K1v.o.heap B1.o (fun h=>h))
 have hb1v:=ah B1v.o
 obtain⟨⟨y0,y1,y2,y3,y4,y5,y6⟩,-⟩:=NBx.cells (show NBx wv b1 _ from B1v.o)
 obtain⟨b7,hb7⟩:∃b,wv.heap.size=b:=⟨_,rfl⟩
 obtain⟨W7,hW7⟩:∃W,wv.alloc (.cells #[.int .i64 3,.bool false,.string ⟨#[]⟩,.slice none 0 0,.slice none 0 0,.slice none 0 0,.slice (some ⟨b6,0,none⟩) 2 2,.int .i64 1,.bool false,.string (BA []),.slice va van vac,.slice vw vwn vwc,.slice vr vrn vrc,.slice vk vkn vkc] 27)=W:=⟨_,rfl⟩
 obtain⟨W8,hW8⟩:∃W,W7.alloc (.cells #[.int .i64 5,.bool false,.string ⟨#[]⟩,.slice none 0 0,.slice none 0 0,.slice none 0 0,.slice (some ⟨b7,0,none⟩) 2 2] 27)=W:=⟨_,rfl⟩
 have hz7:W7.heap.size=b7+1:=by rw[←hW7,←hb7,World.size_alloc]
 have KP7:Hid (Kept (fun _=>False) wv W7):=jd (by rw[←hW7];exact(Kept.refl _ wv).alloc _)
 have KP8:Hid (Kept (fun _=>False) W7 W8):=jd (by rw[←hW8];exact(Kept.refl _ W7).alloc _)
 have KP:Hid (Kept (fun _=>False) wv W8):=jd (KP7.o.trans KP8.o (fun _ _ h=>h))
 have B7:W7.heap[b7]? =some (.cells #[.int .i64 3,.bool false,.string ⟨#[]⟩,.slice none 0 0,.slice none 0 0,.slice none 0 0,.slice (some ⟨b6,0,none⟩) 2 2,.int .i64 1,.bool false,.string (BA []),.slice va van vac,.slice vw vwn vwc,.slice vr vrn vrc,.slice vk vkn vkc] 27 (0,0)):=by rw[←hb7,←hW7];exact heap_alloc wv _
 have B8:Hid (NBx W8 (b7+1) #[.int .i64 5,.bool false,.string ⟨#[]⟩,.slice none 0 0,.slice none 0 0,.slice none 0 0,.slice (some ⟨b7,0,none⟩) 2 2]):=jd (by rw[←hz7,←hW8];exact heap_alloc W7 _)
 have HM7:Hid (NAt W7 (fun _=>True) (.agg #[.int .i64 5,.bool false,.string ⟨#[]⟩,.slice none 0 0,.slice none 0 0,.slice none 0 0,.slice (some ⟨b7,0,none⟩) 2 2]) (ndK 5 [(ndK 3 [(.mk 2 true [] [] [] [] [fp [120],fp [121]]),fp [122]]),fp [119]])):=jd (NAt.shut (n:=(ndK 5 [(ndK 3 [(.mk 2 true [] [] [] [] [fp [120],fp [121]]),fp [122]]),fp [119]])) (bh.nil _ _) (bh.nil _ _) (bh.nil _ _) (ke B7 ((HM6.o.kept Kv.o (fun _ _ h=>h)).kept KP7.o (fun _ _ h=>h)) (HNv.o.kept KP7.o (fun _ _ h=>h)) trivial))
 have HM8:Hid (NAt W8 (fun _=>True) (.agg #[.int .i64 5,.bool false,.string ⟨#[]⟩,.slice none 0 0,.slice none 0 0,.slice none 0 0,.slice (some ⟨b7,0,none⟩) 2 2]) N2):=jd (by rw[←HN2.o];exact HM7.o.kept KP8.o (fun _ _ h=>h))
 have HW7:=jd hW7;have HW8:=jd hW8;have HB7:=jd hb7;have HZ7:=jd hz7
 have HT1:Hid (NAt W8 (fun b=>b<b1) (.agg #[.int .i64 N1.kind,.bool N1.neg,.string (BA N1.name),.slice aa an ac,.slice wa wn wc,.slice ra rn rc,.slice ka kn kc]) N1):=jd ((HA1'.o.kept K1v.o (fun _ _ h=>h)).kept KP.o (fun _ _ h=>h))
 have K18:Hid (Kept (fun _=>False) W1 W8):=jd (K1v.o.trans KP.o (fun _ _ h=>h))
 have hW18:=K18.o.size
 clear B7 hW7 hW8 hb7 hz7
 go_wp2_with fail
 rw[HB7.o,HW7.o,HW8.o]
 refine(lI _ _ _ _ HT1.o (fun b h=>Nat.lt_of_lt_of_le (Nat.lt_trans h hbW1) hW18) HSM1.o ((HE.o.af K1'.o).af K18.o) ((HSE.o.kept K1'.o (fun h=>h)).kept K18.o (fun h=>h))).mono ?_
 rintro e w9 ⟨rfl,k9⟩
 have K9:=jd k9
 clear k9
 have htx:lX N1=wt1:=by rw[←HN1.o];exact xY
 rw[htx]
 have HT9:=jd (HT1.o.kept K9.o (fun _ _ h=>h))
 obtain⟨va9,vw9,vr9,vk9,hve,hra,hrw,hrr,-⟩:=HT9.o.open
 have eal:N1.al.length=1:=by rw[←HN1.o];rfl
 have ews:N1.ws.length=2:=by rw[←HN1.o];rfl
 have ers:N1.rs.length=1:=by rw[←HN1.o];rfl
 have er0:N1.rs[0]? =some (7,jA [102]):=by rw[←HN1.o];rfl
 have hve':=hve
 simp only[nv,Value.agg.injEq,Array.mk.injEq,List.cons.injEq,and_true,true_and] at hve'
 obtain⟨rfl,rfl,rfl,rfl⟩:=hve'
 obtain rfl:an=1:=by rw[hra.len,eal]
 obtain rfl:wn=2:=by rw[hrw.len,ews]
 obtain rfl:rn=1:=by rw[hrr.len,ers]
 obtain⟨rb,ro,oa,on,oc,rfl,-,r0,r1⟩:=hrr.elem (by intro x;rfl) (by decide) er0
 have hrbl:rb<w9.heap.size:=by
  obtain⟨_,_,_,hrb,_⟩:=hrr
  exact(hrb rb rfl).2
 have t1:w9.cell? ⟨rb,ro,none⟩=some (.int .i64 7):=by simpa[RC] using r0
 have B1n:Hid (NBx w9 b1 _):=jd (K9.o.heap (KP.o.heap B1v.o (fun h=>h)) (fun h=>h))
 have B3n:Hid (NBx w9 b3 _):=jd (K9.o.heap (KP.o.heap (K3v.o.heap B3.o (fun h=>h)) (fun h=>h)) (fun h=>h))
 have B8n:Hid (NBx w9 (b7+1) _):=jd (K9.o.heap B8.o (fun h=>h))
 have HK9:Hid (Kept (fun _=>False) w w9):=jd ((K1'.o.trans K18.o (fun _ _ h=>h)).trans K9.o (fun _ _ h=>h))
 have HSA:=jd ((((HA3.o.kept K3v.o (fun _ _ h=>h)).kept KP.o (fun _ _ h=>h)).kept K9.o (fun _ _ h=>h)))
 have HSB:=jd (HM8.o.kept K9.o (fun _ _ h=>h))
 have hl1:=ah B1n.o;have hl3:=ah B3n.o;have hl8:=ah B8n.o
 clear y0 y1 y2 y3 y4 y5 y6 hve htx hra hrw hrr eal ews ers er0 r0 r1
 obtain⟨⟨y0,y1,y2,y3,y4,y5,y6⟩,-⟩:=NBx.cells B1n.o
 obtain⟨⟨u0,u1,u2,u3,u4,u5,u6⟩,-⟩:=NBx.cells B3n.o
 obtain⟨⟨z0,z1,z2,z3,z4,z5,z6⟩,-⟩:=NBx.cells B8n.o
 have hbq:(BA wt1==(⟨#[97,61,49,32,98,32,39,99,39,32,60,102]⟩:ByteArray))=true:=by decide+kernel
 go_wp2_with fail
 refine(pG HSA.o HSB.o).mono ?_
 rintro e w10 ⟨rfl,k10⟩
 rw[nh]
 have K10:=jd k10
 clear k10
 go_wp2_with fail
 go_ret
 exact⟨rfl,HK9.o.trans K10.o (fun _ _ h=>h)⟩
end Go.Proofs.YtgigdlhcjahejaaGreatDoor
namespace Go.Proofs.YtgigdlhcjahejaaGreatDoor
open Go Go.RowKit Go.Lw
set_option maxRecDepth 100000
set_option linter.unusedVariables false
def pY:List (List UInt8×List UInt8):=[([97,35,98],[97,35,98]),([97,32,35,98],[97]),([97,61,98,61,99],[97,61,98,61,99]),([120,61,49,32,105,102],[120,61,49,32,105,102]),([39,105,102,39,32,97],[39,105,102,39,32,97]),([101,99,104,111,32,105,102,32,116,104,101,110],[101,99,104,111,32,105,102,32,116,104,101,110]),([123,32,97,59,98,59,125,60,102,62,103],[123,32,97,59,32,98,59,32,125,32,60,102,32,62,103]),([123,32,97,59,125],[123,32,97,59,32,125]),([102,111,114,32,105,10,105,110,10,100,111,32,99,59,100,111,110,101],[102,111,114,32,105,32,105,110,59,32,100,111,32,99,59,32,100,111,110,101]),([102,111,114,32,105,32,105,110,32,97,32,98,59,100,111,32,99,59,100,111,110,101],[102,111,114,32,105,32,105,110,32,97,32,98,59,32,100,111,32,99,59,32,100,111,110,101]),([117,110,116,105,108,32,33,32,97,10,100,111,10,98,10,99,59,100,111,110,101],[117,110,116,105,108,32,33,32,97,59,32,100,111,32,98,59,32,99,59,32,100,111,110,101]),([119,104,105,108,101,32,97,59,100,111,32,98,59,100,111,110,101,124,99],[119,104,105,108,101,32,97,59,32,100,111,32,98,59,32,100,111,110,101,32,124,32,99]),([105,102,32,97,10,116,104,101,110,32,98,10,101,108,105,102,32,99,10,116,104,101,110,32,100,10,101,108,115,101,32,101,10,102,105,32,62,102],[105,102,32,97,59,32,116,104,101,110,32,98,59,32,101,108,105,102,32,99,59,32,116,104,101,110,32,100,59,32,101,108,115,101,32,101,59,32,102,105,32,62,102]),([105,102,32,97,59,116,104,101,110,32,98,59,102,105],[105,102,32,97,59,32,116,104,101,110,32,98,59,32,102,105]),([50,62,101,32,50,62,62,102,32,97],[97,32,50,62,101,32,50,62,62,102]),([62,102,32,97,32,60,103,32,98],[97,32,98,32,62,102,32,60,103]),([62,102],[62,102]),([120,61,49,32,121,61,36,122,32,97,32,98,61,50],[120,61,49,32,121,61,36,123,122,125,32,97,32,98,61,50]),([120,61,49],[120,61,49]),([33,32,97],[33,32,97]),([33,97],[33,97]),([97,124,10,98,124,99],[97,32,124,32,98,32,124,32,99]),([97,38,38,98,124,124,99],[97,32,38,38,32,98,32,124,124,32,99]),([97,10,10,98,32,59,32,99],[97,59,32,98,59,32,99]),([97,59],[97]),([97],[97]),([32,35,32,110,111,10,10],[]),([],[])]
def pz:List (List UInt8):=[[59],[97,59,59,98],[38,38,32,97],[97,32,38,38],[97,32,124],[124,32,97],[97,32,38,32,98],[105,102],[105,102,32,97],[105,102,32,97,59,32,116,104,101,110,32,102,105],[105,102,32,97,59,32,116,104,101,110,32,98],[105,102,32,97,32,116,104,101,110,32,98,59,32,102,105],[116,104,101,110],[102,105],[97,59,32,102,105],[119,104,105,108,101,32,97,59,32,100,111,32,100,111,110,101],[119,104,105,108,101,32,97,59,32,98,59,32,100,111,110,101],[102,111,114],[102,111,114,32,49,32,105,110,32,97,59,32,100,111,32,98,59,32,100,111,110,101],[102,111,114,32,105,59,32,100,111,32,98,59,32,100,111,110,101],[102,111,114,32,105,32,105,110,32,97,32,100,111,32,98,59,32,100,111,110,101],[102,111,114,32,105,32,105,110,32,97,59,32,98,59,32,100,111,110,101],[123,32,97,32,125],[123,32,125],[125],[33,32,33,32,97],[33],[97,32,60,32],[60,32,62,32,97],[60,102,32,105,102],[105,102,32,97,59,32,116,104,101,110,32,98,59,32,102,105,32,99],[123,32,97,59,32,125,32,98],[97,32,124,124,32,124,124,32,98],[97,59,32,38,38,32,98],[102,111,114,32,105,32,105,110,32,97,59,32,100,111,32,98,59,32,100,111,110,101,32,100,111,110,101],[100,111],[101,108,105,102],[36,123,120]]
def xD (p:List UInt8×List UInt8):Bool:=match rdN 200 p.1 with
 |some (.ok n)=>(lX n==p.2)&&fC n&&decide (p.1.length≤100)&&decide (p.2.length≤100)
 |_=>false
theorem AT:pY.all xD=true:=by decide+kernel
theorem zX {ks c:List UInt8} (h:(ks,c)∈pY):ks.length≤1000000∧c.length≤100∧∃n,Reads ks (.ok n)∧lX n=c∧fC n=true:=by
 have h1:=List.all_eq_true.1 AT _ h
 unfold xD at h1
 split at h1
 ·rename_i n hn
  simp only[Bool.and_eq_true,decide_eq_true_eq,beq_iff_eq] at h1
  exact⟨Nat.le_trans h1.1.2 (by decide),h1.2,n,ji hn,h1.1.1.1,h1.1.1.2⟩
 ·cases h1
def wI (s:List UInt8):Bool:=yH 200 s 5&&decide (s.length≤100)
theorem A3:pz.all wI=true:=by decide+kernel
theorem Ac {s:List UInt8} (h:s∈pz):s.length≤1000000∧Reads s (.error 5):=by
 have h1:=List.all_eq_true.1 A3 _ h
 unfold wI at h1
 rw[Bool.and_eq_true,decide_eq_true_eq] at h1
 exact⟨by omega,fD h1.1⟩
theorem AI:pz.length=38:=rfl
def pcs:Array Value:=(pz.map fun s=>Value.string (BA s)).toArray
theorem uR (k:Nat) (hk:k<38) (s:List UInt8) (hs:pz[k]? =some s) (w:World):(Instr.index 56 (.agg pcs) (.int .i64 (k:Int))).run Tryz.prog w= .ok (.string (BA s)) w:=by
 have e:k=0∨k=1∨k=2∨k=3∨k=4∨k=5∨k=6∨k=7∨k=8∨k=9∨k=10∨k=11∨k=12∨k=13∨k=14∨k=15∨k=16∨k=17∨k=18∨k=19∨k=20∨k=21∨k=22∨k=23∨k=24∨k=25∨k=26∨k=27∨k=28∨k=29∨k=30∨k=31∨k=32∨k=33∨k=34∨k=35∨k=36∨k=37:=by omega
 rcases e with rfl|rfl|rfl|rfl|rfl|rfl|rfl|rfl|rfl|rfl|rfl|rfl|rfl|rfl|rfl|rfl|rfl|rfl|rfl|rfl|rfl|rfl|rfl|rfl|rfl|rfl|rfl|rfl|rfl|rfl|rfl|rfl|rfl|rfl|rfl|rfl|rfl|rfl<;>(cases hs;rfl)
abbrev AJ (l:List (List UInt8×List UInt8)):List (List UInt8×Value):=l.map fun p=>(p.1,.string (BA p.2))
theorem xM {l:List (List UInt8×List UInt8)} {ks:List UInt8} {v:Value} (h:cJ (AJ l) ks=some v):∃c,(ks,c)∈l∧v= .string (BA c):=by
 have:=nj h
 obtain⟨p,hp,e⟩:=List.mem_map.1 this
 cases e
 exact⟨p.2,hp,rfl⟩
theorem fi (w : World) (l : List UInt8) (n : Nat) (hn : n ≤ 3000) (hl : l.length ≤ 3) : Calls Tryz.prog 20 #[.string (BA l), .int .i64 (n : Int)] w fun e w' => e = .returned (.string (BA (Lib.repeatL l n))) ∧ Kept (fun _ => False) w w' := by
  refine (Tryz.strings_Repeat (BA l) n w (by omega) (by rw [ag]; calc l.length * n ≤ 3 * 3000 := Nat.mul_le_mul hl hn
                                                                   _ ≤ _ := by decide)).mono ?_
  rintro e w' ⟨rfl, hb⟩
  exact ⟨rfl, (Kept.sj hb).mono (fun k hk h => by omega)⟩
def lh:List UInt8:=[123,32]
def mY:List UInt8:=[59,32,125]
def qv:List UInt8:=(Lib.repeatL lh 16++[97])++Lib.repeatL mY 16
def ux:List UInt8:=(lh++qv)++mY
def uD:List UInt8:=lh++qv
def isOk:Option (Except Nat Nd)→Bool
 |some (.ok _)=>true
 |_=>false
theorem jz {k:Nat} {s:List UInt8} (h:isOk (rdN k s)=true):∃n,Reads s (.ok n):=by
 cases hr:rdN k s with
 |none=>rw[hr] at h;cases h
 |some x=>
  cases x with
  |ok n=>exact⟨n,ji hr⟩
  |error c=>rw[hr] at h;cases h
theorem BL:∃n,Reads qv (.ok n):=jz (k:=300) (by decide+kernel)
theorem Ca:Reads ux (.error 12):=fD (k:=300) (by decide+kernel)
theorem BG:Reads uD (.error 12):=fD (k:=300) (by decide+kernel)
def wM (n:Nat):List UInt8:=Lib.repeatL [97,59] n
def tS (n:Nat):List UInt8:=Lib.repeatL [97,32] n
theorem Cc:∃n,Reads (wM 510) (.ok n):=jz (k:=2000) (by decide+kernel)
theorem BX:Reads (wM 512) (.error 7):=fD (k:=2000) (by decide+kernel)
theorem BY:∃n,Reads (tS 256) (.ok n):=jz (k:=2000) (by decide+kernel)
theorem BH:Reads (tS 257) (.error 7):=fD (k:=2000) (by decide+kernel)
theorem sW (s:List UInt8) (h:2048<s.length):Reads s (.error 3):=by
 have e:dz s= .error 3:=by
  unfold dz
  rw[if_pos (by omega)]
 unfold Reads
 rw[e]
theorem eV (l:List UInt8):∀n:Nat,(Lib.repeatL l n).length=n*l.length
 |0=>by rw[Nat.zero_mul];rfl
 |n+1=>by
  have e:Lib.repeatL l (n+1)=l++Lib.repeatL l n:=rfl
  rw[e,List.length_append,eV l n,Nat.succ_mul,Nat.add_comm]
theorem BP:Reads (Lib.repeatL [97] 2049) (.error 3):=sW _ (by rw[eV];decide)
theorem Cb:Reads (Lib.repeatL [36,97] 800) (.error 3):=fD (k:=100) (by decide+kernel)
end Go.Proofs.YtgigdlhcjahejaaGreatDoor
