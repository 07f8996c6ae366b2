/- Of the proof of ParseBack: FewD. -/
import Derived.Test.YtgigdlhcjahejaaGreatDoorE47
import Derived.Test.YtgigdlhcjahejaaGreatDoorE29
import Derived.Lib.MinMax
import Derived.Deep.DeepCutAuto
import Derived.Deep.CutBlock
namespace Go.Proofs.YtgigdlhcjahejaaGreatDoor
open Go Go.RowKit Go.Lw
set_option maxRecDepth 100000
set_option linter.unusedVariables false
set_option linter.unusedSimpArgs false
attribute [local go_sem] au
theorem yW (l:LB) (m:Nat):(BA l).extract 0 (min l.length m)=BA (l.take m):=by
 rw[gv]
 congr 1
 rw[List.take_eq_take_iff];omega
set_option maxHeartbeats 64000000 in
theorem BO (d:Nat) (hd9:d≤100) (HF4:Hid (BI 4)) (HFN:Hid (∀d',d=d'+1→Dj d')):Dj d:=by
 intro w v n hv
 obtain⟨aa,ac,wa,wc,ra,rc,ka,kc,rfl,hp⟩:=hv.opens
 obtain⟨kk,ng,nm,al,ws,rs,ks⟩:=n
 simp only[Nd.kind,Nd.neg,Nd.name,Nd.al,Nd.ws,Nd.rs,Nd.kids] at hp⊢
 have HP:=jd hp
 have hnm9:nm.length≤9223372036854775807:=by have:=hp.fs;unfold maxLen at this;omega
 have ha9:al.length≤9223372036854775807:=by obtain⟨_,_,_,h⟩:=hp.fa.slice;exact h
 have hw9:ws.length≤9223372036854775807:=by obtain⟨_,_,_,h⟩:=hp.fw.slice;exact h
 have hr9:rs.length≤9223372036854775807:=by obtain⟨_,_,_,h⟩:=hp.fr.slice;exact h
 have hk9:ks.length≤9223372036854775807:=by obtain⟨_,_,_,h⟩:=hp.fk.slice;exact h
 obtain⟨an,han⟩:∃m,al.length=m:=⟨_,rfl⟩
 obtain⟨wn,hwn⟩:∃m,ws.length=m:=⟨_,rfl⟩
 obtain⟨rn,hrn⟩:∃m,rs.length=m:=⟨_,rfl⟩
 obtain⟨kn,hkn⟩:∃m,ks.length=m:=⟨_,rfl⟩
 have HAN:=jd han;have HWN:=jd hwn;have HRN:=jd hrn;have HKN:=jd hkn
 rw[han] at ha9;rw[hwn] at hw9;rw[hrn] at hr9;rw[hkn] at hk9
 rw[han,hwn,hrn,hkn]
 have hz:=ah nm
 have hex:=yW nm 40
 obtain⟨N,hN⟩:∃N,nm.length=N:=⟨_,rfl⟩
 obtain⟨M,hM⟩:∃M,min N 40=M:=⟨_,rfl⟩
 have hmin:min (N:Int) 40=(M:Int):=by omega
 have hMN:M≤N:=by omega
 rw[hN] at hz hnm9 hex
 rw[hM] at hex
 obtain⟨b0,hb0⟩:∃b,w.heap.size=b:=⟨_,rfl⟩
 have HB0:=jd hb0
 clear hv hp han hwn hrn hkn hN hM hb0
 go_enter Tryz.func7,Tryz.ntmps7
 go_wp2_with fail
 obtain⟨W1,hW1⟩:∃W,w.alloc (.cells #[.int .i64 kk,.bool ng,.string (BA nm),.slice aa an ac,.slice wa wn wc,.slice ra rn rc,.slice ka kn kc] 27)=W:=⟨_,rfl⟩
 have K1:Hid (Kept (fun _=>False) w W1):=jd (by rw[←hW1];exact(Ja _ w).alloc _)
 have BX1:Hid (NBx W1 b0 #[.int .i64 kk,.bool ng,.string (BA nm),.slice aa an ac,.slice wa wn wc,.slice ra rn rc,.slice ka kn kc]):=jd (by rw[←hW1,←HB0.o];exact heap_alloc w _)
 have hs1:W1.heap.size=b0+1:=by rw[←hW1,World.size_alloc,HB0.o]
 obtain⟨W0,hW0⟩:∃W,W1.alloc (.cells zN 27)=W:=⟨_,rfl⟩
 have K0:Hid (Kept (fun _=>False) w W0):=jd (by rw[←hW0];exact K1.o.alloc _)
 have BX:Hid (NBx W0 b0 #[.int .i64 kk,.bool ng,.string (BA nm),.slice aa an ac,.slice wa wn wc,.slice ra rn rc,.slice ka kn kc]):=jd (by rw[←hW0];exact((Ja (fun _=>False) W1).alloc _).heap BX1.o (fun h=>h))
 have BR:Hid (NBx W0 (b0+1) zN):=jd (by rw[←hW0,←hs1];exact heap_alloc W1 _)
 have hs0:W0.heap.size=b0+2:=by rw[←hW0,World.size_alloc,hs1]
 have HW1:=jd hW1
 have HW0:Hid (W1.alloc (.cells #[.int .i64 0,.bool false,.string ⟨#[]⟩,.slice none 0 0,.slice none 0 0,.slice none 0 0,.slice none 0 0] 27)=W0):=jd hW0
 have HS1:=jd hs1
 try rw[HW1.o]
 try rw[HW0.o]
 try rw[HB0.o]
 try rw[HS1.o]
 clear hW1 hW0 BX1 K1 hs1
 refine cD 13 [stV (.pointer (some ⟨b0,0,none⟩)),stV (.int .i64 kk),stV (.pointer (some ⟨b0,1,none⟩)),stV (.bool ng),stV (.pointer (some ⟨b0,2,none⟩)),stV (.string (BA nm)),stV (.pointer (some ⟨b0,2,none⟩)),stV (.string (BA nm)),stV (.int .i64 (N:Int)),stV (.int .i64 (M:Int)),stV (.string (BA (nm.take 40))),stV (.agg #[.int .i64 kk,.bool ng,.string (BA (nm.take 40)),.slice none 0 0,.slice none 0 0,.slice none 0 0,.slice none 0 0]),Gs W0] (by kernel_rfl) (by kernel_rfl) ?_ ?_
 ·iterate 12
   refine ae (fun a' w' hI hag hf K hK=>?_) ?_
   ·obtain⟨⟨_,h0,rfl⟩,⟨_,h1,rfl⟩,⟨_,h2,rfl⟩,-⟩:=hf
    have s2:=hag.same 2 (by decide)
    clear hag
    have hh:NBx w' b0 #[.int .i64 kk,.bool ng,.string (BA nm),.slice aa an ac,.slice wa wn wc,.slice ra rn rc,.slice ka kn kc]:=hI.heap BX.o (fun h=>h)
    obtain⟨⟨y0,y1,y2,y3,y4,y5,y6⟩,-⟩:=NBx.cells hh
    clear hh
    go_wp2_with fail
    exact hK _ _ hI (Ja _ _) rfl
  refine ae (fun a' w' hI hag hf K hK=>?_) ?_
  ·clear hag
   go_wp2_with fail
   exact hK _ _ (hI.alloc _) ((Ja _ _).alloc _) ⟨_,rfl,heap_alloc _ _,hI.size⟩
  exact trivial
 ·intro vs wz hI hvs
  have q12:=hvs 12 _ _ rfl rfl
  simp only[pzz,aL,Act.put,Nat.reduceAdd,spv (hvs 0 _ _ rfl rfl) rfl,spv (hvs 1 _ _ rfl rfl) rfl,spv (hvs 2 _ _ rfl rfl) rfl,spv (hvs 3 _ _ rfl rfl) rfl,spv (hvs 4 _ _ rfl rfl) rfl,spv (hvs 5 _ _ rfl rfl) rfl,spv (hvs 6 _ _ rfl rfl) rfl,spv (hvs 7 _ _ rfl rfl) rfl,spv (hvs 8 _ _ rfl rfl) rfl,spv (hvs 9 _ _ rfl rfl) rfl,spv (hvs 10 _ _ rfl rfl) rfl,spv (hvs 11 _ _ rfl rfl) rfl]
  clear hvs
  generalize vs 12=x12 at*
  obtain⟨b,rfl,hqb,hqbl⟩:=q12
  have hblt:=aj hqb
  obtain⟨⟨y0,y1,y2,y3,y4,y5,y6⟩,z0,z1,z2,z3,z4,z5,z6⟩:=NBx.cells (show NBx wz b zN from hqb)
  have KZ:Hid (Kept (fun i=>b0+2≤i) W0 (st7 wz b (.int .i64 kk) (.bool ng) (.string (BA (nm.take 40))) (.slice none 0 0) (.slice none 0 0) (.slice none 0 0) (.slice none 0 0))):=jd (aX (hI.mono (fun _ _ h=>h.elim)) (fun h=>by omega) _ _ _ _ _ _ _)
  have BZ:=jd (bH (show NBx wz b zN from hqb) (.int .i64 kk) (.bool ng) (.string (BA (nm.take 40))) (.slice none 0 0) (.slice none 0 0) (.slice none 0 0) (.slice none 0 0))
  clear hI hqb
  obtain⟨wy,hwy⟩:∃W,((((((wz.setCell ⟨b,0,none⟩ (.int .i64 kk)).setCell ⟨b,1,none⟩ (.bool ng)).setCell ⟨b,2,none⟩ (.string (BA (nm.take 40)))).setCell ⟨b,3,none⟩ (.slice none 0 0)).setCell ⟨b,4,none⟩ (.slice none 0 0)).setCell ⟨b,5,none⟩ (.slice none 0 0)).setCell ⟨b,6,none⟩ (.slice none 0 0)=W:=⟨_,rfl⟩
  have HST:Hid (FeS W0 (b0+2) b kk ng (nm.take 40) [] [] [] [] wy):=jd (by rw[←hwy];exact FeS.of (NB.init _ (b0+2) b kk ng (nm.take 40) BZ.o (by omega)) KZ.o)
  have hwyz:b<wy.heap.size:=by rw[←hwy];exact aj BZ.o
  go_wp2_with fail
  try rw[hwy]
  clear hwy
  clear y0 y1 y2 y3 y4 y5 y6 z0 z1 z2 z3 z4 z5 z6 KZ BZ
  go_loopg [6] an (fun gk s9 wx=>∃k:Nat,gk=an -k∧k≤an∧k≤6∧s9= .int .i64 (k:Int)∧FeS W0 (b0+2) b kk ng (nm.take 40) ((al.take k).map bY) [] [] [] wx)
  case atStart=>exact⟨0,rfl,Nat.zero_le _,Nat.zero_le _,rfl,HST.o⟩
  case round=>
   obtain⟨k,rfl,hk,hk6,rfl,F,qaa,qac,qwa,qwc,qra,qrc,qka,qkc,hnb,hkw⟩:=hrel
   have HKW:=jd hkw
   have HNB:=jd hnb
   have HBX:Hid (NBx wr b0 #[.int .i64 kk,.bool ng,.string (BA nm),.slice aa an ac,.slice wa wn wc,.slice ra rn rc,.slice ka kn kc]):=jd (hkw.heap BX.o (fun h=>by have h':b0+2≤b0:=h;omega))
   have HBW:Hid (Below w.heap.size w wr):=jd (((K0.o.mono (S':=fun i=>b0+2≤i) (fun _ _ h=>h.elim)).trans hkw (fun _ _ h=>h)).below (Jb _) (fun i hi h=>by have h':b0+2≤i:=h;have:=HB0.o;omega))
   have hlob:=hnb.lob
   have hblt:=hnb.lt
   clear hnb hkw HST
   go_upto_region 3 with fail
   go_cut [30] (fun sc wx=>∃t:Bool,sc= .bool t∧wx=wr∧(t=true↔k<an∧k<6))
   case first=>
    obtain⟨⟨x0,x1,x2,x3,x4,x5,x6⟩,-⟩:=NBx.cells HBX.o
    have hblx:b0<wr.heap.size:=by omega
    by_cases e1:k<an
    ·have hdn:decide (k<an)=true:=Jc e1
     have hdn':decide ((k:Int)<(an:Int))=true:=Jc (by omega)
     by_cases e2:k<6
     ·have hd8:decide (k<6)=true:=Jc e2
      have hd8':decide ((k:Int)<6)=true:=Jc (by omega)
      go_wp2_with fail
      go_meet
      exact⟨true,rfl,rfl,⟨fun _=>⟨e1,e2⟩,fun _=>rfl⟩⟩
     ·have hd8:decide (k<6)=false:=Jd e2
      have hd8':decide ((k:Int)<6)=false:=Jd (by omega)
      go_wp2_with fail
      go_meet
      exact⟨false,rfl,rfl,⟨fun h=>(by cases h),fun h=>absurd h.2 e2⟩⟩
    ·have hdn:decide (k<an)=false:=Jd e1
     have hdn':decide ((k:Int)<(an:Int))=false:=Jd (by omega)
     go_wp2_with fail
     go_meet
     exact⟨false,rfl,rfl,⟨fun h=>(by cases h),fun h=>absurd h.1 e1⟩⟩
   case rest=>
    obtain⟨t,rfl,hwc,htt⟩:=hcut
    obtain rfl:=hwc.symm
    cases t with
    |true=>
     obtain⟨hlt,h6⟩:=htt.1 rfl
     obtain⟨p,hp⟩:∃p,al[k]? =some p:=⟨_,Je (by rw[HAN.o];exact hlt)⟩
     have hpm:p∈al:=List.mem_of_getElem? hp
     clear htt
     have HSN:=jd (gu bY hp)
     have hmL:=da bY (l:=al) hk6
     have hfx:=HP.o.fa
     rw[HAN.o] at hfx
     obtain⟨b1,o1,oa,on,oc,e1,hin,p0,pj⟩:=lK.elem (C:=AC) (size:=2) (fun _=>rfl) (by decide) hfx hp
     subst e1
     have HIN:=jd (hin.blw HBW.o)
     have HTO:Hid (gH p.2):=jd ((HP.o.ta p hpm).2)
     have hbl0:b1<b0:=by rw[←HB0.o];exact World.block_lt_of_cell? w _ p0
     have hbl:b1<wr.heap.size:=by have:=hblt;omega
     have hcl:∀j u,w.cell? ⟨b1,j,none⟩=some u→wr.cell? ⟨b1,j,none⟩=some u:=fun j u h=>(HBW.o.cell (by rw[HB0.o];exact hbl0)).trans h
     have hpt:p.1.length≤9223372036854775807:=by have:=(HP.o.ta p hpm).1;unfold maxLen at this;omega
     have hz2:=ah p.1
     have hex2:=yW p.1 40
     obtain⟨N2,hN2⟩:∃N,p.1.length=N:=⟨_,rfl⟩
     obtain⟨M2,hM2⟩:∃M,min N2 40=M:=⟨_,rfl⟩
     have hmin2:min (N2:Int) 40=(M2:Int):=by omega
     have hMN2:M2≤N2:=by omega
     rw[hN2] at hz2 hpt hex2
     rw[hM2] at hex2
     clear hN2 hM2
     have P0:Hid (wr.cell? ⟨b1,o1+k*2,none⟩=some (.string (BA p.1))):=jd (hcl _ _ p0)
     have P1:Hid (wr.cell? ⟨b1,o1+k*2+1,none⟩=some (.slice oa on oc)):=jd (hcl _ _ (pj 1 (by decide)))
     clear hfx hin p0 pj hcl
     obtain⟨m,hm⟩:∃m,(((al.take k).map bY)).length=m:=⟨_,rfl⟩
     have hnb:=HNB.o
     obtain⟨ps,hps,hown,hel⟩:=hnb.ra
     have HM:=jd hm
     rw[hm] at hown hmL
     rw[hm] at HNB
     try rw[hm]
     have HOWN:=jd hown;have HPS:=jd hps;have HEL:=jd hel
     have hSS:∀i,wr.heap.size≤i→¬duS (fun _=>False) (blk (.slice qaa m qac)) i:=fun i hi e=>by
      rcases e with e|e
      ·exact e
      ·have:=cP HOWN.o i e;omega
     have hb1:¬((fun _:Nat=>False) b):=fun h=>h
     have hPr:∀(v:Value) (wx wy:World),Kept (fun _=>False) wx wy→(∃F',NB wx (b0+2) b F' kk ng (nm.take 40) v (.slice qwa 0 qwc) (.slice qra 0 qrc) (.slice qka 0 qkc) (((al.take k).map bY)++[(bY p)]) [] [] [])→∃F',NB wy (b0+2) b F' kk ng (nm.take 40) v (.slice qwa 0 qwc) (.slice qra 0 qrc) (.slice qka 0 qkc) (((al.take k).map bY)++[(bY p)]) [] [] []:=fun v wx wy hk ⟨F',h⟩=>⟨F',h.kept hk (fun i hi e=>e)⟩
     clear hnb hps hown hel hm hp
     go_upto_region 5 with fail
     refine bO 28 23 26 (fun _=>False) (blk (.slice qaa m qac)) (FwI wr (b0+2) b #[.int .i64 kk,.bool ng,.string (BA (nm.take 40)),(.slice qaa m qac),(.slice qwa 0 qwc),(.slice qra 0 qrc),(.slice qka 0 qkc)]) (gB (fun _=>False) b 3 hb1 (fun v wq=>∃F',NB wq (b0+2) b F' kk ng (nm.take 40) v (.slice qwa 0 qwc) (.slice qra 0 qrc) (.slice qka 0 qkc) (((al.take k).map bY)++[(bY p)]) [] [] []) hPr) [rV (.pointer (some ⟨b,3,none⟩)),rV (.slice qaa m qac),rV (.pointer (some ⟨b0,3,none⟩)),rV (.slice (some ⟨b1,o1,none⟩) an ac),rV (.int .i64 (k:Int)),rV (.pointer (some ⟨b1,o1+k*2,none⟩)),rV (.pointer (some ⟨b1,o1+k*2,none⟩)),rV (.string (BA p.1)),rV (.pointer (some ⟨b0,3,none⟩)),rV (.slice (some ⟨b1,o1,none⟩) an ac),rV (.int .i64 (k:Int)),rV (.pointer (some ⟨b1,o1+k*2,none⟩)),rV (.pointer (some ⟨b1,o1+k*2,none⟩)),rV (.string (BA p.1)),rV (.int .i64 (N2:Int)),rV (.int .i64 (M2:Int)),rV (.string (BA (p.1.take 40))),rV (.pointer (some ⟨b0,3,none⟩)),rV (.slice (some ⟨b1,o1,none⟩) an ac),rV (.int .i64 (k:Int)),rV (.pointer (some ⟨b1,o1+k*2,none⟩)),rV (.pointer (some ⟨b1,o1+k*2+1,none⟩)),rV (.slice oa on oc),rEl gi (duS (fun _=>False) (blk (.slice qaa m qac))) (fun i=>wr.heap.size≤i) hSS (bf 4 p.2),rBu lY (fun u=>.agg #[.string (BA (p.1.take 40)),u]) (duS (fun _=>False) (blk (.slice qaa m qac))) (fun i=>wr.heap.size≤i) hSS (bY p),oe lY AC 61 (duS (fun _=>False) (blk (.slice qaa m qac))) (fun i=>wr.heap.size≤i) hSS (bY p),rV (.bool true),rV (.pointer (some ⟨b,3,none⟩))] (by kernel_rfl) (by kernel_rfl) ?_ ?_ ?_
     case refine_1=>exact FwI.start HNB.o.box
     case refine_2=>
      iterate 8
       refine cu (by decide) (by kernel_rfl) (fun s hs1 a' w' hI hag hf K hK=>?_) ?_
       ·obtain⟨⟨_,h0,rfl⟩,⟨_,h1,rfl⟩,-⟩:=hf
        have s2:=hag.same 2 (by decide)
        have s5:=hag.same 5 (by decide)
        have s6:=hag.same 6 (by decide)
        clear hag
        obtain⟨⟨y0,y1,y2,y3,y4,y5,y6⟩,-⟩:=NBx.cells hI.box
        have hbx:NBx w' b0 #[.int .i64 kk,.bool ng,.string (BA nm),.slice (some ⟨b1,o1,none⟩) an ac,.slice wa wn wc,.slice ra rn rc,.slice ka kn kc]:=hI.k.heap HBX.o (fun h=>by have h':b0+2≤b0:=h;omega)
        obtain⟨⟨x0,x1,x2,x3,x4,x5,x6⟩,-⟩:=NBx.cells hbx
        clear hbx
        have r0:=hI.k.cell P0.o (fun h=>by have h':b0+2≤b1:=h;omega)
        go_wp2_with fail
        exact hK _ _ hI (Ja _ _) rfl
      refine di (by decide) (fun s a' w' hI hag hf K hK=>?_) ?_
      ·have s2:=hag.same 2 (by decide)
       clear hag
       go_wp2_with fail
       exact hK _ _ hI (Ja _ _) rfl
      iterate 14
       refine cu (by decide) (by kernel_rfl) (fun s hs1 a' w' hI hag hf K hK=>?_) ?_
       ·obtain⟨⟨_,h0,rfl⟩,⟨_,h1,rfl⟩,-⟩:=hf
        have s2:=hag.same 2 (by decide)
        have s6:=hag.same 6 (by decide)
        clear hag
        have hbx:NBx w' b0 #[.int .i64 kk,.bool ng,.string (BA nm),.slice (some ⟨b1,o1,none⟩) an ac,.slice wa wn wc,.slice ra rn rc,.slice ka kn kc]:=hI.k.heap HBX.o (fun h=>by have h':b0+2≤b0:=h;omega)
        obtain⟨⟨x0,x1,x2,x3,x4,x5,x6⟩,-⟩:=NBx.cells hbx
        clear hbx
        have r0:=hI.k.cell P0.o (fun h=>by have h':b0+2≤b1:=h;omega)
        have r0:=hI.k.cell P1.o (fun h=>by have h':b0+2≤b1:=h;omega)
        go_wp2_with fail
        exact hK _ _ hI (Ja _ _) rfl
      refine gp (by decide) (fun a' w' hI hag hf K hK=>?_) ?_
      ·obtain⟨⟨_,h22,rfl⟩,-⟩:ay _ _ a' w' [22]:=hf
       clear hag
       have HI:=jd hI
       have hk0:=hI.k0 (Nat.zero_le _)
       clear hI
       go_wp2_with fail
       refine(HF4.o w' (.slice oa on oc) p.2 (HIN.o.blw (hk0.below (Jb _) (fun _ _ h=>h))) HTO.o).mono ?_
       rintro x w4 ⟨v,rfl,hw4,hk4⟩
       obtain⟨ua,un,uc,rfl⟩:=hw4.slice
       go_wp2_with fail
       exact hK _ _ (HI.o.call hk4) hk4 (hw4.mono (fun i _ hi=>lt9 hk0.size hi))
      refine cu (by decide) (by kernel_rfl) (fun s hs1 a' w' hI hag hf K hK=>?_) ?_
      ·obtain⟨⟨_,h16,rfl⟩,⟨v23,h23,e23⟩,-⟩:ay _ _ a' w' [16,23]:=hf
       clear hag
       have hw7:WAt w' (fun i=>wr.heap.size≤i) v23 (bf 4 p.2):=e23
       obtain⟨ua,un,uc,rfl⟩:=hw7.slice
       go_wp2_with fail
       exact hK _ _ hI (Ja _ _) ⟨_,rfl,hw7⟩
      refine cu (by decide) (by kernel_rfl) (fun s hs1 a' w' hI hag hf K hK=>?_) ?_
      ·obtain⟨⟨v24,h24,e24⟩,-⟩:ay _ _ a' w' [24]:=hf
       clear hag
       obtain⟨u,rfl,hu⟩:∃u,v24= .agg #[.string (BA (p.1.take 40)),u]∧WAt w' (fun i=>wr.heap.size≤i) u (bf 4 p.2):=e24
       obtain⟨ua,un,uc,rfl⟩:=hu.slice
       have hz:=hI.k.size
       go_wp2_with fail
       exact hK _ _ (hI.ag ((Ja _ _).alloc _)) ((Ja _ _).alloc _) ⟨_,_,rfl,hz,heap_alloc _ _,hu.kept ((Ja _ _).alloc _) (fun _ _ h=>h)⟩
      refine gn (fun a' w' hI hag hf K hK=>?_) ?_
      ·obtain⟨⟨_,h1,rfl⟩,⟨v25,h25,e25⟩,-⟩:ay _ _ a' w' [1,25,23]:=hf
       clear hag
       obtain⟨bb,u,rfl,hbb,hbh,hu⟩:∃bb u,v25= .slice (some ⟨bb,0,none⟩) 1 1∧wr.heap.size≤bb∧w'.heap[bb]? =some (.cells (AC ((bY p),u)).toArray 61 (0,0))∧wa1 w' (fun i=>wr.heap.size≤i) u (bY p):=e25
       have hk1:=hI.k0 (Jb _)
       refine aQ rfl _ _ _ rfl EAs (.slice qaa m qac) m (ps.flatMap AC) (by simp[Act.eval,h1]) (bt hk1 HOWN.o (fun _ _ h=>h)) _ 1 (AC ((bY p),u)) (by simp[Act.eval,h25]) (dB (C:=AC) hbh rfl) (fun y hy=>?_) (by unfold maxLen;omega) (by omega) (fun ad9 cap9 w9 ho9 hg9 hf9=>?_)
       ·simp only[AC,Jl,List.not_mem_nil,or_false] at hy
        rcases hy with rfl|rfl
        ·rfl
        ·exact iJ hu
       have hk9:Kept (blk (.slice qaa m qac)) w' w9:=(Ja _ _).grown hg9 (fun i e _=>e)
       have ho9':w9.ownsRow 0 61 2 (.slice ad9 (m+1) cap9) ((((al.take k).map bY)).length+1) (ps.flatMap AC++AC ((bY p),u)):=by rw[HM.o];exact ho9
       have hpush:=(HNB.o.zI (S:=fun _=>False) HPS.o HEL.o hk1 (fun i hi e=>e) (x:=(bY p)) (u:=u) (G:=fun i=>wr.heap.size≤i) hu (fun i hi=>hi) ho9' hg9 hf9).1
       exact hK _ _ (hI.app hk9 (fun i hi=>⟨(HNB.o.ba i hi).1,(HNB.o.ba i hi).2.1⟩)) hk9 ⟨_,hpush⟩
      refine di (by decide) (fun s a' w' hI hag hf K hK=>?_) ?_
      ·have s5:=hag.same 5 (by decide)
       clear hag
       go_wp2_with fail
       exact hK _ _ hI (Ja _ _) rfl
      exact trivial
     case refine_3=>
      intro vs wz hI hvs
      have q23:=hvs 23 _ _ rfl rfl
      have q24:=hvs 24 _ _ rfl rfl
      have q25:=hvs 25 _ _ rfl rfl
      have q26:(gB (fun _=>False) b 3 hb1 (fun v wq=>∃F',NB wq (b0+2) b F' kk ng (nm.take 40) v (.slice qwa 0 qwc) (.slice qra 0 qrc) (.slice qka 0 qkc) (((al.take k).map bY)++[(bY p)]) [] [] []) hPr).1 (vs 26) wz:=hvs 26 _ _ rfl rfl
      simp only[pzz,aL,Act.put,Nat.reduceAdd,dpv (hvs 0 _ _ rfl rfl) (by decide) rfl,dpv (hvs 1 _ _ rfl rfl) (by decide) rfl,dpv (hvs 2 _ _ rfl rfl) (by decide) rfl,dpv (hvs 3 _ _ rfl rfl) (by decide) rfl,dpv (hvs 4 _ _ rfl rfl) (by decide) rfl,dpv (hvs 5 _ _ rfl rfl) (by decide) rfl,dpv (hvs 6 _ _ rfl rfl) (by decide) rfl,dpv (hvs 7 _ _ rfl rfl) (by decide) rfl,dpv (hvs 8 _ _ rfl rfl) (by decide) rfl,dpv (hvs 9 _ _ rfl rfl) (by decide) rfl,dpv (hvs 10 _ _ rfl rfl) (by decide) rfl,dpv (hvs 11 _ _ rfl rfl) (by decide) rfl,dpv (hvs 12 _ _ rfl rfl) (by decide) rfl,dpv (hvs 13 _ _ rfl rfl) (by decide) rfl,dpv (hvs 14 _ _ rfl rfl) (by decide) rfl,dpv (hvs 15 _ _ rfl rfl) (by decide) rfl,dpv (hvs 16 _ _ rfl rfl) (by decide) rfl,dpv (hvs 17 _ _ rfl rfl) (by decide) rfl,dpv (hvs 18 _ _ rfl rfl) (by decide) rfl,dpv (hvs 19 _ _ rfl rfl) (by decide) rfl,dpv (hvs 20 _ _ rfl rfl) (by decide) rfl,dpv (hvs 21 _ _ rfl rfl) (by decide) rfl,dpv (hvs 22 _ _ rfl rfl) (by decide) rfl,dpv (hvs 27 _ _ rfl rfl) (by decide) rfl]
      clear hvs
      generalize vs 23=x23 at*
      generalize vs 24=x24 at*
      generalize vs 25=x25 at*
      generalize vs 26=x26 at*
      have HI:=jd hI
      obtain⟨F',hnb⟩:∃F',NB (wz.setCell ⟨b,3,none⟩ x26) (b0+2) b F' kk ng (nm.take 40) x26 (.slice qwa 0 qwc) (.slice qra 0 qrc) (.slice qka 0 qkc) (((al.take k).map bY)++[(bY p)]) [] [] []:=q26
      obtain⟨za,zn,zc,rfl⟩:∃a n c,x26= .slice a n c:=by obtain⟨a,c,e,_⟩:=hnb.ra.slice;exact⟨a,_,c,e⟩
      obtain⟨⟨y0,y1,y2,y3,y4,y5,y6⟩,z0,z1,z2,z3,z4,z5,z6⟩:=NBx.cells hI.box
      have hbltz:b<wz.heap.size:=aj hI.box
      have HKZ:Hid (Kept (fun i=>b0+2≤i) W0 (wz.setCell ⟨b,3,none⟩ (.slice za zn zc))):=jd ((HKW.o.trans HI.o.k (fun _ _ h=>h)).set b 3 (fun _=>hlob) _)
      have HREL:=jd (FeS.of hnb HKZ.o)
      clear hI q23 q25 q24 hnb HI HKZ
      go_wp2_with fail
      go_roundg (an -(k+1))
      case measure=>omega
      case rel=>exact⟨k+1,rfl,by omega,by omega,rfl,by rw[HSN.o];exact HREL.o⟩
    |false=>
     have hor:al.length≤k∨6≤k:=by
      have h9:¬(k<an∧k<6):=fun h=>by have:=htt.2 h;cases this
      rw[HAN.o];omega
     have HFIN:=jd (gV bY hk6 hor)
     have HST:Hid (FeS W0 (b0+2) b kk ng (nm.take 40) ((al.take 6).map bY) [] [] [] wr):=jd (by
      have h:=FeS.of HNB.o HKW.o
      rw[HFIN.o] at h
      exact h)
     clear htt hor HFIN HNB HKW HBX HBW
     obtain⟨wo,rfl⟩:∃wo:World,wo=wr:=⟨_,rfl⟩
     go_wp2_with fail
     go_loopg [7] wn (fun gk s9 wx=>∃k:Nat,gk=wn -k∧k≤wn∧k≤6∧s9= .int .i64 (k:Int)∧FeS W0 (b0+2) b kk ng (nm.take 40) ((al.take 6).map bY) ((ws.take k).map (bf 4)) [] [] wx)
     case atStart=>exact⟨0,rfl,Nat.zero_le _,Nat.zero_le _,rfl,HST.o⟩
     case round=>
      obtain⟨k,rfl,hk,hk6,rfl,F,qaa,qac,qwa,qwc,qra,qrc,qka,qkc,hnb,hkw⟩:=hrel
      have HKW:=jd hkw
      have HNB:=jd hnb
      have HBX:Hid (NBx wr b0 #[.int .i64 kk,.bool ng,.string (BA nm),.slice aa an ac,.slice wa wn wc,.slice ra rn rc,.slice ka kn kc]):=jd (hkw.heap BX.o (fun h=>by have h':b0+2≤b0:=h;omega))
      have HBW:Hid (Below w.heap.size w wr):=jd (((K0.o.mono (S':=fun i=>b0+2≤i) (fun _ _ h=>h.elim)).trans hkw (fun _ _ h=>h)).below (Jb _) (fun i hi h=>by have h':b0+2≤i:=h;have:=HB0.o;omega))
      have hlob:=hnb.lob
      have hblt:=hnb.lt
      clear hnb hkw HST
      go_upto_region 7 with fail
      go_cut [69] (fun sc wx=>∃t:Bool,sc= .bool t∧wx=wr∧(t=true↔k<wn∧k<6))
      case first=>
       obtain⟨⟨x0,x1,x2,x3,x4,x5,x6⟩,-⟩:=NBx.cells HBX.o
       have hblx:b0<wr.heap.size:=by omega
       by_cases e1:k<wn
       ·have hdn:decide (k<wn)=true:=Jc e1
        have hdn':decide ((k:Int)<(wn:Int))=true:=Jc (by omega)
        by_cases e2:k<6
        ·have hd8:decide (k<6)=true:=Jc e2
         have hd8':decide ((k:Int)<6)=true:=Jc (by omega)
         go_wp2_with fail
         go_meet
         exact⟨true,rfl,rfl,⟨fun _=>⟨e1,e2⟩,fun _=>rfl⟩⟩
        ·have hd8:decide (k<6)=false:=Jd e2
         have hd8':decide ((k:Int)<6)=false:=Jd (by omega)
         go_wp2_with fail
         go_meet
         exact⟨false,rfl,rfl,⟨fun h=>(by cases h),fun h=>absurd h.2 e2⟩⟩
       ·have hdn:decide (k<wn)=false:=Jd e1
        have hdn':decide ((k:Int)<(wn:Int))=false:=Jd (by omega)
        go_wp2_with fail
        go_meet
        exact⟨false,rfl,rfl,⟨fun h=>(by cases h),fun h=>absurd h.1 e1⟩⟩
      case rest=>
       obtain⟨t,rfl,hwc,htt⟩:=hcut
       obtain rfl:=hwc.symm
       cases t with
       |true=>
        obtain⟨hlt,h6⟩:=htt.1 rfl
        obtain⟨p,hp⟩:∃p,ws[k]? =some p:=⟨_,Je (by rw[HWN.o];exact hlt)⟩
        have hpm:p∈ws:=List.mem_of_getElem? hp
        clear htt
        have HSN:=jd (gu (bf 4) hp)
        have hmL:=da (bf 4) (l:=ws) hk6
        have hfx:=HP.o.fw
        rw[HWN.o] at hfx
        obtain⟨b1,o1,oa,on,oc,e1,hin,p0,pj⟩:=lK.elem (C:=WC) (size:=1) (fun _=>rfl) (by decide) hfx hp
        subst e1
        have HIN:=jd (hin.blw HBW.o)
        have HTO:Hid (gH p):=jd (HP.o.tw p hpm)
        have hbl0:b1<b0:=by rw[←HB0.o];exact World.block_lt_of_cell? w _ p0
        have hbl:b1<wr.heap.size:=by have:=hblt;omega
        have hcl:∀j u,w.cell? ⟨b1,j,none⟩=some u→wr.cell? ⟨b1,j,none⟩=some u:=fun j u h=>(HBW.o.cell (by rw[HB0.o];exact hbl0)).trans h
        have P0:Hid (wr.cell? ⟨b1,o1+k,none⟩=some (.slice oa on oc)):=jd (hcl _ _ (by rw[Nat.mul_one] at p0;exact p0))
        clear hfx hin p0 pj hcl
        obtain⟨m,hm⟩:∃m,(((ws.take k).map (bf 4))).length=m:=⟨_,rfl⟩
        have hnb:=HNB.o
        obtain⟨ps,hps,hown,hel⟩:=hnb.rw
        have HM:=jd hm
        rw[hm] at hown hmL
        rw[hm] at HNB
        try rw[hm]
        have HOWN:=jd hown;have HPS:=jd hps;have HEL:=jd hel
        have hSS:∀i,wr.heap.size≤i→¬duS (fun _=>False) (blk (.slice qwa m qwc)) i:=fun i hi e=>by
         rcases e with e|e
         ·exact e
         ·have:=cP HOWN.o i e;omega
        have hb1:¬((fun _:Nat=>False) b):=fun h=>h
        have hPr:∀(v:Value) (wx wy:World),Kept (fun _=>False) wx wy→(∃F',NB wx (b0+2) b F' kk ng (nm.take 40) (.slice qaa (((al.take 6).map bY)).length qac) v (.slice qra 0 qrc) (.slice qka 0 qkc) ((al.take 6).map bY) (((ws.take k).map (bf 4))++[(bf 4 p)]) [] [])→∃F',NB wy (b0+2) b F' kk ng (nm.take 40) (.slice qaa (((al.take 6).map bY)).length qac) v (.slice qra 0 qrc) (.slice qka 0 qkc) ((al.take 6).map bY) (((ws.take k).map (bf 4))++[(bf 4 p)]) [] []:=fun v wx wy hk ⟨F',h⟩=>⟨F',h.kept hk (fun i hi e=>e)⟩
        clear hnb hps hown hel hm hp
        go_upto_region 9 with fail
        refine bO 11 7 9 (fun _=>False) (blk (.slice qwa m qwc)) (FwI wr (b0+2) b #[.int .i64 kk,.bool ng,.string (BA (nm.take 40)),(.slice qaa (((al.take 6).map bY)).length qac),(.slice qwa m qwc),(.slice qra 0 qrc),(.slice qka 0 qkc)]) (gB (fun _=>False) b 4 hb1 (fun v wq=>∃F',NB wq (b0+2) b F' kk ng (nm.take 40) (.slice qaa (((al.take 6).map bY)).length qac) v (.slice qra 0 qrc) (.slice qka 0 qkc) ((al.take 6).map bY) (((ws.take k).map (bf 4))++[(bf 4 p)]) [] []) hPr) [rV (.pointer (some ⟨b,4,none⟩)),rV (.slice qwa m qwc),rV (.pointer (some ⟨b0,4,none⟩)),rV (.slice (some ⟨b1,o1,none⟩) wn wc),rV (.int .i64 (k:Int)),rV (.pointer (some ⟨b1,o1+k,none⟩)),rV (.slice oa on oc),rEl gi (duS (fun _=>False) (blk (.slice qwa m qwc))) (fun i=>wr.heap.size≤i) hSS (bf 4 p),oe gi WC 59 (duS (fun _=>False) (blk (.slice qwa m qwc))) (fun i=>wr.heap.size≤i) hSS (bf 4 p),rV (.bool true),rV (.pointer (some ⟨b,4,none⟩))] (by kernel_rfl) (by kernel_rfl) ?_ ?_ ?_
        case refine_1=>exact FwI.start HNB.o.box
        case refine_2=>
         iterate 7
          refine cu (by decide) (by kernel_rfl) (fun s hs1 a' w' hI hag hf K hK=>?_) ?_
          ·obtain⟨⟨_,h0,rfl⟩,⟨_,h1,rfl⟩,-⟩:=hf
           have s2:=hag.same 2 (by decide)
           have s5:=hag.same 5 (by decide)
           have s7:=hag.same 7 (by decide)
           clear hag
           obtain⟨⟨y0,y1,y2,y3,y4,y5,y6⟩,-⟩:=NBx.cells hI.box
           have hbx:NBx w' b0 #[.int .i64 kk,.bool ng,.string (BA nm),.slice aa an ac,.slice (some ⟨b1,o1,none⟩) wn wc,.slice ra rn rc,.slice ka kn kc]:=hI.k.heap HBX.o (fun h=>by have h':b0+2≤b0:=h;omega)
           obtain⟨⟨x0,x1,x2,x3,x4,x5,x6⟩,-⟩:=NBx.cells hbx
           clear hbx
           have r0:=hI.k.cell P0.o (fun h=>by have h':b0+2≤b1:=h;omega)
           go_wp2_with fail
           exact hK _ _ hI (Ja _ _) rfl
         refine gp (by decide) (fun a' w' hI hag hf K hK=>?_) ?_
         ·obtain⟨⟨_,h6,rfl⟩,-⟩:ay _ _ a' w' [6]:=hf
          clear hag
          have HI:=jd hI
          have hk0:=hI.k0 (Nat.zero_le _)
          clear hI
          go_wp2_with fail
          refine(HF4.o w' (.slice oa on oc) p (HIN.o.blw (hk0.below (Jb _) (fun _ _ h=>h))) HTO.o).mono ?_
          rintro x w4 ⟨v,rfl,hw4,hk4⟩
          obtain⟨ua,un,uc,rfl⟩:=hw4.slice
          go_wp2_with fail
          exact hK _ _ (HI.o.call hk4) hk4 (hw4.mono (fun i _ hi=>lt9 hk0.size hi))
         refine cu (by decide) (by kernel_rfl) (fun s hs1 a' w' hI hag hf K hK=>?_) ?_
         ·obtain⟨⟨v7,h7,e7⟩,-⟩:ay _ _ a' w' [7]:=hf
          clear hag
          have hw7:WAt w' (fun i=>wr.heap.size≤i) v7 (bf 4 p):=e7
          obtain⟨ua,un,uc,rfl⟩:=hw7.slice
          have hz:=hI.k.size
          go_wp2_with fail
          exact hK _ _ (hI.ag ((Ja _ _).alloc _)) ((Ja _ _).alloc _) ⟨_,_,rfl,hz,heap_alloc _ _,hw7.kept ((Ja _ _).alloc _) (fun _ _ h=>h)⟩
         refine gn (fun a' w' hI hag hf K hK=>?_) ?_
         ·obtain⟨⟨_,h1,rfl⟩,⟨v8,h8,e8⟩,-⟩:ay _ _ a' w' [1,8,7]:=hf
          clear hag
          obtain⟨bb,u,rfl,hbb,hbh,hu⟩:∃bb u,v8= .slice (some ⟨bb,0,none⟩) 1 1∧wr.heap.size≤bb∧w'.heap[bb]? =some (.cells (WC ((bf 4 p),u)).toArray 59 (0,0))∧wa2 w' (fun i=>wr.heap.size≤i) u (bf 4 p):=e8
          have hk1:=hI.k0 (Jb _)
          refine aQ rfl _ _ _ rfl EWs (.slice qwa m qwc) m (ps.flatMap WC) (by simp[Act.eval,h1]) (bt hk1 HOWN.o (fun _ _ h=>h)) _ 1 (WC ((bf 4 p),u)) (by simp[Act.eval,h8]) (dB (C:=WC) hbh rfl) (fun y hy=>?_) (by unfold maxLen;omega) (by omega) (fun ad9 cap9 w9 ho9 hg9 hf9=>?_)
          ·rw[Jk.1 hy];exact iJ hu
          have hk9:Kept (blk (.slice qwa m qwc)) w' w9:=(Ja _ _).grown hg9 (fun i e _=>e)
          have ho9':w9.ownsRow 0 59 1 (.slice ad9 (m+1) cap9) ((((ws.take k).map (bf 4))).length+1) (ps.flatMap WC++WC ((bf 4 p),u)):=by rw[HM.o];exact ho9
          have hpush:=(HNB.o.uv (S:=fun _=>False) HPS.o HEL.o hk1 (fun i hi e=>e) (x:=(bf 4 p)) (u:=u) (G:=fun i=>wr.heap.size≤i) hu (fun i hi=>hi) ho9' hg9 hf9).1
          exact hK _ _ (hI.app hk9 (fun i hi=>⟨(HNB.o.bw i hi).1,(HNB.o.bw i hi).2.1⟩)) hk9 ⟨_,hpush⟩
         refine di (by decide) (fun s a' w' hI hag hf K hK=>?_) ?_
         ·have s5:=hag.same 5 (by decide)
          clear hag
          go_wp2_with fail
          exact hK _ _ hI (Ja _ _) rfl
         exact trivial
        case refine_3=>
         intro vs wz hI hvs
         have q7:=hvs 7 _ _ rfl rfl
         have q8:=hvs 8 _ _ rfl rfl
         have q9:(gB (fun _=>False) b 4 hb1 (fun v wq=>∃F',NB wq (b0+2) b F' kk ng (nm.take 40) (.slice qaa (((al.take 6).map bY)).length qac) v (.slice qra 0 qrc) (.slice qka 0 qkc) ((al.take 6).map bY) (((ws.take k).map (bf 4))++[(bf 4 p)]) [] []) hPr).1 (vs 9) wz:=hvs 9 _ _ rfl rfl
         simp only[pzz,aL,Act.put,Nat.reduceAdd,dpv (hvs 0 _ _ rfl rfl) (by decide) rfl,dpv (hvs 1 _ _ rfl rfl) (by decide) rfl,dpv (hvs 2 _ _ rfl rfl) (by decide) rfl,dpv (hvs 3 _ _ rfl rfl) (by decide) rfl,dpv (hvs 4 _ _ rfl rfl) (by decide) rfl,dpv (hvs 5 _ _ rfl rfl) (by decide) rfl,dpv (hvs 6 _ _ rfl rfl) (by decide) rfl,dpv (hvs 10 _ _ rfl rfl) (by decide) rfl]
         clear hvs
         generalize vs 7=x7 at*
         generalize vs 8=x8 at*
         generalize vs 9=x9 at*
         have HI:=jd hI
         obtain⟨F',hnb⟩:∃F',NB (wz.setCell ⟨b,4,none⟩ x9) (b0+2) b F' kk ng (nm.take 40) (.slice qaa (((al.take 6).map bY)).length qac) x9 (.slice qra 0 qrc) (.slice qka 0 qkc) ((al.take 6).map bY) (((ws.take k).map (bf 4))++[(bf 4 p)]) [] []:=q9
         obtain⟨za,zn,zc,rfl⟩:∃a n c,x9= .slice a n c:=by obtain⟨a,c,e,_⟩:=hnb.rw.slice;exact⟨a,_,c,e⟩
         obtain⟨⟨y0,y1,y2,y3,y4,y5,y6⟩,z0,z1,z2,z3,z4,z5,z6⟩:=NBx.cells hI.box
         have hbltz:b<wz.heap.size:=aj hI.box
         have HKZ:Hid (Kept (fun i=>b0+2≤i) W0 (wz.setCell ⟨b,4,none⟩ (.slice za zn zc))):=jd ((HKW.o.trans HI.o.k (fun _ _ h=>h)).set b 4 (fun _=>hlob) _)
         have HREL:=jd (FeS.of hnb HKZ.o)
         clear hI q7 q8 hnb HI HKZ
         go_wp2_with fail
         go_roundg (wn -(k+1))
         case measure=>omega
         case rel=>exact⟨k+1,rfl,by omega,by omega,rfl,by rw[HSN.o];exact HREL.o⟩
       |false=>
        have hor:ws.length≤k∨6≤k:=by
         have h9:¬(k<wn∧k<6):=fun h=>by have:=htt.2 h;cases this
         rw[HWN.o];omega
        have HFIN:=jd (gV (bf 4) hk6 hor)
        have HST:Hid (FeS W0 (b0+2) b kk ng (nm.take 40) ((al.take 6).map bY) ((ws.take 6).map (bf 4)) [] [] wr):=jd (by
         have h:=FeS.of HNB.o HKW.o
         rw[HFIN.o] at h
         exact h)
        clear htt hor HFIN HNB HKW HBX HBW
        obtain⟨wo,rfl⟩:∃wo:World,wo=wr:=⟨_,rfl⟩
        go_wp2_with fail
        go_loopg [8] rn (fun gk s9 wx=>∃k:Nat,gk=rn -k∧k≤rn∧k≤6∧s9= .int .i64 (k:Int)∧FeS W0 (b0+2) b kk ng (nm.take 40) ((al.take 6).map bY) ((ws.take 6).map (bf 4)) ((rs.take k).map dv) [] wx)
        case atStart=>exact⟨0,rfl,Nat.zero_le _,Nat.zero_le _,rfl,HST.o⟩
        case round=>
         obtain⟨k,rfl,hk,hk6,rfl,F,qaa,qac,qwa,qwc,qra,qrc,qka,qkc,hnb,hkw⟩:=hrel
         have HKW:=jd hkw
         have HNB:=jd hnb
         have HBX:Hid (NBx wr b0 #[.int .i64 kk,.bool ng,.string (BA nm),.slice aa an ac,.slice wa wn wc,.slice ra rn rc,.slice ka kn kc]):=jd (hkw.heap BX.o (fun h=>by have h':b0+2≤b0:=h;omega))
         have HBW:Hid (Below w.heap.size w wr):=jd (((K0.o.mono (S':=fun i=>b0+2≤i) (fun _ _ h=>h.elim)).trans hkw (fun _ _ h=>h)).below (Jb _) (fun i hi h=>by have h':b0+2≤i:=h;have:=HB0.o;omega))
         have hlob:=hnb.lob
         have hblt:=hnb.lt
         clear hnb hkw HST
         go_upto_region 11 with fail
         go_cut [91] (fun sc wx=>∃t:Bool,sc= .bool t∧wx=wr∧(t=true↔k<rn∧k<6))
         case first=>
          obtain⟨⟨x0,x1,x2,x3,x4,x5,x6⟩,-⟩:=NBx.cells HBX.o
          have hblx:b0<wr.heap.size:=by omega
          by_cases e1:k<rn
          ·have hdn:decide (k<rn)=true:=Jc e1
           have hdn':decide ((k:Int)<(rn:Int))=true:=Jc (by omega)
           by_cases e2:k<6
           ·have hd8:decide (k<6)=true:=Jc e2
            have hd8':decide ((k:Int)<6)=true:=Jc (by omega)
            go_wp2_with fail
            go_meet
            exact⟨true,rfl,rfl,⟨fun _=>⟨e1,e2⟩,fun _=>rfl⟩⟩
           ·have hd8:decide (k<6)=false:=Jd e2
            have hd8':decide ((k:Int)<6)=false:=Jd (by omega)
            go_wp2_with fail
            go_meet
            exact⟨false,rfl,rfl,⟨fun h=>(by cases h),fun h=>absurd h.2 e2⟩⟩
          ·have hdn:decide (k<rn)=false:=Jd e1
           have hdn':decide ((k:Int)<(rn:Int))=false:=Jd (by omega)
           go_wp2_with fail
           go_meet
           exact⟨false,rfl,rfl,⟨fun h=>(by cases h),fun h=>absurd h.1 e1⟩⟩
         case rest=>
          obtain⟨t,rfl,hwc,htt⟩:=hcut
          obtain rfl:=hwc.symm
          cases t with
          |true=>
           obtain⟨hlt,h6⟩:=htt.1 rfl
           obtain⟨p,hp⟩:∃p,rs[k]? =some p:=⟨_,Je (by rw[HRN.o];exact hlt)⟩
           have hpm:p∈rs:=List.mem_of_getElem? hp
           clear htt
           have HSN:=jd (gu dv hp)
           have hmL:=da dv (l:=rs) hk6
           have hfx:=HP.o.fr
           rw[HRN.o] at hfx
           obtain⟨b1,o1,oa,on,oc,e1,hin,p0,pj⟩:=lK.elem (C:=RC) (size:=2) (fun _=>rfl) (by decide) hfx hp
           subst e1
           have HIN:=jd (hin.blw HBW.o)
           have HTO:Hid (gH p.2):=jd (HP.o.tr p hpm)
           have hbl0:b1<b0:=by rw[←HB0.o];exact World.block_lt_of_cell? w _ p0
           have hbl:b1<wr.heap.size:=by have:=hblt;omega
           have hcl:∀j u,w.cell? ⟨b1,j,none⟩=some u→wr.cell? ⟨b1,j,none⟩=some u:=fun j u h=>(HBW.o.cell (by rw[HB0.o];exact hbl0)).trans h
           have P0:Hid (wr.cell? ⟨b1,o1+k*2,none⟩=some (.int .i64 p.1)):=jd (hcl _ _ p0)
           have P1:Hid (wr.cell? ⟨b1,o1+k*2+1,none⟩=some (.slice oa on oc)):=jd (hcl _ _ (pj 1 (by decide)))
           clear hfx hin p0 pj hcl
           obtain⟨m,hm⟩:∃m,(((rs.take k).map dv)).length=m:=⟨_,rfl⟩
           have hnb:=HNB.o
           obtain⟨ps,hps,hown,hel⟩:=hnb.rr
           have HM:=jd hm
           rw[hm] at hown hmL
           rw[hm] at HNB
           try rw[hm]
           have HOWN:=jd hown;have HPS:=jd hps;have HEL:=jd hel
           have hSS:∀i,wr.heap.size≤i→¬duS (fun _=>False) (blk (.slice qra m qrc)) i:=fun i hi e=>by
            rcases e with e|e
            ·exact e
            ·have:=cP HOWN.o i e;omega
           have hb1:¬((fun _:Nat=>False) b):=fun h=>h
           have hPr:∀(v:Value) (wx wy:World),Kept (fun _=>False) wx wy→(∃F',NB wx (b0+2) b F' kk ng (nm.take 40) (.slice qaa (((al.take 6).map bY)).length qac) (.slice qwa (((ws.take 6).map (bf 4))).length qwc) v (.slice qka 0 qkc) ((al.take 6).map bY) ((ws.take 6).map (bf 4)) (((rs.take k).map dv)++[(dv p)]) [])→∃F',NB wy (b0+2) b F' kk ng (nm.take 40) (.slice qaa (((al.take 6).map bY)).length qac) (.slice qwa (((ws.take 6).map (bf 4))).length qwc) v (.slice qka 0 qkc) ((al.take 6).map bY) ((ws.take 6).map (bf 4)) (((rs.take k).map dv)++[(dv p)]) []:=fun v wx wy hk ⟨F',h⟩=>⟨F',h.kept hk (fun i hi e=>e)⟩
           clear hnb hps hown hel hm hp
           go_upto_region 13 with fail
           refine bO 19 14 17 (fun _=>False) (blk (.slice qra m qrc)) (FwI wr (b0+2) b #[.int .i64 kk,.bool ng,.string (BA (nm.take 40)),(.slice qaa (((al.take 6).map bY)).length qac),(.slice qwa (((ws.take 6).map (bf 4))).length qwc),(.slice qra m qrc),(.slice qka 0 qkc)]) (gB (fun _=>False) b 5 hb1 (fun v wq=>∃F',NB wq (b0+2) b F' kk ng (nm.take 40) (.slice qaa (((al.take 6).map bY)).length qac) (.slice qwa (((ws.take 6).map (bf 4))).length qwc) v (.slice qka 0 qkc) ((al.take 6).map bY) ((ws.take 6).map (bf 4)) (((rs.take k).map dv)++[(dv p)]) []) hPr) [rV (.pointer (some ⟨b,5,none⟩)),rV (.slice qra m qrc),rV (.pointer (some ⟨b0,5,none⟩)),rV (.slice (some ⟨b1,o1,none⟩) rn rc),rV (.int .i64 (k:Int)),rV (.pointer (some ⟨b1,o1+k*2,none⟩)),rV (.pointer (some ⟨b1,o1+k*2,none⟩)),rV (.int .i64 p.1),rV (.pointer (some ⟨b0,5,none⟩)),rV (.slice (some ⟨b1,o1,none⟩) rn rc),rV (.int .i64 (k:Int)),rV (.pointer (some ⟨b1,o1+k*2,none⟩)),rV (.pointer (some ⟨b1,o1+k*2+1,none⟩)),rV (.slice oa on oc),rEl gi (duS (fun _=>False) (blk (.slice qra m qrc))) (fun i=>wr.heap.size≤i) hSS (bf 4 p.2),rBu iE (fun u=>.agg #[.int .i64 p.1,u]) (duS (fun _=>False) (blk (.slice qra m qrc))) (fun i=>wr.heap.size≤i) hSS (dv p),oe iE RC 64 (duS (fun _=>False) (blk (.slice qra m qrc))) (fun i=>wr.heap.size≤i) hSS (dv p),rV (.bool true),rV (.pointer (some ⟨b,5,none⟩))] (by kernel_rfl) (by kernel_rfl) ?_ ?_ ?_
           case refine_1=>exact FwI.start HNB.o.box
           case refine_2=>
            iterate 14
             refine cu (by decide) (by kernel_rfl) (fun s hs1 a' w' hI hag hf K hK=>?_) ?_
             ·obtain⟨⟨_,h0,rfl⟩,⟨_,h1,rfl⟩,-⟩:=hf
              have s2:=hag.same 2 (by decide)
              have s5:=hag.same 5 (by decide)
              have s8:=hag.same 8 (by decide)
              clear hag
              obtain⟨⟨y0,y1,y2,y3,y4,y5,y6⟩,-⟩:=NBx.cells hI.box
              have hbx:NBx w' b0 #[.int .i64 kk,.bool ng,.string (BA nm),.slice aa an ac,.slice wa wn wc,.slice (some ⟨b1,o1,none⟩) rn rc,.slice ka kn kc]:=hI.k.heap HBX.o (fun h=>by have h':b0+2≤b0:=h;omega)
              obtain⟨⟨x0,x1,x2,x3,x4,x5,x6⟩,-⟩:=NBx.cells hbx
              clear hbx
              have r0:=hI.k.cell P0.o (fun h=>by have h':b0+2≤b1:=h;omega)
              have r0:=hI.k.cell P1.o (fun h=>by have h':b0+2≤b1:=h;omega)
              go_wp2_with fail
              exact hK _ _ hI (Ja _ _) rfl
            refine gp (by decide) (fun a' w' hI hag hf K hK=>?_) ?_
            ·obtain⟨⟨_,h13,rfl⟩,-⟩:ay _ _ a' w' [13]:=hf
             clear hag
             have HI:=jd hI
             have hk0:=hI.k0 (Nat.zero_le _)
             clear hI
             go_wp2_with fail
             refine(HF4.o w' (.slice oa on oc) p.2 (HIN.o.blw (hk0.below (Jb _) (fun _ _ h=>h))) HTO.o).mono ?_
             rintro x w4 ⟨v,rfl,hw4,hk4⟩
             obtain⟨ua,un,uc,rfl⟩:=hw4.slice
             go_wp2_with fail
             exact hK _ _ (HI.o.call hk4) hk4 (hw4.mono (fun i _ hi=>lt9 hk0.size hi))
            refine cu (by decide) (by kernel_rfl) (fun s hs1 a' w' hI hag hf K hK=>?_) ?_
            ·obtain⟨⟨_,h7,rfl⟩,⟨v14,h14,e14⟩,-⟩:ay _ _ a' w' [7,14]:=hf
             clear hag
             have hw7:WAt w' (fun i=>wr.heap.size≤i) v14 (bf 4 p.2):=e14
             obtain⟨ua,un,uc,rfl⟩:=hw7.slice
             go_wp2_with fail
             exact hK _ _ hI (Ja _ _) ⟨_,rfl,hw7⟩
            refine cu (by decide) (by kernel_rfl) (fun s hs1 a' w' hI hag hf K hK=>?_) ?_
            ·obtain⟨⟨v15,h15,e15⟩,-⟩:ay _ _ a' w' [15]:=hf
             clear hag
             obtain⟨u,rfl,hu⟩:∃u,v15= .agg #[.int .i64 p.1,u]∧WAt w' (fun i=>wr.heap.size≤i) u (bf 4 p.2):=e15
             obtain⟨ua,un,uc,rfl⟩:=hu.slice
             have hz:=hI.k.size
             go_wp2_with fail
             exact hK _ _ (hI.ag ((Ja _ _).alloc _)) ((Ja _ _).alloc _) ⟨_,_,rfl,hz,heap_alloc _ _,hu.kept ((Ja _ _).alloc _) (fun _ _ h=>h)⟩
            refine gn (fun a' w' hI hag hf K hK=>?_) ?_
            ·obtain⟨⟨_,h1,rfl⟩,⟨v16,h16,e16⟩,-⟩:ay _ _ a' w' [1,16,14]:=hf
             clear hag
             obtain⟨bb,u,rfl,hbb,hbh,hu⟩:∃bb u,v16= .slice (some ⟨bb,0,none⟩) 1 1∧wr.heap.size≤bb∧w'.heap[bb]? =some (.cells (RC ((dv p),u)).toArray 64 (0,0))∧wa3 w' (fun i=>wr.heap.size≤i) u (dv p):=e16
             have hk1:=hI.k0 (Jb _)
             refine aQ rfl _ _ _ rfl ERs (.slice qra m qrc) m (ps.flatMap RC) (by simp[Act.eval,h1]) (bt hk1 HOWN.o (fun _ _ h=>h)) _ 1 (RC ((dv p),u)) (by simp[Act.eval,h16]) (dB (C:=RC) hbh rfl) (fun y hy=>?_) (by unfold maxLen;omega) (by omega) (fun ad9 cap9 w9 ho9 hg9 hf9=>?_)
             ·simp only[RC,Jl,List.not_mem_nil,or_false] at hy
              rcases hy with rfl|rfl
              ·rfl
              ·exact iJ hu
             have hk9:Kept (blk (.slice qra m qrc)) w' w9:=(Ja _ _).grown hg9 (fun i e _=>e)
             have ho9':w9.ownsRow 0 64 2 (.slice ad9 (m+1) cap9) ((((rs.take k).map dv)).length+1) (ps.flatMap RC++RC ((dv p),u)):=by rw[HM.o];exact ho9
             have hpush:=(HNB.o.pC (S:=fun _=>False) HPS.o HEL.o hk1 (fun i hi e=>e) (x:=(dv p)) (u:=u) (G:=fun i=>wr.heap.size≤i) hu (fun i hi=>hi) ho9' hg9 hf9).1
             exact hK _ _ (hI.app hk9 (fun i hi=>⟨(HNB.o.br i hi).1,(HNB.o.br i hi).2.1⟩)) hk9 ⟨_,hpush⟩
            refine di (by decide) (fun s a' w' hI hag hf K hK=>?_) ?_
            ·have s5:=hag.same 5 (by decide)
             clear hag
             go_wp2_with fail
             exact hK _ _ hI (Ja _ _) rfl
            exact trivial
           case refine_3=>
            intro vs wz hI hvs
            have q14:=hvs 14 _ _ rfl rfl
            have q15:=hvs 15 _ _ rfl rfl
            have q16:=hvs 16 _ _ rfl rfl
            have q17:(gB (fun _=>False) b 5 hb1 (fun v wq=>∃F',NB wq (b0+2) b F' kk ng (nm.take 40) (.slice qaa (((al.take 6).map bY)).length qac) (.slice qwa (((ws.take 6).map (bf 4))).length qwc) v (.slice qka 0 qkc) ((al.take 6).map bY) ((ws.take 6).map (bf 4)) (((rs.take k).map dv)++[(dv p)]) []) hPr).1 (vs 17) wz:=hvs 17 _ _ rfl rfl
            simp only[pzz,aL,Act.put,Nat.reduceAdd,dpv (hvs 0 _ _ rfl rfl) (by decide) rfl,dpv (hvs 1 _ _ rfl rfl) (by decide) rfl,dpv (hvs 2 _ _ rfl rfl) (by decide) rfl,dpv (hvs 3 _ _ rfl rfl) (by decide) rfl,dpv (hvs 4 _ _ rfl rfl) (by decide) rfl,dpv (hvs 5 _ _ rfl rfl) (by decide) rfl,dpv (hvs 6 _ _ rfl rfl) (by decide) rfl,dpv (hvs 7 _ _ rfl rfl) (by decide) rfl,dpv (hvs 8 _ _ rfl rfl) (by decide) rfl,dpv (hvs 9 _ _ rfl rfl) (by decide) rfl,dpv (hvs 10 _ _ rfl rfl) (by decide) rfl,dpv (hvs 11 _ _ rfl rfl) (by decide) rfl,dpv (hvs 12 _ _ rfl rfl) (by decide) rfl,dpv (hvs 13 _ _ rfl rfl) (by decide) rfl,dpv (hvs 18 _ _ rfl rfl) (by decide) rfl]
            clear hvs
            generalize vs 14=x14 at*
            generalize vs 15=x15 at*
            generalize vs 16=x16 at*
            generalize vs 17=x17 at*
            have HI:=jd hI
            obtain⟨F',hnb⟩:∃F',NB (wz.setCell ⟨b,5,none⟩ x17) (b0+2) b F' kk ng (nm.take 40) (.slice qaa (((al.take 6).map bY)).length qac) (.slice qwa (((ws.take 6).map (bf 4))).length qwc) x17 (.slice qka 0 qkc) ((al.take 6).map bY) ((ws.take 6).map (bf 4)) (((rs.take k).map dv)++[(dv p)]) []:=q17
            obtain⟨za,zn,zc,rfl⟩:∃a n c,x17= .slice a n c:=by obtain⟨a,c,e,_⟩:=hnb.rr.slice;exact⟨a,_,c,e⟩
            obtain⟨⟨y0,y1,y2,y3,y4,y5,y6⟩,z0,z1,z2,z3,z4,z5,z6⟩:=NBx.cells hI.box
            have hbltz:b<wz.heap.size:=aj hI.box
            have HKZ:Hid (Kept (fun i=>b0+2≤i) W0 (wz.setCell ⟨b,5,none⟩ (.slice za zn zc))):=jd ((HKW.o.trans HI.o.k (fun _ _ h=>h)).set b 5 (fun _=>hlob) _)
            have HREL:=jd (FeS.of hnb HKZ.o)
            clear hI q14 q16 q15 hnb HI HKZ
            go_wp2_with fail
            go_roundg (rn -(k+1))
            case measure=>omega
            case rel=>exact⟨k+1,rfl,by omega,by omega,rfl,by rw[HSN.o];exact HREL.o⟩
          |false=>
           have hor:rs.length≤k∨6≤k:=by
            have h9:¬(k<rn∧k<6):=fun h=>by have:=htt.2 h;cases this
            rw[HRN.o];omega
           have HFIN:=jd (gV dv hk6 hor)
           have HST:Hid (FeS W0 (b0+2) b kk ng (nm.take 40) ((al.take 6).map bY) ((ws.take 6).map (bf 4)) ((rs.take 6).map dv) [] wr):=jd (by
            have h:=FeS.of HNB.o HKW.o
            rw[HFIN.o] at h
            exact h)
           clear htt hor HFIN HNB HKW HBX HBW
           obtain⟨wo,rfl⟩:∃wo:World,wo=wr:=⟨_,rfl⟩
           go_wp2_with fail
           obtain⟨FN,hFN⟩:∃f:Nd→Nd,f=lJ (d -1):=⟨_,rfl⟩
           have HFE:=jd hFN
           clear hFN
           go_loopg [9] kn (fun gk s9 wx=>∃k:Nat,gk=kn -k∧k≤kn∧k≤6∧(d=0→k=0)∧s9= .int .i64 (k:Int)∧FeS W0 (b0+2) b kk ng (nm.take 40) ((al.take 6).map bY) ((ws.take 6).map (bf 4)) ((rs.take 6).map dv) ((ks.take k).map FN) wx)
           case atStart=>exact⟨0,rfl,Nat.zero_le _,Nat.zero_le _,(fun _=>rfl),rfl,HST.o⟩
           case round=>
            obtain⟨k,rfl,hk,hk6,hd0,rfl,F,qaa,qac,qwa,qwc,qra,qrc,qka,qkc,hnb,hkw⟩:=hrel
            have HKW:=jd hkw
            have HNB:=jd hnb
            have HBX:Hid (NBx wr b0 #[.int .i64 kk,.bool ng,.string (BA nm),.slice aa an ac,.slice wa wn wc,.slice ra rn rc,.slice ka kn kc]):=jd (hkw.heap BX.o (fun h=>by have h':b0+2≤b0:=h;omega))
            have HBW:Hid (Below w.heap.size w wr):=jd (((K0.o.mono (S':=fun i=>b0+2≤i) (fun _ _ h=>h.elim)).trans hkw (fun _ _ h=>h)).below (Jb _) (fun i hi h=>by have h':b0+2≤i:=h;have:=HB0.o;omega))
            have hlob:=hnb.lob
            have hblt:=hnb.lt
            clear hnb hkw HST
            go_upto_region 15 with fail
            go_cut [125] (fun sc wx=>∃t:Bool,sc= .bool t∧wx=wr∧(t=true↔k<kn∧k<6∧d≠0))
            case first=>
             obtain⟨⟨x0,x1,x2,x3,x4,x5,x6⟩,-⟩:=NBx.cells HBX.o
             have hblx:b0<wr.heap.size:=by omega
             by_cases e1:k<kn
             ·have hdn:decide (k<kn)=true:=Jc e1
              have hdn':decide ((k:Int)<(kn:Int))=true:=Jc (by omega)
              by_cases e2:k<6
              ·have hd8:decide (k<6)=true:=Jc e2
               have hd8':decide ((k:Int)<6)=true:=Jc (by omega)
               by_cases e3:0<d
               ·have hd1:decide (0<(d:Int))=true:=Jc (by omega)
                have hd2:decide (0<d)=true:=Jc e3
                go_wp2_with fail
                go_meet
                exact⟨true,rfl,rfl,⟨fun _=>⟨e1,e2,by omega⟩,fun _=>rfl⟩⟩
               ·have hd1:decide (0<(d:Int))=false:=Jd (by omega)
                have hd2:decide (0<d)=false:=Jd e3
                go_wp2_with fail
                go_meet
                exact⟨false,rfl,rfl,⟨fun h=>(by cases h),fun h=>absurd h.2.2 (by omega)⟩⟩
              ·have hd8:decide (k<6)=false:=Jd e2
               have hd8':decide ((k:Int)<6)=false:=Jd (by omega)
               go_wp2_with fail
               go_meet
               exact⟨false,rfl,rfl,⟨fun h=>(by cases h),fun h=>absurd h.2.1 e2⟩⟩
             ·have hdn:decide (k<kn)=false:=Jd e1
              have hdn':decide ((k:Int)<(kn:Int))=false:=Jd (by omega)
              go_wp2_with fail
              go_meet
              exact⟨false,rfl,rfl,⟨fun h=>(by cases h),fun h=>absurd h.1 e1⟩⟩
            case rest=>
             obtain⟨t,rfl,hwc,htt⟩:=hcut
             obtain rfl:=hwc.symm
             cases t with
             |true=>
              obtain⟨hlt,h6,hdne⟩:=htt.1 rfl
              obtain⟨p,hp⟩:∃p,ks[k]? =some p:=⟨_,Je (by rw[HKN.o];exact hlt)⟩
              have hpm:p∈ks:=List.mem_of_getElem? hp
              clear htt
              have HSN:=jd (gu FN hp)
              have hmL:=da FN (l:=ks) hk6
              have hfx:=HP.o.fk
              rw[HKN.o] at hfx
              obtain⟨b1,o1,xaa,xac,xwa,xwc,xra,xrc,xka,xkc,e1,hin,p0,p1,p2,p3,p4,p5,p6⟩:=hfx.elem hp
              subst e1
              obtain⟨d',hd'⟩:∃d',d=d'+1:=⟨d -1,by omega⟩
              have HDD:=jd hd'
              have hdI:(d:Int)=(d':Int)+1:=by omega
              have hd1:decide (0<(d:Int))=true:=Jc (by omega)
              have hd2:decide (0<(d':Int)+1)=true:=Jc (by omega)
              have HIN:=jd (hin.blw HBW.o)
              have hFe:FN p=lJ d' p:=by rw[HFE.o,HDD.o];rfl
              have HFe:=jd hFe
              rw[hdI]
              have hbl0:b1<b0:=by rw[←HB0.o];exact World.block_lt_of_cell? w _ p0
              have hbl:b1<wr.heap.size:=by have:=hblt;omega
              have hcl:∀j u,w.cell? ⟨b1,j,none⟩=some u→wr.cell? ⟨b1,j,none⟩=some u:=fun j u h=>(HBW.o.cell (by rw[HB0.o];exact hbl0)).trans h
              have P0:=jd (hcl _ _ p0);have P1:=jd (hcl _ _ p1);have P2:=jd (hcl _ _ p2);have P3:=jd (hcl _ _ p3);have P4:=jd (hcl _ _ p4);have P5:=jd (hcl _ _ p5);have P6:=jd (hcl _ _ p6)
              clear hfx hin hd' hFe hcl p0 p1 p2 p3 p4 p5 p6
              obtain⟨m,hm⟩:∃m,(((ks.take k).map FN)).length=m:=⟨_,rfl⟩
              have hnb:=HNB.o
              obtain⟨ps,hps,hown,hel⟩:=hnb.rk
              have HM:=jd hm
              rw[hm] at hown hmL
              rw[hm] at HNB
              try rw[hm]
              have HOWN:=jd hown;have HPS:=jd hps;have HEL:=jd hel
              have hSS:∀i,wr.heap.size≤i→¬duS (fun _=>False) (blk (.slice qka m qkc)) i:=fun i hi e=>by
               rcases e with e|e
               ·exact e
               ·have:=cP HOWN.o i e;omega
              have hb1:¬((fun _:Nat=>False) b):=fun h=>h
              have hPr:∀(v:Value) (wx wy:World),Kept (fun _=>False) wx wy→(∃F',NB wx (b0+2) b F' kk ng (nm.take 40) (.slice qaa (((al.take 6).map bY)).length qac) (.slice qwa (((ws.take 6).map (bf 4))).length qwc) (.slice qra (((rs.take 6).map dv)).length qrc) v ((al.take 6).map bY) ((ws.take 6).map (bf 4)) ((rs.take 6).map dv) (((ks.take k).map FN)++[(FN p)]))→∃F',NB wy (b0+2) b F' kk ng (nm.take 40) (.slice qaa (((al.take 6).map bY)).length qac) (.slice qwa (((ws.take 6).map (bf 4))).length qwc) (.slice qra (((rs.take 6).map dv)).length qrc) v ((al.take 6).map bY) ((ws.take 6).map (bf 4)) ((rs.take 6).map dv) (((ks.take k).map FN)++[(FN p)]):=fun v wx wy hk ⟨F',h⟩=>⟨F',h.kept hk (fun i hi e=>e)⟩
              clear hnb hps hown hel hm hp
              go_upto_region 17 with fail
              refine bO 13 9 11 (fun _=>False) (blk (.slice qka m qkc)) (FwI wr (b0+2) b #[.int .i64 kk,.bool ng,.string (BA (nm.take 40)),(.slice qaa (((al.take 6).map bY)).length qac),(.slice qwa (((ws.take 6).map (bf 4))).length qwc),(.slice qra (((rs.take 6).map dv)).length qrc),(.slice qka m qkc)]) (gB (fun _=>False) b 6 hb1 (fun v wq=>∃F',NB wq (b0+2) b F' kk ng (nm.take 40) (.slice qaa (((al.take 6).map bY)).length qac) (.slice qwa (((ws.take 6).map (bf 4))).length qwc) (.slice qra (((rs.take 6).map dv)).length qrc) v ((al.take 6).map bY) ((ws.take 6).map (bf 4)) ((rs.take 6).map dv) (((ks.take k).map FN)++[(FN p)])) hPr) [rV (.pointer (some ⟨b,6,none⟩)),rV (.slice qka m qkc),rV (.pointer (some ⟨b0,6,none⟩)),rV (.slice (some ⟨b1,o1,none⟩) kn kc),rV (.int .i64 (k:Int)),rV (.pointer (some ⟨b1,o1+k*7,none⟩)),rV (.agg #[.int .i64 p.kind,.bool p.neg,.string (BA p.name),.slice xaa p.al.length xac,.slice xwa p.ws.length xwc,.slice xra p.rs.length xrc,.slice xka p.kids.length xkc]),rV (.int .i64 ((d':Int)+1)),rV (.int .i64 (d':Int)),rEl ej (duS (fun _=>False) (blk (.slice qka m qkc))) (fun i=>wr.heap.size≤i) hSS (FN p),oe ej NC 27 (duS (fun _=>False) (blk (.slice qka m qkc))) (fun i=>wr.heap.size≤i) hSS (FN p),rV (.bool true),rV (.pointer (some ⟨b,6,none⟩))] (by kernel_rfl) (by kernel_rfl) ?_ ?_ ?_
              case refine_1=>exact FwI.start HNB.o.box
              case refine_2=>
               iterate 9
                refine cu (by decide) (by kernel_rfl) (fun s hs1 a' w' hI hag hf K hK=>?_) ?_
                ·obtain⟨⟨_,h0,rfl⟩,⟨_,h1,rfl⟩,-⟩:=hf
                 have s1:=hag.same 1 (by decide)
                 have s2:=hag.same 2 (by decide)
                 have s5:=hag.same 5 (by decide)
                 have s9:=hag.same 9 (by decide)
                 clear hag
                 obtain⟨⟨y0,y1,y2,y3,y4,y5,y6⟩,-⟩:=NBx.cells hI.box
                 have hbx:NBx w' b0 #[.int .i64 kk,.bool ng,.string (BA nm),.slice aa an ac,.slice wa wn wc,.slice ra rn rc,.slice (some ⟨b1,o1,none⟩) kn kc]:=hI.k.heap HBX.o (fun h=>by have h':b0+2≤b0:=h;omega)
                 obtain⟨⟨x0,x1,x2,x3,x4,x5,x6⟩,-⟩:=NBx.cells hbx
                 clear hbx
                 have r0:=hI.k.cell P0.o (fun h=>by have h':b0+2≤b1:=h;omega)
                 have r1:=hI.k.cell P1.o (fun h=>by have h':b0+2≤b1:=h;omega)
                 have r2:=hI.k.cell P2.o (fun h=>by have h':b0+2≤b1:=h;omega)
                 have r3:=hI.k.cell P3.o (fun h=>by have h':b0+2≤b1:=h;omega)
                 have r4:=hI.k.cell P4.o (fun h=>by have h':b0+2≤b1:=h;omega)
                 have r5:=hI.k.cell P5.o (fun h=>by have h':b0+2≤b1:=h;omega)
                 have r6:=hI.k.cell P6.o (fun h=>by have h':b0+2≤b1:=h;omega)
                 go_wp2_with fail
                 exact hK _ _ hI (Ja _ _) rfl
               refine gp (by decide) (fun a' w' hI hag hf K hK=>?_) ?_
               ·obtain⟨⟨_,h6,rfl⟩,⟨_,h8,rfl⟩,-⟩:ay _ _ a' w' [6,8]:=hf
                clear hag
                have HI:=jd hI
                have hk0:=hI.k0 (Nat.zero_le _)
                clear hI
                go_wp2_with fail
                refine(HFN.o d' HDD.o w' _ p (HIN.o.blw (hk0.below (Jb _) (fun _ _ h=>h)))).mono ?_
                rintro x w4 ⟨v,rfl,hw4,hk4⟩
                obtain⟨uk,ub,us,uaa,uan,uac,uwa,uwn,uwc,ura,urn,urc,uka,ukn,ukc,rfl⟩:=hw4.agg
                go_wp2_with fail
                exact hK _ _ (HI.o.call hk4) hk4 (by show NAt w4 (fun i=>wr.heap.size≤i) _ (FN p);rw[HFe.o];exact hw4.mono (fun i _ hi=>lt9 hk0.size hi))
               refine cu (by decide) (by kernel_rfl) (fun s hs1 a' w' hI hag hf K hK=>?_) ?_
               ·obtain⟨⟨v9,h9,e9⟩,-⟩:ay _ _ a' w' [9]:=hf
                clear hag
                have hw7:NAt w' (fun i=>wr.heap.size≤i) v9 (FN p):=e9
                obtain⟨uk,ub,us,uaa,uan,uac,uwa,uwn,uwc,ura,urn,urc,uka,ukn,ukc,rfl⟩:=hw7.agg
                have hz:=hI.k.size
                go_wp2_with fail
                exact hK _ _ (hI.ag ((Ja _ _).alloc _)) ((Ja _ _).alloc _) ⟨_,_,rfl,hz,heap_alloc _ _,hw7.kept ((Ja _ _).alloc _) (fun _ _ h=>h)⟩
               refine gn (fun a' w' hI hag hf K hK=>?_) ?_
               ·obtain⟨⟨_,h1,rfl⟩,⟨v10,h10,e10⟩,-⟩:ay _ _ a' w' [1,10,9]:=hf
                clear hag
                obtain⟨bb,u,rfl,hbb,hbh,hu⟩:∃bb u,v10= .slice (some ⟨bb,0,none⟩) 1 1∧wr.heap.size≤bb∧w'.heap[bb]? =some (.cells (NC ((FN p),u)).toArray 27 (0,0))∧wa4 w' (fun i=>wr.heap.size≤i) u (FN p):=e10
                have hk1:=hI.k0 (Jb _)
                refine aQ rfl _ _ _ rfl EKs (.slice qka m qkc) m (ps.flatMap NC) (by simp[Act.eval,h1]) (bt hk1 HOWN.o (fun _ _ h=>h)) _ 1 (NC ((FN p),u)) (by simp[Act.eval,h10]) (dB (C:=NC) hbh (NAt.vc hu)) (fun y hy=>?_) (by unfold maxLen;omega) (by omega) (fun ad9 cap9 w9 ho9 hg9 hf9=>?_)
                ·exact mm hu y hy
                have hk9:Kept (blk (.slice qka m qkc)) w' w9:=(Ja _ _).grown hg9 (fun i e _=>e)
                have ho9':w9.ownsRow 0 27 7 (.slice ad9 (m+1) cap9) ((((ks.take k).map FN)).length+1) (ps.flatMap NC++NC ((FN p),u)):=by rw[HM.o];exact ho9
                have hpush:=(HNB.o.lC (S:=fun _=>False) HPS.o HEL.o hk1 (fun i hi e=>e) (x:=(FN p)) (u:=u) (G:=fun i=>wr.heap.size≤i) hu (fun i hi=>hi) ho9' hg9 hf9).1
                exact hK _ _ (hI.app hk9 (fun i hi=>⟨(HNB.o.bk i hi).1,(HNB.o.bk i hi).2⟩)) hk9 ⟨_,hpush⟩
               refine di (by decide) (fun s a' w' hI hag hf K hK=>?_) ?_
               ·have s5:=hag.same 5 (by decide)
                clear hag
                go_wp2_with fail
                exact hK _ _ hI (Ja _ _) rfl
               exact trivial
              case refine_3=>
               intro vs wz hI hvs
               have q9:=hvs 9 _ _ rfl rfl
               have q10:=hvs 10 _ _ rfl rfl
               have q11:(gB (fun _=>False) b 6 hb1 (fun v wq=>∃F',NB wq (b0+2) b F' kk ng (nm.take 40) (.slice qaa (((al.take 6).map bY)).length qac) (.slice qwa (((ws.take 6).map (bf 4))).length qwc) (.slice qra (((rs.take 6).map dv)).length qrc) v ((al.take 6).map bY) ((ws.take 6).map (bf 4)) ((rs.take 6).map dv) (((ks.take k).map FN)++[(FN p)])) hPr).1 (vs 11) wz:=hvs 11 _ _ rfl rfl
               simp only[pzz,aL,Act.put,Nat.reduceAdd,dpv (hvs 0 _ _ rfl rfl) (by decide) rfl,dpv (hvs 1 _ _ rfl rfl) (by decide) rfl,dpv (hvs 2 _ _ rfl rfl) (by decide) rfl,dpv (hvs 3 _ _ rfl rfl) (by decide) rfl,dpv (hvs 4 _ _ rfl rfl) (by decide) rfl,dpv (hvs 5 _ _ rfl rfl) (by decide) rfl,dpv (hvs 6 _ _ rfl rfl) (by decide) rfl,dpv (hvs 7 _ _ rfl rfl) (by decide) rfl,dpv (hvs 8 _ _ rfl rfl) (by decide) rfl,dpv (hvs 12 _ _ rfl rfl) (by decide) rfl]
               clear hvs
               generalize vs 9=x9 at*
               generalize vs 10=x10 at*
               generalize vs 11=x11 at*
               have HI:=jd hI
               obtain⟨F',hnb⟩:∃F',NB (wz.setCell ⟨b,6,none⟩ x11) (b0+2) b F' kk ng (nm.take 40) (.slice qaa (((al.take 6).map bY)).length qac) (.slice qwa (((ws.take 6).map (bf 4))).length qwc) (.slice qra (((rs.take 6).map dv)).length qrc) x11 ((al.take 6).map bY) ((ws.take 6).map (bf 4)) ((rs.take 6).map dv) (((ks.take k).map FN)++[(FN p)]):=q11
               obtain⟨za,zn,zc,rfl⟩:∃a n c,x11= .slice a n c:=by obtain⟨a,c,e,_⟩:=hnb.rk.slice;exact⟨a,_,c,e⟩
               obtain⟨⟨y0,y1,y2,y3,y4,y5,y6⟩,z0,z1,z2,z3,z4,z5,z6⟩:=NBx.cells hI.box
               have hbltz:b<wz.heap.size:=aj hI.box
               have HKZ:Hid (Kept (fun i=>b0+2≤i) W0 (wz.setCell ⟨b,6,none⟩ (.slice za zn zc))):=jd ((HKW.o.trans HI.o.k (fun _ _ h=>h)).set b 6 (fun _=>hlob) _)
               have HREL:=jd (FeS.of hnb HKZ.o)
               clear hI q9 q10 hnb HI HKZ
               go_wp2_with fail
               try rw[←hdI]
               go_roundg (kn -(k+1))
               case measure=>omega
               case rel=>exact⟨k+1,rfl,by omega,by omega,(fun h=>absurd h hdne),rfl,by rw[HSN.o];exact HREL.o⟩
             |false=>
              have HFIN:Hid ((.mk kk ng (nm.take 40) ((al.take 6).map bY) ((ws.take 6).map (bf 4)) ((rs.take 6).map dv) ((ks.take k).map FN):Nd)=lJ d (.mk kk ng nm al ws rs ks)):=jd (by
               cases hd:d with
               |zero=>rw[hd0 hd];rfl
               |succ d'=>
                have hor:ks.length≤k∨6≤k:=by
                 have h9:¬(k<kn∧k<6∧d≠0):=fun h=>by have:=htt.2 h;cases this
                 rw[HKN.o];omega
                rw[gV FN hk6 hor,HFE.o,hd];rfl)
              have HBRz:Hid (NBx wr (b0+1) zN):=jd (HKW.o.heap BR.o (fun h=>by have h':b0+2≤b0+1:=h;omega))
              have hblr:=aj HBRz.o
              obtain⟨⟨y0,y1,y2,y3,y4,y5,y6⟩,-⟩:=NBx.cells HNB.o.box
              obtain⟨⟨r0,r1,r2,r3,r4,r5,r6⟩,g0,g1,g2,g3,g4,g5,g6⟩:=NBx.cells (show NBx wr (b0+1) zN from HBRz.o)
              have hnz:b0+1≠b:=by omega
              have hat:=HNB.o.at
              rw[HFIN.o] at hat
              obtain⟨m1,hm1⟩:∃m,(((al.take 6).map bY)).length=m:=⟨_,rfl⟩
              obtain⟨m2,hm2⟩:∃m,(((ws.take 6).map (bf 4))).length=m:=⟨_,rfl⟩
              obtain⟨m3,hm3⟩:∃m,(((rs.take 6).map dv)).length=m:=⟨_,rfl⟩
              obtain⟨m4,hm4⟩:∃m,(((ks.take k).map FN)).length=m:=⟨_,rfl⟩
              rw[hm1] at y3 hat
              rw[hm2] at y4 hat
              rw[hm3] at y5 hat
              rw[hm4] at y6 hat
              have HAT:=jd hat
              clear htt hat hm1 hm2 hm3 hm4
              go_wp2_with fail
              have B7:=jd (bH (show NBx wr (b0+1) zN from HBRz.o) (.int .i64 kk) (.bool ng) (.string (BA (nm.take 40))) (.slice qaa m1 qac) (.slice qwa m2 qwc) (.slice qra m3 qrc) (.slice qka m4 qkc))
              refine bodyPost_ret (v:= .agg #[.int .i64 kk,.bool ng,.string (BA (nm.take 40)),.slice qaa m1 qac,.slice qwa m2 qwc,.slice qra m3 qrc,.slice qka m4 qkc]) ?_ rfl ?_
              ·exact results_cell_row rfl _ _ (b0+1) 27 _ (0,0) _ (by rfl) B7.o Tryz.underlying27 rfl (by kernel_rfl)
              refine⟨_,rfl,(HAT.o.kept (S:=fun i=>i=b0+1) (aX (Ja (fun i=>i=b0+1) wr) (fun _=>rfl) _ _ _ _ _ _ _) (fun i hi e=>by have hi':b0+2≤i:=hi;have e':i=b0+1:=e;omega)).mono (fun i _ hi=>by have hi':b0+2≤i:=hi;have:=HB0.o;omega),?_⟩
              exact aX (K0.o.trans HKW.o (fun i hi h=>by have h':b0+2≤i:=h;have:=HB0.o;omega)) (fun h=>by have:=HB0.o;omega) _ _ _ _ _ _ _
end Go.Proofs.YtgigdlhcjahejaaGreatDoor
