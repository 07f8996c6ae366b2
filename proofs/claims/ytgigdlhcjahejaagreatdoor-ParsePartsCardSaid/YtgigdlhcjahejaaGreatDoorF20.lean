import Derived.Test.YtgigdlhcjahejaaGreatDoorF19
import Derived.Test.YtgigdlhcjahejaaGreatDoorF00
import Derived.RangeFuncNested
import Derived.RangeFuncBound
import Derived.RangeFuncCalls
import Derived.RangeFuncLeaves
import Derived.OwnWalkIn
import Derived.TacticsInMore
import Derived.LoopNIn
import Derived.LoopIn
import Derived.Shelf.Abstract
set_option linter.all false
set_option maxHeartbeats 400000000
namespace Go.Proofs.YtgigdlhcjahejaaGreatDoor
open Go Go.RowKit Go.Lw
set_option maxRecDepth 100000
attribute [local go_sem] aA
theorem D5 {w:World} {b:Nat} {x:LB} (h:w.heap[b]? =some (.cells #[.string (BA x)] 9 (0,0))):w.ownsRow 0 9 1 (.slice (some ⟨b,0,none⟩) 1 1) 1 [.string (BA x)]:=
 ⟨rfl,.inr ⟨b,1,#[.string (BA x)],rfl,Ju _,h,Jb _,by unfold maxLen;decide,rfl,rfl⟩⟩
theorem FV (L:List LB):∀u∈sv L,u.oneCell'=true:=fun u hu=>by
 unfold sv at hu
 obtain⟨x,_,rfl⟩:=List.mem_map.1 hu
 rfl
theorem AW (n:Nat) (HT:Hid (tP n)) (w:World) (F0:Nat→Prop) (v:Value) (nd:Nd) (hsz:dq nd.kids≤n) (h0:NAt w F0 v nd) (hE:bW w) (ht:TxN nd):
  Calls Tryz.prog 24 #[v] w fun x w'=>x= .returned (.string (BA (aj nd)))∧Kept (fun _=>False) w w':=by
 have h:NAt w (fun b=>b<w.heap.size) v nd:=h0.mono (fun b hb _=>hb)
 have HN0:=jd h;have HE:=jd hE;have HTX:=jd ht;have HSZ:=jd hsz
 have hok:=ht.ok nd (iw nd)
 have hsh:=ht.sh nd (iw nd)
 have hrs:=Dg hsh
 have htx:=ht.tx
 have hlk9:=hok.lk
 have HOK:=jd hok;have HRS:=jd hrs;have HSH:=jd hsh
 obtain⟨tsg,frsg,hsg⟩:=hE.signs
 have hsgl:2<w.heap.size:=av hsg
 obtain⟨xa,xan,xac,xw,xwn,xwc,xr,xrn,xrc,xk,xkn,xkc,rfl,h1,h2,h3,h4⟩:=h.opens
 have e4:=h4.len
 have EK:=jd e4
 obtain⟨kk,nb,nm,al,ws,rs,ks⟩:=nd
 have HKC:=jd (rO hsh)
 have htk:=qO (.mk kk nb nm al ws rs ks)
 simp only[Nd.kids,Nd.rs] at hrs hlk9 htk EK
 obtain⟨L,hL⟩:∃L,ks.map aj=L:=⟨_,rfl⟩
 rw[hL] at htk
 obtain⟨T,hT⟩:∃T,aj (.mk kk nb nm al ws rs ks)=T:=⟨_,rfl⟩
 rw[hT] at htk htx⊢
 have HTT:=jd htk
 have htx9:T.length≤100000000:=htx
 have HLL:Hid (L.length=xkn):=jd (by rw[←hL,List.length_map,EK.o])
 have hln:L.length≤100000:=by rw[←hL,List.length_map];exact hlk9
 have HLN:=jd hln;have HLM:=jd hL;have HTX9:=jd htx9
 have KA:Hid (Kept (fun _=>False) w (w.alloc (.cells #[.int .i64 kk,.bool nb,.string (BA nm),.slice xa xan xac,.slice xw xwn xwc,.slice xr xrn xrc,.slice xk xkn xkc] 27))):=jd ((Ja _ w).alloc _)
 have PA:Hid (NBx (w.alloc (.cells #[.int .i64 kk,.bool nb,.string (BA nm),.slice xa xan xac,.slice xw xwn xwc,.slice xr xrn xrc,.slice xk xkn xkc] 27)) w.heap.size #[.int .i64 kk,.bool nb,.string (BA nm),.slice xa xan xac,.slice xw xwn xwc,.slice xr xrn xrc,.slice xk xkn xkc]):=jd (heap_alloc w _)
 have HC:=jd (vj n HT _ _ _ (.mk kk nb nm al ws rs ks) HSZ.o (HN0.o.kept KA.o (fun _ _ h=>h)) (HE.o.au KA.o) HTX.o)
 simp only[Nd.kids] at HC
 rw[hL] at HC
 clear h h0 h1 h2 h3 h4 hsz hE ht hL hln hok hsh hrs htx hlk9 htk hT hsg htx9 e4
 show Calls Tryz.prog 24 #[.agg #[.int .i64 kk,.bool nb,.string (BA nm),.slice xa xan xac,.slice xw xwn xwc,.slice xr xrn xrc,.slice xk xkn xkc]] w _
 go_enter Tryz.func24,Tryz.ntmps24
 go_wp2_with fail
 refine HC.o.mono ?_
 rintro x w1 ⟨vr,rfl,hst,k1⟩
 rw[World.size_alloc] at hst
 have K1:=jd (KA.o.trans k1 (fun _ _ h=>h))
 have P1:Hid (NBx w1 w.heap.size #[.int .i64 kk,.bool nb,.string (BA nm),.slice xa xan xac,.slice xw xwn xwc,.slice xr xrn xrc,.slice xk xkn xkc]):=jd (k1.heap PA.o (fun h=>h))
 have HS:=jd hst
 have hsz1:w.heap.size+1≤w1.heap.size:=by have h1:=KA.o.size;have h2:=k1.size;rw[World.size_alloc] at h2;exact h2
 obtain⟨⟨y0,y1,y2,y3,y4,y5,y6⟩,-⟩:=NBx.cells P1.o
 clear hst k1
 rcases HKC.o with e|e|e|e|e|e|e|e|e|e
 ·obtain rfl:kk=1:=e
  have HTT:Hid (T=aX (bI al ws) rs):=jd (by rw[HTT.o];simp[fS])
  have HLB:Hid ((bI al ws).length≤200000):=jd (by
   unfold bI
   have h1:=HOK.o.la;have h2:=HOK.o.lw
   simp only[Nd.al,Nd.ws] at h1 h2
   rw[Jf,List.length_map,List.length_map];omega)
  go_wp2_with fail
  refine du 3 [stV (.agg #[.int .i64 1,.bool nb,.string (BA nm),.slice xa xan xac,.slice xw xwn xwc,.slice xr xrn xrc,.slice xk xkn xkc]),stV (.agg #[.int .i64 1,.bool nb,.string (BA nm),.slice xa xan xac,.slice xw xwn xwc,.slice xr xrn xrc,.slice xk xkn xkc]),oB (w.heap.size+1) (bI al ws)] (by kernel_rfl) (by kernel_rfl) ?_ ?_
  ·iterate 2
    refine ai (fun a' w' hI hag hf K hK=>?_) ?_
    ·have s1:=hag.same 1 (by decide)
     clear hag
     have hh:NBx w' w.heap.size _:=hI.heap P1.o (fun h=>h)
     obtain⟨⟨r0,r1,r2,r3,r4,r5,r6⟩,-⟩:=NBx.cells hh
     clear hh
     go_wp2_with fail
     exact hK _ _ hI (Ja _ _) rfl
   refine ai (fun a' w' hI hag hf K hK=>?_) ?_
   ·obtain⟨⟨_,h1,rfl⟩,-⟩:ah _ _ a' w' [1]:=hf
    clear hag
    go_wp2_with fail
    refine(sF _ _ _ (.mk 1 nb nm al ws rs ks) (HN0.o.kept (K1.o.trans hI (fun _ _ h=>h)) (fun _ _ h=>h)) HOK.o).mono ?_
    rintro e wn ⟨vq,rfl,hq,hkn⟩
    go_wp2_with fail
    exact hK _ _ (hI.trans hkn (fun _ _ h=>h)) hkn (hq.mono (by have h1:=hI.size;omega))
   exact trivial
  ·intro vs wz hI hvs
   have q2:=hvs 2 _ _ rfl rfl
   simp only[pzz,aW,Act.put,Nat.reduceAdd,spv (hvs 0 _ _ rfl rfl) rfl,spv (hvs 1 _ _ rfl rfl) rfl]
   clear hvs
   generalize vs 2=x2 at*
   have KZ:Hid (Kept (fun _=>False) w wz):=jd (K1.o.trans hI (fun _ _ h=>h))
   have HB:=jd (gb wz (fun b=>b<w.heap.size) _ (.mk 1 nb nm al ws rs ks) (w.heap.size+1) _ (bI al ws) (HN0.o.kept KZ.o (fun _ _ h=>h)) q2 (by have h1:=hI.size;omega) (fun b hb=>Nat.lt_succ_of_lt hb) (Nat.lt_succ_of_lt hsgl) (HE.o.au KZ.o) HOK.o HRS.o HLB.o (by show(aX _ rs).length≤_;rw[←HTT.o];exact HTX9.o))
   have HB2:Hid (aX (bI al ws) rs=T):=jd HTT.o.symm
   simp only[Nd.rs] at HB
   rw[HB2.o] at HB
   clear hI q2 y0 y1 y2 y3 y4 y5 y6
   go_wp2_with fail
   refine HB.o.mono ?_
   rintro x w5 ⟨rfl,k5⟩
   have K5:Hid (Kept (fun _=>False) w w5):=jd (KZ.o.trans k5 (fun i hi h=>by have h':w.heap.size+1≤i:=h;omega))
   clear k5
   go_wp2_with fail
   go_ret
   exact⟨rfl,K5.o⟩
 ·obtain rfl:kk=2:=e
  have HTT:Hid (T=(if nb then[33,32] else[])++bP [32,124,32] L):=jd (by rw[HTT.o];simp[fS])
  obtain⟨J,hJ⟩:∃J,bP [32,124,32] L=J:=⟨_,rfl⟩
  have hlj:J.length≤100000000:=by rw[←hJ];have h1:=HTX9.o;have h2:=congrArg List.length HTT.o;rw[Jf] at h2;omega
  have HJ:=jd (i6 w1 _ vr L [32,124,32] HS.o (by have:=HLN.o;omega) (by rw[hJ];omega))
  rw[hJ] at HJ HTT
  have zj:(BA J).size≤100000000:=by rw[aq];exact hlj
  clear hJ hlj
  cases nb with
  |true=>
   have a1:(⟨#[33,32]⟩:ByteArray)++BA J=BA T:=by rw[HTT.o];exact az [33,32] J
   go_wp2_with fail
   refine HJ.o.mono ?_
   rintro x w2 ⟨rfl,k2⟩
   have K2:=jd (K1.o.trans k2 (fun _ _ h=>h))
   clear k2
   go_wp2_with fail
   go_ret
   exact⟨rfl,K2.o⟩
  |false=>
   have a1:(⟨#[]⟩:ByteArray)++BA J=BA T:=by rw[HTT.o];exact az [] J
   have e1:J=T:=by rw[HTT.o];rfl
   have HE1:=jd e1
   clear e1
   go_wp2_with fail
   refine HJ.o.mono ?_
   rintro x w2 ⟨rfl,k2⟩
   have K2:=jd (K1.o.trans k2 (fun _ _ h=>h))
   clear k2
   go_wp2_with fail
   go_ret
   exact⟨by first|rfl|rw[HE1.o]|(simp[HE1.o]),K2.o⟩
 ·obtain rfl:kk=3:=e
  have HTT:Hid (T=bP [32,38,38,32] L):=jd (by rw[HTT.o];simp[fS])
  have HJ:=jd (i6 w1 _ vr L [32,38,38,32] HS.o (by have:=HLN.o;omega) (by rw[←HTT.o];have:=HTX9.o;omega))
  rw[←HTT.o] at HJ
  go_wp2_with fail
  refine HJ.o.mono ?_
  rintro x w2 ⟨rfl,k2⟩
  have K2:=jd (K1.o.trans k2 (fun _ _ h=>h))
  clear k2
  go_wp2_with fail
  go_ret
  exact⟨rfl,K2.o⟩
 ·obtain rfl:kk=4:=e
  have HTT:Hid (T=bP [32,124,124,32] L):=jd (by rw[HTT.o];simp[fS])
  have HJ:=jd (i6 w1 _ vr L [32,124,124,32] HS.o (by have:=HLN.o;omega) (by rw[←HTT.o];have:=HTX9.o;omega))
  rw[←HTT.o] at HJ
  go_wp2_with fail
  refine HJ.o.mono ?_
  rintro x w2 ⟨rfl,k2⟩
  have K2:=jd (K1.o.trans k2 (fun _ _ h=>h))
  clear k2
  go_wp2_with fail
  go_ret
  exact⟨rfl,K2.o⟩
 ·obtain rfl:kk=5:=e
  have HTT:Hid (T=bP [59,32] L):=jd (by rw[HTT.o];simp[fS])
  have HJ:=jd (i6 w1 _ vr L [59,32] HS.o (by have:=HLN.o;omega) (by rw[←HTT.o];have:=HTX9.o;omega))
  rw[←HTT.o] at HJ
  go_wp2_with fail
  refine HJ.o.mono ?_
  rintro x w2 ⟨rfl,k2⟩
  have K2:=jd (K1.o.trans k2 (fun _ _ h=>h))
  clear k2
  go_wp2_with fail
  go_ret
  exact⟨rfl,K2.o⟩
 ·obtain rfl:kk=6:=e
  have HTT:Hid (T=aX [rIf++[32]++cv true L++rFi] rs):=jd (by rw[HTT.o];simp[fS])
  have HLB:Hid (([rIf++[32]++cv true L++rFi]:List LB).length≤200000):=jd (by simp)
  have hxl:(rIf++[32]++cv true L++rFi).length≤100000000:=by have h1:=gw (rIf++[32]++cv true L++rFi) rs;rw[←HTT.o] at h1;have:=HTX9.o;omega
  have HCH:=jd (fun wx (kx:Kept (fun _=>False) w wx)=>yL n HT wx _ _ (.mk 6 nb nm al ws rs ks) HSZ.o (HN0.o.kept kx (fun _ _ h=>h)) (HE.o.au kx) HTX.o (by rw[show(Nd.mk 6 nb nm al ws rs ks).kids.map aj=L from HLM.o];exact hxl))
  rw[show(Nd.mk 6 nb nm al ws rs ks).kids.map aj=L from HLM.o] at HCH
  obtain⟨X,hX⟩:∃X,rIf++[32]++cv true L++rFi=X:=⟨_,rfl⟩
  rw[hX] at HCH HTT HLB
  clear hX hxl
  go_wp2_with fail
  refine du 4 [stV (.agg #[.int .i64 6,.bool nb,.string (BA nm),.slice xa xan xac,.slice xw xwn xwc,.slice xr xrn xrc,.slice xk xkn xkc]),stV (.agg #[.int .i64 6,.bool nb,.string (BA nm),.slice xa xan xac,.slice xw xwn xwc,.slice xr xrn xrc,.slice xk xkn xkc]),stV (.string (BA X)),oB (w.heap.size+1) [X]] (by kernel_rfl) (by kernel_rfl) ?_ ?_
  ·iterate 2
    refine ai (fun a' w' hI hag hf K hK=>?_) ?_
    ·have s1:=hag.same 1 (by decide)
     clear hag
     have hh:NBx w' w.heap.size _:=hI.heap P1.o (fun h=>h)
     obtain⟨⟨r0,r1,r2,r3,r4,r5,r6⟩,-⟩:=NBx.cells hh
     clear hh
     go_wp2_with fail
     exact hK _ _ hI (Ja _ _) rfl
   refine ai (fun a' w' hI hag hf K hK=>?_) ?_
   ·obtain⟨⟨_,h1,rfl⟩,-⟩:ah _ _ a' w' [1]:=hf
    clear hag
    go_wp2_with fail
    refine(HCH.o _ (K1.o.trans hI (fun _ _ h=>h))).mono ?_
    rintro e wn ⟨rfl,hkn⟩
    go_wp2_with fail
    exact hK _ _ (hI.trans hkn (fun _ _ h=>h)) hkn rfl
   refine ai (fun a' w' hI hag hf K hK=>?_) ?_
   ·obtain⟨⟨_,h2,rfl⟩,-⟩:ah _ _ a' w' [2]:=hf
    clear hag
    have h1s:=hI.size
    go_wp2_with fail
    exact hK _ _ (hI.alloc _) ((Ja _ _).alloc _) (Strs.lit _ _ _ (by omega))
   exact trivial
  ·intro vs wz hI hvs
   have q3:=hvs 3 _ _ rfl rfl
   simp only[pzz,aW,Act.put,Nat.reduceAdd,spv (hvs 0 _ _ rfl rfl) rfl,spv (hvs 1 _ _ rfl rfl) rfl,spv (hvs 2 _ _ rfl rfl) rfl]
   clear hvs
   generalize vs 3=x3 at*
   have KZ:Hid (Kept (fun _=>False) w wz):=jd (K1.o.trans hI (fun _ _ h=>h))
   have HB:=jd (gb wz (fun b=>b<w.heap.size) _ (.mk 6 nb nm al ws rs ks) (w.heap.size+1) _ [X] (HN0.o.kept KZ.o (fun _ _ h=>h)) q3 (by have h1:=hI.size;omega) (fun b hb=>Nat.lt_succ_of_lt hb) (Nat.lt_succ_of_lt hsgl) (HE.o.au KZ.o) HOK.o HRS.o HLB.o (by show(aX _ rs).length≤_;rw[←HTT.o];exact HTX9.o))
   have HB2:Hid (aX [X] rs=T):=jd HTT.o.symm
   simp only[Nd.rs] at HB
   rw[HB2.o] at HB
   clear hI q3 y0 y1 y2 y3 y4 y5 y6
   go_wp2_with fail
   refine HB.o.mono ?_
   rintro x w5 ⟨rfl,k5⟩
   have K5:Hid (Kept (fun _=>False) w w5):=jd (KZ.o.trans k5 (fun i hi h=>by have h':w.heap.size+1≤i:=h;omega))
   clear k5
   go_wp2_with fail
   go_ret
   exact⟨rfl,K5.o⟩
 ·obtain rfl:kk=7:=e
  have HTT:Hid (T=aX [dX++[32]++k0 L++[59,32]++rDo++[32]++k1 L++[59,32]++bp] rs):=jd (by rw[HTT.o];simp[fS])
  have hl2:L.length=2:=by
   have h:=HSH.o
   simp only[aV] at h
   simp[fL] at h
   rw[←HLM.o,List.length_map];exact h.1.2
  obtain⟨c,b,rfl⟩:∃c b,L=[c,b]:=by match L,hl2 with|[c,b],_=>exact⟨c,b,rfl⟩
  have HTT1:Hid (T=aX [dX++[32]++c++[59,32]++rDo++[32]++b++[59,32]++bp] rs):=jd HTT.o
  obtain⟨X1,hX1⟩:∃X1,dX++[32]++c=X1:=⟨_,rfl⟩
  obtain⟨X2,hX2⟩:∃X2,X1++[59,32,100,111,32]=X2:=⟨_,rfl⟩
  obtain⟨X3,hX3⟩:∃X3,X2++b=X3:=⟨_,rfl⟩
  obtain⟨X,hX⟩:∃X,X3++[59,32,100,111,110,101]=X:=⟨_,rfl⟩
  have hXX:dX++[32]++c++[59,32]++rDo++[32]++b++[59,32]++bp=X:=by
   rw[←hX,←hX3,←hX2,←hX1];simp[rDo,bp,Jj]
  have a1:(⟨#[119,104,105,108,101,32]⟩:ByteArray)++BA c=BA X1:=by rw[←hX1];exact az [119,104,105,108,101,32] c
  have a2:BA X1++(⟨#[59,32,100,111,32]⟩:ByteArray)=BA X2:=by rw[←hX2];exact az X1 [59,32,100,111,32]
  have a3:BA X2++BA b=BA X3:=by rw[←hX3];exact az X2 b
  have a4:BA X3++(⟨#[59,32,100,111,110,101]⟩:ByteArray)=BA X:=by rw[←hX];exact az X3 [59,32,100,111,110,101]
  rw[hXX] at HTT1
  have hxl:X.length≤100000000:=by have h1:=gw X rs;rw[←HTT1.o] at h1;have:=HTX9.o;omega
  have l4:X.length=X3.length+6:=by rw[←hX,Jf];rfl
  have l3:X3.length=X2.length+b.length:=by rw[←hX3,Jf]
  have l2:X2.length=X1.length+5:=by rw[←hX2,Jf];rfl
  have l1:X1.length=6+c.length:=by rw[←hX1,Jf];rfl
  have zc:(BA c).size≤100000000:=by rw[aq];omega
  have zb:(BA b).size≤100000000:=by rw[aq];omega
  have z1:(BA X1).size≤100000000:=by rw[aq];omega
  have z2:(BA X2).size≤100000000:=by rw[aq];omega
  have z3:(BA X3).size≤100000000:=by rw[aq];omega
  have hown:=HS.o.own
  obtain⟨ra,rcp,rfl,hrc,_,hsm⟩:=bY hown
  obtain⟨bk,rfl⟩:=hsm (by simp)
  obtain⟨_,e0,q0,hbk⟩:=HS.o.cell (j:=0) (x:=c) rfl
  cases e0
  obtain⟨_,e1,q1,_⟩:=HS.o.cell (j:=1) (x:=b) rfl
  cases e1
  have q0:=jd q0;have q1:=jd q1
  have HLB:Hid (([X]:List LB).length≤200000):=jd (by simp)
  have HTT:=HTT1
  clear hX1 hX2 hX3 hX hXX l1 l2 l3 l4 hxl hl2 hown hsm HTT1
  simp only[Jg,Jn,Nat.zero_add,Nat.reduceAdd]
  go_wp2_with fail
  refine bG 12 [stV (.agg #[.int .i64 7,.bool nb,.string (BA nm),.slice xa xan xac,.slice xw xwn xwc,.slice xr xrn xrc,.slice xk xkn xkc]),stV (.slice (some ⟨bk,0,none⟩) 2 rcp),stV (.pointer (some ⟨bk,0,none⟩)),stV (.string (BA c)),stV (.string (BA X1)),stV (.string (BA X2)),stV (.slice (some ⟨bk,0,none⟩) 2 rcp),stV (.pointer (some ⟨bk,1,none⟩)),stV (.string (BA b)),stV (.string (BA X3)),stV (.string (BA X)),oB (w.heap.size+1) [X]] (by kernel_rfl) (by kernel_rfl) ?_ ?_
  ·iterate 11
    refine ai (fun a' w' hI hag hf K hK=>?_) ?_
    ·obtain⟨⟨_,h0,rfl⟩,⟨_,h1,rfl⟩,-⟩:=hf
     have s1:=hag.same 1 (by decide)
     have s3:=hag.same 3 (by decide)
     clear hag
     have hh:NBx w' w.heap.size _:=hI.heap P1.o (fun h=>h)
     obtain⟨⟨r0,r1,r2,r3,r4,r5,r6⟩,-⟩:=NBx.cells hh
     clear hh
     have u0:=hI.cell q0.out (fun h=>h)
     have u1:=hI.cell q1.out (fun h=>h)
     go_wp2_with fail
     exact hK _ _ hI (Ja _ _) rfl
   refine ai (fun a' w' hI hag hf K hK=>?_) ?_
   ·obtain⟨⟨_,h10,rfl⟩,-⟩:ah _ _ a' w' [10]:=hf
    clear hag
    have h1s:=hI.size
    go_wp2_with fail
    exact hK _ _ (hI.alloc _) ((Ja _ _).alloc _) (Strs.lit _ _ _ (by omega))
   exact trivial
  ·intro vs wz hI hvs
   have q11:=hvs 11 _ _ rfl rfl
   simp only[pzz,aW,Act.put,Nat.reduceAdd,spv (hvs 0 _ _ rfl rfl) rfl,spv (hvs 1 _ _ rfl rfl) rfl,spv (hvs 2 _ _ rfl rfl) rfl,spv (hvs 3 _ _ rfl rfl) rfl,spv (hvs 4 _ _ rfl rfl) rfl,spv (hvs 5 _ _ rfl rfl) rfl,spv (hvs 6 _ _ rfl rfl) rfl,spv (hvs 7 _ _ rfl rfl) rfl,spv (hvs 8 _ _ rfl rfl) rfl,spv (hvs 9 _ _ rfl rfl) rfl,spv (hvs 10 _ _ rfl rfl) rfl]
   clear hvs
   generalize vs 11=x11 at*
   have KZ:Hid (Kept (fun _=>False) w wz):=jd (K1.o.trans hI (fun _ _ h=>h))
   have HB:=jd (gb wz (fun b=>b<w.heap.size) _ (.mk 7 nb nm al ws rs ks) (w.heap.size+1) _ [X] (HN0.o.kept KZ.o (fun _ _ h=>h)) q11 (by have h1:=hI.size;omega) (fun b hb=>Nat.lt_succ_of_lt hb) (Nat.lt_succ_of_lt hsgl) (HE.o.au KZ.o) HOK.o HRS.o HLB.o (by show(aX _ rs).length≤_;rw[←HTT.o];exact HTX9.o))
   have HB2:Hid (aX [X] rs=T):=jd HTT.o.symm
   simp only[Nd.rs] at HB
   rw[HB2.o] at HB
   clear hI q11 y0 y1 y2 y3 y4 y5 y6
   go_wp2_with fail
   refine HB.o.mono ?_
   rintro x w5 ⟨rfl,k5⟩
   have K5:Hid (Kept (fun _=>False) w w5):=jd (KZ.o.trans k5 (fun i hi h=>by have h':w.heap.size+1≤i:=h;omega))
   clear k5
   go_wp2_with fail
   go_ret
   exact⟨rfl,K5.o⟩
 ·obtain rfl:kk=8:=e
  have HTT:Hid (T=aX [cZ++[32]++k0 L++[59,32]++rDo++[32]++k1 L++[59,32]++bp] rs):=jd (by rw[HTT.o];simp[fS])
  have hl2:L.length=2:=by
   have h:=HSH.o
   simp only[aV] at h
   simp[fL] at h
   rw[←HLM.o,List.length_map];exact h.1.2
  obtain⟨c,b,rfl⟩:∃c b,L=[c,b]:=by match L,hl2 with|[c,b],_=>exact⟨c,b,rfl⟩
  have HTT1:Hid (T=aX [cZ++[32]++c++[59,32]++rDo++[32]++b++[59,32]++bp] rs):=jd HTT.o
  obtain⟨X1,hX1⟩:∃X1,cZ++[32]++c=X1:=⟨_,rfl⟩
  obtain⟨X2,hX2⟩:∃X2,X1++[59,32,100,111,32]=X2:=⟨_,rfl⟩
  obtain⟨X3,hX3⟩:∃X3,X2++b=X3:=⟨_,rfl⟩
  obtain⟨X,hX⟩:∃X,X3++[59,32,100,111,110,101]=X:=⟨_,rfl⟩
  have hXX:cZ++[32]++c++[59,32]++rDo++[32]++b++[59,32]++bp=X:=by
   rw[←hX,←hX3,←hX2,←hX1];simp[rDo,bp,Jj]
  have a1:(⟨#[117,110,116,105,108,32]⟩:ByteArray)++BA c=BA X1:=by rw[←hX1];exact az [117,110,116,105,108,32] c
  have a2:BA X1++(⟨#[59,32,100,111,32]⟩:ByteArray)=BA X2:=by rw[←hX2];exact az X1 [59,32,100,111,32]
  have a3:BA X2++BA b=BA X3:=by rw[←hX3];exact az X2 b
  have a4:BA X3++(⟨#[59,32,100,111,110,101]⟩:ByteArray)=BA X:=by rw[←hX];exact az X3 [59,32,100,111,110,101]
  rw[hXX] at HTT1
  have hxl:X.length≤100000000:=by have h1:=gw X rs;rw[←HTT1.o] at h1;have:=HTX9.o;omega
  have l4:X.length=X3.length+6:=by rw[←hX,Jf];rfl
  have l3:X3.length=X2.length+b.length:=by rw[←hX3,Jf]
  have l2:X2.length=X1.length+5:=by rw[←hX2,Jf];rfl
  have l1:X1.length=6+c.length:=by rw[←hX1,Jf];rfl
  have zc:(BA c).size≤100000000:=by rw[aq];omega
  have zb:(BA b).size≤100000000:=by rw[aq];omega
  have z1:(BA X1).size≤100000000:=by rw[aq];omega
  have z2:(BA X2).size≤100000000:=by rw[aq];omega
  have z3:(BA X3).size≤100000000:=by rw[aq];omega
  have hown:=HS.o.own
  obtain⟨ra,rcp,rfl,hrc,_,hsm⟩:=bY hown
  obtain⟨bk,rfl⟩:=hsm (by simp)
  obtain⟨_,e0,q0,hbk⟩:=HS.o.cell (j:=0) (x:=c) rfl
  cases e0
  obtain⟨_,e1,q1,_⟩:=HS.o.cell (j:=1) (x:=b) rfl
  cases e1
  have q0:=jd q0;have q1:=jd q1
  have HLB:Hid (([X]:List LB).length≤200000):=jd (by simp)
  have HTT:=HTT1
  clear hX1 hX2 hX3 hX hXX l1 l2 l3 l4 hxl hl2 hown hsm HTT1
  simp only[Jg,Jn,Nat.zero_add,Nat.reduceAdd]
  go_wp2_with fail
  refine bG 12 [stV (.agg #[.int .i64 8,.bool nb,.string (BA nm),.slice xa xan xac,.slice xw xwn xwc,.slice xr xrn xrc,.slice xk xkn xkc]),stV (.slice (some ⟨bk,0,none⟩) 2 rcp),stV (.pointer (some ⟨bk,0,none⟩)),stV (.string (BA c)),stV (.string (BA X1)),stV (.string (BA X2)),stV (.slice (some ⟨bk,0,none⟩) 2 rcp),stV (.pointer (some ⟨bk,1,none⟩)),stV (.string (BA b)),stV (.string (BA X3)),stV (.string (BA X)),oB (w.heap.size+1) [X]] (by kernel_rfl) (by kernel_rfl) ?_ ?_
  ·iterate 11
    refine ai (fun a' w' hI hag hf K hK=>?_) ?_
    ·obtain⟨⟨_,h0,rfl⟩,⟨_,h1,rfl⟩,-⟩:=hf
     have s1:=hag.same 1 (by decide)
     have s3:=hag.same 3 (by decide)
     clear hag
     have hh:NBx w' w.heap.size _:=hI.heap P1.o (fun h=>h)
     obtain⟨⟨r0,r1,r2,r3,r4,r5,r6⟩,-⟩:=NBx.cells hh
     clear hh
     have u0:=hI.cell q0.out (fun h=>h)
     have u1:=hI.cell q1.out (fun h=>h)
     go_wp2_with fail
     exact hK _ _ hI (Ja _ _) rfl
   refine ai (fun a' w' hI hag hf K hK=>?_) ?_
   ·obtain⟨⟨_,h10,rfl⟩,-⟩:ah _ _ a' w' [10]:=hf
    clear hag
    have h1s:=hI.size
    go_wp2_with fail
    exact hK _ _ (hI.alloc _) ((Ja _ _).alloc _) (Strs.lit _ _ _ (by omega))
   exact trivial
  ·intro vs wz hI hvs
   have q11:=hvs 11 _ _ rfl rfl
   simp only[pzz,aW,Act.put,Nat.reduceAdd,spv (hvs 0 _ _ rfl rfl) rfl,spv (hvs 1 _ _ rfl rfl) rfl,spv (hvs 2 _ _ rfl rfl) rfl,spv (hvs 3 _ _ rfl rfl) rfl,spv (hvs 4 _ _ rfl rfl) rfl,spv (hvs 5 _ _ rfl rfl) rfl,spv (hvs 6 _ _ rfl rfl) rfl,spv (hvs 7 _ _ rfl rfl) rfl,spv (hvs 8 _ _ rfl rfl) rfl,spv (hvs 9 _ _ rfl rfl) rfl,spv (hvs 10 _ _ rfl rfl) rfl]
   clear hvs
   generalize vs 11=x11 at*
   have KZ:Hid (Kept (fun _=>False) w wz):=jd (K1.o.trans hI (fun _ _ h=>h))
   have HB:=jd (gb wz (fun b=>b<w.heap.size) _ (.mk 8 nb nm al ws rs ks) (w.heap.size+1) _ [X] (HN0.o.kept KZ.o (fun _ _ h=>h)) q11 (by have h1:=hI.size;omega) (fun b hb=>Nat.lt_succ_of_lt hb) (Nat.lt_succ_of_lt hsgl) (HE.o.au KZ.o) HOK.o HRS.o HLB.o (by show(aX _ rs).length≤_;rw[←HTT.o];exact HTX9.o))
   have HB2:Hid (aX [X] rs=T):=jd HTT.o.symm
   simp only[Nd.rs] at HB
   rw[HB2.o] at HB
   clear hI q11 y0 y1 y2 y3 y4 y5 y6
   go_wp2_with fail
   refine HB.o.mono ?_
   rintro x w5 ⟨rfl,k5⟩
   have K5:Hid (Kept (fun _=>False) w w5):=jd (KZ.o.trans k5 (fun i hi h=>by have h':w.heap.size+1≤i:=h;omega))
   clear k5
   go_wp2_with fail
   go_ret
   exact⟨rfl,K5.o⟩
 ·obtain rfl:kk=9:=e
  have HTT:Hid (T=aX [bP [32] ((fw++[32]++nm++[32]++rIn)::bI al ws)++[59,32]++rDo++[32]++k0 L++[59,32]++bp] rs):=jd (by rw[HTT.o];simp[fS])
  have hl2:L.length=1:=by
   have h:=HSH.o
   simp only[aV] at h
   simp[ef] at h
   rw[←HLM.o,List.length_map];simp_all
  obtain⟨c,rfl⟩:∃c,L=[c]:=by match L,hl2 with|[c],_=>exact⟨c,rfl⟩
  have hwl:(bI al ws).length≤200000:=by
   unfold bI
   have h1:=HOK.o.la;have h2:=HOK.o.lw
   simp only[Nd.al,Nd.ws] at h1 h2
   rw[Jf,List.length_map,List.length_map];omega
  have HWL:=jd hwl
  have HTT1:Hid (T=aX [bP [32] ((fw++[32]++nm++[32]++rIn)::bI al ws)++[59,32]++rDo++[32]++c++[59,32]++bp] rs):=jd HTT.o
  obtain⟨X1,hX1⟩:∃X1,[102,111,114,32]++nm=X1:=⟨_,rfl⟩
  obtain⟨X2,hX2⟩:∃X2,X1++[32,105,110]=X2:=⟨_,rfl⟩
  obtain⟨J,hJ⟩:∃J,bP [32] (X2::bI al ws)=J:=⟨_,rfl⟩
  obtain⟨J1,hJ1⟩:∃J1,J++[59,32,100,111,32]=J1:=⟨_,rfl⟩
  obtain⟨J2,hJ2⟩:∃J2,J1++c=J2:=⟨_,rfl⟩
  obtain⟨X,hX⟩:∃X,J2++[59,32,100,111,110,101]=X:=⟨_,rfl⟩
  have hX2':fw++[32]++nm++[32]++rIn=X2:=by rw[←hX2,←hX1];simp[fw,rIn,Jj]
  have hXX:bP [32] ((fw++[32]++nm++[32]++rIn)::bI al ws)++[59,32]++rDo++[32]++c++[59,32]++bp=X:=by
   rw[hX2',hJ,←hX,←hJ2,←hJ1];simp[rDo,bp,Jj]
  have a1:(⟨#[102,111,114,32]⟩:ByteArray)++BA nm=BA X1:=by rw[←hX1];exact az [102,111,114,32] nm
  have a2:BA X1++(⟨#[32,105,110]⟩:ByteArray)=BA X2:=by rw[←hX2];exact az X1 [32,105,110]
  have a3:BA J++(⟨#[59,32,100,111,32]⟩:ByteArray)=BA J1:=by rw[←hJ1];exact az J [59,32,100,111,32]
  have a4:BA J1++BA c=BA J2:=by rw[←hJ2];exact az J1 c
  have a5:BA J2++(⟨#[59,32,100,111,110,101]⟩:ByteArray)=BA X:=by rw[←hX];exact az J2 [59,32,100,111,110,101]
  rw[hXX] at HTT1
  have hxl:X.length≤100000000:=by have h1:=gw X rs;rw[←HTT1.o] at h1;have:=HTX9.o;omega
  have l5:X.length=J2.length+6:=by rw[←hX,Jf];rfl
  have l4:J2.length=J1.length+c.length:=by rw[←hJ2,Jf]
  have l3:J1.length=J.length+5:=by rw[←hJ1,Jf];rfl
  have l2:X2.length≤J.length:=by rw[←hJ];exact ga Jz
  have l1:X2.length=X1.length+3:=by rw[←hX2,Jf];rfl
  have l0:X1.length=4+nm.length:=by rw[←hX1,Jf];rfl
  have z0:(BA nm).size≤100000000:=by rw[aq];omega
  have z1:(BA X1).size≤100000000:=by rw[aq];omega
  have z2:(BA X2).size≤100000000:=by rw[aq];omega
  have z3:(BA J).size≤100000000:=by rw[aq];omega
  have z4:(BA J1).size≤100000000:=by rw[aq];omega
  have z5:(BA J2).size≤100000000:=by rw[aq];omega
  have z6:(BA c).size≤100000000:=by rw[aq];omega
  have HJL:Hid (J.length≤100000000):=jd (by omega)
  have HJ:=jd hJ
  have hown:=HS.o.own
  obtain⟨ra,rcp,rfl,hrc,_,hsm⟩:=bY hown
  obtain⟨bk,rfl⟩:=hsm (by simp)
  obtain⟨_,e0,q0,hbk⟩:=HS.o.cell (j:=0) (x:=c) rfl
  cases e0
  have q0:=jd q0
  have HLB:Hid (([X]:List LB).length≤200000):=jd (by simp)
  have HTT:=HTT1
  clear hX1 hX2 hX hJ hJ1 hJ2 hX2' hXX l0 l1 l2 l3 l4 l5 hxl hl2 hown hsm HTT1 hwl
  simp only[Jg,Jn,Nat.zero_add,Nat.reduceAdd]
  go_wp2_with fail
  refine bG 17 [stV (.agg #[.int .i64 9,.bool nb,.string (BA nm),.slice xa xan xac,.slice xw xwn xwc,.slice xr xrn xrc,.slice xk xkn xkc]),stV (.pointer (some ⟨w.heap.size,2,none⟩)),stV (.string (BA nm)),stV (.string (BA X1)),stV (.string (BA X2)),F4 (w.heap.size+1) X2,stV (.agg #[.int .i64 9,.bool nb,.string (BA nm),.slice xa xan xac,.slice xw xwn xwc,.slice xr xrn xrc,.slice xk xkn xkc]),oB (w.heap.size+1) (bI al ws),oB (w.heap.size+1) (X2::bI al ws),stV (.string (BA J)),stV (.string (BA J1)),stV (.slice (some ⟨bk,0,none⟩) 1 rcp),stV (.pointer (some ⟨bk,0,none⟩)),stV (.string (BA c)),stV (.string (BA J2)),stV (.string (BA X)),oB (w.heap.size+1) [X]] (by kernel_rfl) (by kernel_rfl) ?_ ?_
  ·iterate 5
    refine ai (fun a' w' hI hag hf K hK=>?_) ?_
    ·obtain⟨⟨_,h0,rfl⟩,-⟩:=hf
     have s1:=hag.same 1 (by decide)
     clear hag
     have hh:NBx w' w.heap.size _:=hI.heap P1.o (fun h=>h)
     obtain⟨⟨r0,r1,r2,r3,r4,r5,r6⟩,-⟩:=NBx.cells hh
     clear hh
     go_wp2_with fail
     exact hK _ _ hI (Ja _ _) rfl
   refine ai (fun a' w' hI hag hf K hK=>?_) ?_
   ·obtain⟨⟨_,h4,rfl⟩,-⟩:ah _ _ a' w' [4]:=hf
    clear hag
    have h1s:=hI.size
    go_wp2_with fail
    exact hK _ _ (hI.alloc _) ((Ja _ _).alloc _) ⟨_,rfl,by omega,heap_alloc _ _⟩
   refine ai (fun a' w' hI hag hf K hK=>?_) ?_
   ·have s1:=hag.same 1 (by decide)
    clear hag
    have hh:NBx w' w.heap.size _:=hI.heap P1.o (fun h=>h)
    obtain⟨⟨r0,r1,r2,r3,r4,r5,r6⟩,-⟩:=NBx.cells hh
    clear hh
    go_wp2_with fail
    exact hK _ _ hI (Ja _ _) rfl
   refine ai (fun a' w' hI hag hf K hK=>?_) ?_
   ·obtain⟨⟨_,h6,rfl⟩,-⟩:ah _ _ a' w' [6]:=hf
    clear hag
    go_wp2_with fail
    refine(sF _ _ _ (.mk 9 nb nm al ws rs ks) (HN0.o.kept (K1.o.trans hI (fun _ _ h=>h)) (fun _ _ h=>h)) HOK.o).mono ?_
    rintro e wn ⟨vq,rfl,hq,hkn⟩
    go_wp2_with fail
    exact hK _ _ (hI.trans hkn (fun _ _ h=>h)) hkn (hq.mono (by have h1:=hI.size;omega))
   refine ai (fun a' w' hI hag hf K hK=>?_) ?_
   ·obtain⟨⟨v5,h5,e5⟩,⟨v7,h7,e7⟩,-⟩:ah _ _ a' w' [5,7]:=hf
    clear hag
    obtain⟨xb,rfl,hxb,hxh⟩:∃b,v5= .slice (some ⟨b,0,none⟩) 1 1∧w.heap.size+1≤b∧w'.heap[b]? =some (.cells #[.string (BA X2)] 9 (0,0)):=e5
    have hw7:Strs w' (w.heap.size+1) v7 (bI al ws):=e7
    have hlt5:=av hxh
    have hwl:=HWL.o
    refine o9 rfl _ _ _ rfl ETx xb 1 [.string (BA X2)] (by simp[Act.eval,h5]) (D5 hxh) v7 _ _ (by simp[Act.eval,h7]) (Rd.own hw7.own) (FV _) (by unfold maxLen;omega) (by omega) (fun ad9 cap9 w9 ho9 hk9 hf9=>?_)
    refine hK _ _ (hI.trans hk9 (fun _ _ h=>h)) hk9 (show Strs w9 (w.heap.size+1) _ (X2::bI al ws) from⟨by have e1:1+(bI al ws).length=(X2::bI al ws).length:=Nat.add_comm _ _;rw[e1] at ho9⊢;exact ho9,fun b hb=>?_⟩)
    rcases hf9 b hb with h|h
    ·have:=gI h;dsimp only at this;omega
    ·have:=hI.size;omega
   refine ai (fun a' w' hI hag hf K hK=>?_) ?_
   ·obtain⟨⟨v8,h8,e8⟩,-⟩:ah _ _ a' w' [8]:=hf
    clear hag
    have hw8:Strs w' (w.heap.size+1) v8 (X2::bI al ws):=e8
    have hwl:=HWL.o
    have hjl:=HJL.o
    clear e8
    go_wp2_with fail
    refine(i6 _ _ _ _ [32] hw8 (by rw[Jg];omega) (by rw[HJ.o];omega)).mono ?_
    rw[HJ.o]
    rintro e wn ⟨rfl,hkn⟩
    go_wp2_with fail
    exact hK _ _ (hI.trans hkn (fun _ _ h=>h)) hkn rfl
   iterate 6
    refine ai (fun a' w' hI hag hf K hK=>?_) ?_
    ·obtain⟨⟨_,h0,rfl⟩,⟨_,h1,rfl⟩,-⟩:=hf
     have s3:=hag.same 3 (by decide)
     clear hag
     have u0:=hI.cell q0.out (fun h=>h)
     go_wp2_with fail
     exact hK _ _ hI (Ja _ _) rfl
   refine ai (fun a' w' hI hag hf K hK=>?_) ?_
   ·obtain⟨⟨_,h15,rfl⟩,-⟩:ah _ _ a' w' [15]:=hf
    clear hag
    have h1s:=hI.size
    go_wp2_with fail
    exact hK _ _ (hI.alloc _) ((Ja _ _).alloc _) (Strs.lit _ _ _ (by omega))
   exact trivial
  ·intro vs wz hI hvs
   have q5:=hvs 5 _ _ rfl rfl
   have q7:=hvs 7 _ _ rfl rfl
   have q8:=hvs 8 _ _ rfl rfl
   have q16:=hvs 16 _ _ rfl rfl
   simp only[pzz,aW,Act.put,Nat.reduceAdd,spv (hvs 0 _ _ rfl rfl) rfl,spv (hvs 1 _ _ rfl rfl) rfl,spv (hvs 2 _ _ rfl rfl) rfl,spv (hvs 3 _ _ rfl rfl) rfl,spv (hvs 4 _ _ rfl rfl) rfl,spv (hvs 6 _ _ rfl rfl) rfl,spv (hvs 9 _ _ rfl rfl) rfl,spv (hvs 10 _ _ rfl rfl) rfl,spv (hvs 11 _ _ rfl rfl) rfl,spv (hvs 12 _ _ rfl rfl) rfl,spv (hvs 13 _ _ rfl rfl) rfl,spv (hvs 14 _ _ rfl rfl) rfl,spv (hvs 15 _ _ rfl rfl) rfl]
   clear hvs
   generalize vs 5=x5 at*
   generalize vs 7=x7 at*
   generalize vs 8=x8 at*
   generalize vs 16=x16 at*
   have KZ:Hid (Kept (fun _=>False) w wz):=jd (K1.o.trans hI (fun _ _ h=>h))
   have HB:=jd (gb wz (fun b=>b<w.heap.size) _ (.mk 9 nb nm al ws rs ks) (w.heap.size+1) _ [X] (HN0.o.kept KZ.o (fun _ _ h=>h)) q16 (by have h1:=hI.size;omega) (fun b hb=>Nat.lt_succ_of_lt hb) (Nat.lt_succ_of_lt hsgl) (HE.o.au KZ.o) HOK.o HRS.o HLB.o (by show(aX _ rs).length≤_;rw[←HTT.o];exact HTX9.o))
   have HB2:Hid (aX [X] rs=T):=jd HTT.o.symm
   simp only[Nd.rs] at HB
   rw[HB2.o] at HB
   clear hI q16 q5 q7 q8 y0 y1 y2 y3 y4 y5 y6
   go_wp2_with fail
   refine HB.o.mono ?_
   rintro x w5 ⟨rfl,k5⟩
   have K5:Hid (Kept (fun _=>False) w w5):=jd (KZ.o.trans k5 (fun i hi h=>by have h':w.heap.size+1≤i:=h;omega))
   clear k5
   go_wp2_with fail
   go_ret
   exact⟨rfl,K5.o⟩
 ·obtain rfl:kk=10:=e
  have HTT:Hid (T=aX [[123,32]++k0 L++[59,32,125]] rs):=jd (by rw[HTT.o];simp[fS])
  have hl2:L.length=1:=by
   have h:=HSH.o
   simp only[aV] at h
   simp[eJ] at h
   rw[←HLM.o,List.length_map];exact h.1.2
  obtain⟨c,rfl⟩:∃c,L=[c]:=by match L,hl2 with|[c],_=>exact⟨c,rfl⟩
  have HTT1:Hid (T=aX [[123,32]++c++[59,32,125]] rs):=jd HTT.o
  obtain⟨X1,hX1⟩:∃X1,[123,32]++c=X1:=⟨_,rfl⟩
  obtain⟨X,hX⟩:∃X,X1++[59,32,125]=X:=⟨_,rfl⟩
  have a1:(⟨#[123,32]⟩:ByteArray)++BA c=BA X1:=by rw[←hX1];exact az [123,32] c
  have a2:BA X1++(⟨#[59,32,125]⟩:ByteArray)=BA X:=by rw[←hX];exact az X1 [59,32,125]
  rw[hX1,hX] at HTT1
  have hxl:X.length≤100000000:=by have h1:=gw X rs;rw[←HTT1.o] at h1;have:=HTX9.o;omega
  have l2:X.length=X1.length+3:=by rw[←hX,Jf];rfl
  have l1:X1.length=2+c.length:=by rw[←hX1,Jf];rfl
  have zc:(BA c).size≤100000000:=by rw[aq];omega
  have z1:(BA X1).size≤100000000:=by rw[aq];omega
  have hown:=HS.o.own
  obtain⟨ra,rcp,rfl,hrc,_,hsm⟩:=bY hown
  obtain⟨bk,rfl⟩:=hsm (by simp)
  obtain⟨_,e0,q0,hbk⟩:=HS.o.cell (j:=0) (x:=c) rfl
  cases e0
  have q0:=jd q0
  have HLB:Hid (([X]:List LB).length≤200000):=jd (by simp)
  have HTT:=HTT1
  clear hX1 hX l1 l2 hxl hl2 hown hsm HTT1
  simp only[Jg,Jn,Nat.zero_add,Nat.reduceAdd]
  go_wp2_with fail
  refine du 7 [stV (.agg #[.int .i64 10,.bool nb,.string (BA nm),.slice xa xan xac,.slice xw xwn xwc,.slice xr xrn xrc,.slice xk xkn xkc]),stV (.slice (some ⟨bk,0,none⟩) 1 rcp),stV (.pointer (some ⟨bk,0,none⟩)),stV (.string (BA c)),stV (.string (BA X1)),stV (.string (BA X)),oB (w.heap.size+1) [X]] (by kernel_rfl) (by kernel_rfl) ?_ ?_
  ·iterate 6
    refine ai (fun a' w' hI hag hf K hK=>?_) ?_
    ·obtain⟨⟨_,h0,rfl⟩,-⟩:=hf
     have s1:=hag.same 1 (by decide)
     have s3:=hag.same 3 (by decide)
     clear hag
     have hh:NBx w' w.heap.size _:=hI.heap P1.o (fun h=>h)
     obtain⟨⟨r0,r1,r2,r3,r4,r5,r6⟩,-⟩:=NBx.cells hh
     clear hh
     have u0:=hI.cell q0.out (fun h=>h)
     go_wp2_with fail
     exact hK _ _ hI (Ja _ _) rfl
   refine ai (fun a' w' hI hag hf K hK=>?_) ?_
   ·obtain⟨⟨_,h5,rfl⟩,-⟩:ah _ _ a' w' [5]:=hf
    clear hag
    have h1s:=hI.size
    go_wp2_with fail
    exact hK _ _ (hI.alloc _) ((Ja _ _).alloc _) (Strs.lit _ _ _ (by omega))
   exact trivial
  ·intro vs wz hI hvs
   have q6:=hvs 6 _ _ rfl rfl
   simp only[pzz,aW,Act.put,Nat.reduceAdd,spv (hvs 0 _ _ rfl rfl) rfl,spv (hvs 1 _ _ rfl rfl) rfl,spv (hvs 2 _ _ rfl rfl) rfl,spv (hvs 3 _ _ rfl rfl) rfl,spv (hvs 4 _ _ rfl rfl) rfl,spv (hvs 5 _ _ rfl rfl) rfl]
   clear hvs
   generalize vs 6=x6 at*
   have KZ:Hid (Kept (fun _=>False) w wz):=jd (K1.o.trans hI (fun _ _ h=>h))
   have HB:=jd (gb wz (fun b=>b<w.heap.size) _ (.mk 10 nb nm al ws rs ks) (w.heap.size+1) _ [X] (HN0.o.kept KZ.o (fun _ _ h=>h)) q6 (by have h1:=hI.size;omega) (fun b hb=>Nat.lt_succ_of_lt hb) (Nat.lt_succ_of_lt hsgl) (HE.o.au KZ.o) HOK.o HRS.o HLB.o (by show(aX _ rs).length≤_;rw[←HTT.o];exact HTX9.o))
   have HB2:Hid (aX [X] rs=T):=jd HTT.o.symm
   simp only[Nd.rs] at HB
   rw[HB2.o] at HB
   clear hI q6 y0 y1 y2 y3 y4 y5 y6
   go_wp2_with fail
   refine HB.o.mono ?_
   rintro x w5 ⟨rfl,k5⟩
   have K5:Hid (Kept (fun _=>False) w w5):=jd (KZ.o.trans k5 (fun i hi h=>by have h':w.heap.size+1≤i:=h;omega))
   clear k5
   go_wp2_with fail
   go_ret
   exact⟨rfl,K5.o⟩
theorem tz:∀n,tP n
 |0=>fun w F v nd hsz=>by
  obtain⟨k,b,s,a,w,r,l⟩:=nd
  simp[szN] at hsz
 |n+1=>fun w F v nd hsz h hE ht=>by
  have HT:=jd (tz n)
  have hk:dq nd.kids≤n:=by
   obtain⟨k,b,s,a,w,r,l⟩:=nd
   simp only[szN] at hsz
   show szN.dq l≤n
   omega
  exact AW n HT w F v nd hk h hE ht
theorem tj (w:World) (F:Nat→Prop) (v:Value) (nd:Nd) (h:NAt w F v nd) (hE:bW w) (ht:TxN nd):
  Calls Tryz.prog 24 #[v] w fun x w'=>x= .returned (.string (BA (aj nd)))∧Kept (fun _=>False) w w':=
 tz (szN nd) w F v nd (Jb _) h hE ht
end Go.Proofs.YtgigdlhcjahejaaGreatDoor
namespace Go.Lw
open Go Go.RowKit
def ct (R:Nat→Prop) (W W':World):Prop:=W.heap.size≤W'.heap.size∧∀k,k<W.heap.size→R k→W'.heap[k]? =W.heap[k]?
theorem ct.refl (R:Nat→Prop) (W:World):ct R W W:=⟨Jb _,fun _ _ _=>rfl⟩
theorem ct.trans {R:Nat→Prop} {A B C:World} (h:ct R A B) (k:ct R B C):ct R A C:=
 ⟨lt9 h.1 k.1,fun i hi hr=>(k.2 i (Jv hi h.1) hr).trans (h.2 i hi hr)⟩
theorem ct.mono {R R':Nat→Prop} {A B:World} (h:ct R A B) (hr:∀k,R' k→R k):ct R' A B:=⟨h.1,fun i hi hk=>h.2 i hi (hr i hk)⟩
theorem Kept.keeps {S R:Nat→Prop} {A B:World} (h:Kept S A B) (hr:∀k,k<A.heap.size→R k→¬S k):ct R A B:=⟨h.size,fun k hk hR=>h.block k hk (hr k hk hR)⟩
theorem ct.heap {R:Nat→Prop} {A B:World} (h:ct R A B) {k:Nat} {o:Obj} (hk:A.heap[k]? =some o) (hr:R k):B.heap[k]? =some o:=
 (h.2 k (Array.getElem?_eq_some_iff.1 hk).1 hr).trans hk
theorem ct.cell {R:Nat→Prop} {A B:World} (h:ct R A B) {p:Addr} {v:Value} (hc:A.cell? p=some v) (hr:R p.block):B.cell? p=some v:=by
 rw[World.cell?_of_block (w:=A) (h.2 p.block (World.block_lt_of_cell? A p hc) hr)];exact hc
theorem gH {S:Nat→Prop} {A B:World} (h:Kept S A B) {l:Nat} (hl:l<A.heap.size→S l) (_:l<B.heap.size) (o:Obj):Kept S A (B.putObj l o):=
 h.grown (grownBy_putObj' B l o) (fun k e hk=>by cases e;exact hl hk)
def Ab {σ:Type} (J:(Nat→Prop)→σ→World→Prop):Prop:=
 ∀X X' s A A',J X s A→Kept X A A'→(∀k,X' k→X k∨(A.heap.size≤k∧k<A'.heap.size))→J X' s A'
abbrev YAt (P:Program) (l:Nat) (args:Array Value) (W:World) (R:Ending→World→Prop):Prop:=YieldAt Fence.wide 0 P l args W R
theorem CB {n m:Nat} {P:Program} {l:Nat} {f:FuncId} {tmps:Array Value} {assign body:Code} {w:World} {R:Ending→World→Prop}
  (h:RoundIn Fence.wide n P l f tmps assign body w R):RoundIn Fence.wide m P l f tmps assign body w R:=
 ⟨h.1,fun c cs _=>h.2 c cs (room_wide _)⟩
def Gg {α:Type} (R:Nat→Prop) (I:(Nat→Prop)→List α→World→Prop) (Ix:Code→(Nat→Prop)→List α→World→Prop) (X:Nat→Prop) (xs:List α) (W:World):Exit→Act→World→Prop
 |.normal,_,W'=>ct (fun k=>R k∨X k) W W'∧I X xs W'
 |.ret,_,W'=>ct (fun k=>R k∨X k) W W'∧Ix .ret X xs W'
 |.exit id,_,W'=>ct (fun k=>R k∨X k) W W'∧Ix (.exit id) X xs W'
 |.goto t,_,W'=>ct (fun k=>R k∨X k) W W'∧Ix (.goto t) X xs W'
 |.panic _,_,_=>False
 |.outgrown,_,_=>False
theorem iE {P:Program} {f:FuncId} {fn:Func} {c:Code} {args:Array Value} {w:World} {R:Ending→World→Prop} (hf:P.funcs[f]? =some fn) (hb:fn.body=some c)
  (h:c.wp P (bodyPostM Fence.wide 0 P fn R) {tmps:=args++Array.replicate (fn.ntmps -args.size) undef,defers:=[]} w):Calls P f args w R:=
 (callsIn_wide (n:=0)).1 (callsIn_of_wp_marks hf hb trivial ((wpIn_wide (n:=0)).2 h))
theorem eo {P:Program} {fn:Func} {tmps:Array Value} {R:Ending→World→Prop}:∀(rs:List Nat) (W:World),rs.Nodup→(∀r∈rs,W.heap[r]? =some (.deferred (some [])))→
  (∀W',Kept (fun k=>k∈rs) W W'→∃v,(results fn tmps).run P W'= .ok v W'∧R (.returned v) W')→
  LeavesInM Fence.wide 0 P fn tmps R (rs.map fun r=>{target:= .collected r,args:=#[]}) .returning W
 |[],W,_,_,h=>by
  obtain⟨v,h1,h2⟩:=h W (Ja _ _)
  exact⟨v,h1,h2⟩
 |r::rs,W,hn,hh,h=>by
  have hr:=hh r Jz
  have hlt:=(Array.getElem?_eq_some_iff.1 hr).1
  refine⟨by simp,.inl ⟨r,_,rfl,run_takeDeferred hr,?_⟩⟩
  have hn':=List.nodup_cons.1 hn
  refine eo rs _ hn'.2 (fun q hq=>(World.putObj_heap_other (fun e=>hn'.1 (by rw[←e];exact hq))).trans (hh q (Qa _ hq))) (fun W' hk=>h W' ?_)
  have h1:Kept (fun k=>k∈r::rs) W (W.putObj r (.deferred none)):=gH (Ja _ _) (fun _=>Jz) hlt _
  exact h1.trans hk (fun i _ hi=>Qa _ hi)
