/- Of the proof of ParseKnown: PkW, Open, LexLaid, WordLaid. -/
import Derived.Test.YtgigdlhcjahejaaGreatDoorC50
import Derived.Test.YtgigdlhcjahejaaGreatDoorC00
import Derived.ProofKit
import Derived.OpenShut
import Derived.Test.YtgigdlhcjahejaaGreatDoorRows
import Derived.Test.YtgigdlhcjahejaaGreatDoorTie
import Derived.Test.YtgigdlhcjahejaaGreatDoorC05
import Derived.Lib.LaidTab
import Derived.Shelf.Vars
import Derived.LaidMore
import Derived.Stop.Joined
import Derived.ShutString
import Derived.ChangeOld
import Derived.ChangeSame
import Derived.Test.YtgigdlhcjahejaaGreatDoorC09
namespace Go.Proofs.YtgigdlhcjahejaaGreatDoor
open Go Go.RowKit Go.Lw
set_option maxRecDepth 100000
set_option linter.unusedVariables false
set_option linter.unusedSimpArgs false
attribute [local go_sem] aq
set_option maxHeartbeats 32000000 in
theorem qB (w:World) (hE:bu w) (hS:jQ w):Calls Tryz.prog 6 #[] w fun e w'=>e= .returned (.bool true)∧Kept (fun _=>False) w w':=by
 have HE:=jd hE;have HSE:=jd hS
 clear hE hS
 have hmm:=@run_makeMap Tryz.prog
 have HM:=jd (SMap.made w w Tryz.prog 9 (Kept.refl _ w))
 go_enter Tryz.func6,Tryz.ntmps6
 go_wp2_with (first|(refine jk rfl _ _ _ _ rfl 9 9 Tryz.underlying9 Tryz.underlying55 _ _ _ rfl HM.o (by unfold maxLen;omega) (by unfold maxLen;simp) rfl ?_;clear HM;intro w9 hm9;have HM:=jd hm9;clear hm9)|(at_range;refine lz rfl _ _ rfl 9 9 Tryz.underlying9 Tryz.underlying55 _ _ _ rfl HM.o ?_;clear HM;intro w1 cnt1 hr1 hk1))
 obtain⟨r1,hr1e⟩:∃r1,w9.heap.size=r1:=⟨_,rfl⟩
 rw[hr1e] at hr1⊢
 have hr1':iM w w1 Tryz.prog 9 w.heap.size r1 28 (AJ pY) cnt1:=hr1
 have HR1:=jd hr1'
 clear hr1 hk1 hr1e hr1'
 go_frame
 go_loopg [] cnt1 (fun gk wx=>iM w wx Tryz.prog 9 w.heap.size r1 28 (AJ pY) gk)
 case atStart=>exact HR1.o
 case round=>
  have HR:=jd hrel
  clear hrel HR1
  have K0:=jd HR.o.kept
  have hpcs:(.agg #[.string ⟨#[59]⟩,.string ⟨#[97,59,59,98]⟩,.string ⟨#[38,38,32,97]⟩,.string ⟨#[97,32,38,38]⟩,.string ⟨#[97,32,124]⟩,.string ⟨#[124,32,97]⟩,.string ⟨#[97,32,38,32,98]⟩,.string ⟨#[105,102]⟩,.string ⟨#[105,102,32,97]⟩,.string ⟨#[105,102,32,97,59,32,116,104,101,110,32,102,105]⟩,.string ⟨#[105,102,32,97,59,32,116,104,101,110,32,98]⟩,.string ⟨#[105,102,32,97,32,116,104,101,110,32,98,59,32,102,105]⟩,.string ⟨#[116,104,101,110]⟩,.string ⟨#[102,105]⟩,.string ⟨#[97,59,32,102,105]⟩,.string ⟨#[119,104,105,108,101,32,97,59,32,100,111,32,100,111,110,101]⟩,.string ⟨#[119,104,105,108,101,32,97,59,32,98,59,32,100,111,110,101]⟩,.string ⟨#[102,111,114]⟩,.string ⟨#[102,111,114,32,49,32,105,110,32,97,59,32,100,111,32,98,59,32,100,111,110,101]⟩,.string ⟨#[102,111,114,32,105,59,32,100,111,32,98,59,32,100,111,110,101]⟩,.string ⟨#[102,111,114,32,105,32,105,110,32,97,32,100,111,32,98,59,32,100,111,110,101]⟩,.string ⟨#[102,111,114,32,105,32,105,110,32,97,59,32,98,59,32,100,111,110,101]⟩,.string ⟨#[123,32,97,32,125]⟩,.string ⟨#[123,32,125]⟩,.string ⟨#[125]⟩,.string ⟨#[33,32,33,32,97]⟩,.string ⟨#[33]⟩,.string ⟨#[97,32,60,32]⟩,.string ⟨#[60,32,62,32,97]⟩,.string ⟨#[60,102,32,105,102]⟩,.string ⟨#[105,102,32,97,59,32,116,104,101,110,32,98,59,32,102,105,32,99]⟩,.string ⟨#[123,32,97,59,32,125,32,98]⟩,.string ⟨#[97,32,124,124,32,124,124,32,98]⟩,.string ⟨#[97,59,32,38,38,32,98]⟩,.string ⟨#[102,111,114,32,105,32,105,110,32,97,59,32,100,111,32,98,59,32,100,111,110,101,32,100,111,110,101]⟩,.string ⟨#[100,111]⟩,.string ⟨#[101,108,105,102]⟩,.string ⟨#[36,123,120]⟩]:Value)= .agg pcs:=rfl
  have HPC:=jd hpcs
  clear hpcs
  go_wp2_with (at_next;refine mq rfl _ rfl 9 Tryz.underlying9 _ _ _ _ _ rfl HR.o ?_ ?_)
  case refine_2=>
   intro ks v w2 cnt2 hmem hr2 hlt2 hkk2 hen
   have HR2:=jd hr2
   obtain⟨c,hc,rfl⟩:=xM hmem.out
   obtain⟨hl1,hl2,n,hrd,htx,hmy⟩:=zX hc
   have HL:=jd hl1;have HRD:=jd hrd;have HTX:=jd htx;have HMY:=jd hmy
   clear hr2 hkk2 hmem hc hl1 hl2 HR hrd htx hmy HPC K0
   by_cases hcq:c=[97,61,98,61,99]
   ·have HCS:=jd hcq
    clear hcq
    have hcs:(c==[97,61,98,61,99])=true:=by rw[HCS.o];rfl
    go_wp2_with fail
    have hlc:(⟨#[97,61,98,61,99]⟩:ByteArray)=BA c:=by rw[HCS.o];rfl
    refine(fJ _ ks n HRD.o (HE.o.af HR2.o.kept) (HSE.o.kept HR2.o.kept (fun h=>h)) HL.o).mono ?_
    rintro e w3 ⟨aa,an,ac,wa,wn,wc,ra,rn,rc,ka,kn,kc,rfl,hn3,hsm3,k3⟩
    obtain⟨W3,hW3⟩:∃W,w3.alloc (.cells #[.int .i64 n.kind,.bool n.neg,.string (BA n.name),.slice aa an ac,.slice wa wn wc,.slice ra rn rc,.slice ka kn kc] 27)=W:=⟨_,rfl⟩
    obtain⟨b3,hb3⟩:∃b,w3.heap.size=b:=⟨_,rfl⟩
    have KW3:Hid (Kept (fun _=>False) w3 W3):=jd (by rw[←hW3];exact(Kept.refl _ w3).alloc _)
    have HR3:=jd ((HR2.o.mU k3).mU KW3.o)
    have HN3:Hid (NAt W3 (fun b=>w2.heap.size≤b∧b<b3) (.agg #[.int .i64 n.kind,.bool n.neg,.string (BA n.name),.slice aa an ac,.slice wa wn wc,.slice ra rn rc,.slice ka kn kc]) n):=jd ((hn3.mono (fun i h1 h2=>⟨h2,by rw[←hb3];exact h1⟩)).kept KW3.o (fun _ _ h=>h))
    have B3:Hid (NBx W3 b3 #[.int .i64 n.kind,.bool n.neg,.string (BA n.name),.slice aa an ac,.slice wa wn wc,.slice ra rn rc,.slice ka kn kc]):=jd (by rw[←hb3,←hW3];exact heap_alloc w3 _)
    have HSM:=jd hsm3;have HW3:=jd hW3;have HB3:=jd hb3
    have hbW3:b3<W3.heap.size:=ah B3.o
    have HX:=jd (lI W3 _ _ n HN3.o (fun b h=>Nat.lt_trans h.2 hbW3) HSM.o (HE.o.af HR3.o.kept) (HSE.o.kept HR3.o.kept (fun h=>h)))
    clear hn3 hsm3 k3 hW3 hb3 HR2
    go_wp2_with fail
    rw[HW3.o,HB3.o]
    refine HX.o.mono ?_
    rintro e w4 ⟨rfl,k4⟩
    rw[HTX.o]
    have HR4:=jd (HR3.o.mU k4)
    have HN4:=jd (HN3.o.kept k4 (fun _ _ h=>h))
    have B4:Hid (NBx w4 b3 _):=jd (k4.heap B3.o (fun h=>h))
    have hb4:b3<w4.heap.size:=ah B4.o
    have hbb:(BA c !=BA c)=false:=by rw[bne,a8];simp
    obtain⟨⟨y0,y1,y2,y3,y4,y5,y6⟩,-⟩:=NBx.cells B4.o
    have HY:=jd (kh w4 _ _ n HN4.o (fun b h=>Nat.lt_trans h.2 hb4) HSM.o.len HSM.o.sz (HE.o.af HR4.o.kept) (HSE.o.kept HR4.o.kept (fun h=>h)) HSM.o.ok HSM.o.tx)
    rw[HMY.o] at HY
    clear k4 HX HR3
    try rw[hlc]
    go_wp2_with fail
    refine HY.o.mono ?_
    rintro e w5 ⟨rfl,k5⟩
    have HR5:=jd (HR4.o.mU k5)
    clear k5 HY HR4
    go_wp2_with fail
    go_roundg cnt2
    case measure=>exact hlt2
    case rel=>exact HR5.o
   ·have hcf:(c==[97,61,98,61,99])=false:=by simpa using hcq
    have HCS:=jd hcf
    clear hcq hcf
    have hcs:(c==[97,61,98,61,99])=false:=by exact HCS.o
    go_wp2_with fail
    skip
    refine(fJ _ ks n HRD.o (HE.o.af HR2.o.kept) (HSE.o.kept HR2.o.kept (fun h=>h)) HL.o).mono ?_
    rintro e w3 ⟨aa,an,ac,wa,wn,wc,ra,rn,rc,ka,kn,kc,rfl,hn3,hsm3,k3⟩
    obtain⟨W3,hW3⟩:∃W,w3.alloc (.cells #[.int .i64 n.kind,.bool n.neg,.string (BA n.name),.slice aa an ac,.slice wa wn wc,.slice ra rn rc,.slice ka kn kc] 27)=W:=⟨_,rfl⟩
    obtain⟨b3,hb3⟩:∃b,w3.heap.size=b:=⟨_,rfl⟩
    have KW3:Hid (Kept (fun _=>False) w3 W3):=jd (by rw[←hW3];exact(Kept.refl _ w3).alloc _)
    have HR3:=jd ((HR2.o.mU k3).mU KW3.o)
    have HN3:Hid (NAt W3 (fun b=>w2.heap.size≤b∧b<b3) (.agg #[.int .i64 n.kind,.bool n.neg,.string (BA n.name),.slice aa an ac,.slice wa wn wc,.slice ra rn rc,.slice ka kn kc]) n):=jd ((hn3.mono (fun i h1 h2=>⟨h2,by rw[←hb3];exact h1⟩)).kept KW3.o (fun _ _ h=>h))
    have B3:Hid (NBx W3 b3 #[.int .i64 n.kind,.bool n.neg,.string (BA n.name),.slice aa an ac,.slice wa wn wc,.slice ra rn rc,.slice ka kn kc]):=jd (by rw[←hb3,←hW3];exact heap_alloc w3 _)
    have HSM:=jd hsm3;have HW3:=jd hW3;have HB3:=jd hb3
    have hbW3:b3<W3.heap.size:=ah B3.o
    have HX:=jd (lI W3 _ _ n HN3.o (fun b h=>Nat.lt_trans h.2 hbW3) HSM.o (HE.o.af HR3.o.kept) (HSE.o.kept HR3.o.kept (fun h=>h)))
    clear hn3 hsm3 k3 hW3 hb3 HR2
    go_wp2_with fail
    rw[HW3.o,HB3.o]
    refine HX.o.mono ?_
    rintro e w4 ⟨rfl,k4⟩
    rw[HTX.o]
    have HR4:=jd (HR3.o.mU k4)
    have HN4:=jd (HN3.o.kept k4 (fun _ _ h=>h))
    have B4:Hid (NBx w4 b3 _):=jd (k4.heap B3.o (fun h=>h))
    have hb4:b3<w4.heap.size:=ah B4.o
    have hbb:(BA c !=BA c)=false:=by rw[bne,a8];simp
    obtain⟨⟨y0,y1,y2,y3,y4,y5,y6⟩,-⟩:=NBx.cells B4.o
    have HY:=jd (kh w4 _ _ n HN4.o (fun b h=>Nat.lt_trans h.2 hb4) HSM.o.len HSM.o.sz (HE.o.af HR4.o.kept) (HSE.o.kept HR4.o.kept (fun h=>h)) HSM.o.ok HSM.o.tx)
    rw[HMY.o] at HY
    clear k4 HX HR3
    skip
    go_wp2_with fail
    refine HY.o.mono ?_
    rintro e w5 ⟨rfl,k5⟩
    have HR5:=jd (HR4.o.mU k5)
    clear k5 HY HR4
    go_wp2_with fail
    go_roundg cnt2
    case measure=>exact hlt2
    case rel=>exact HR5.o
  clear HR
  rw[HPC.o]
  obtain⟨wo,rfl⟩:∃wo:World,wo=wr:=⟨_,rfl⟩
  go_loopg [6,57] 38 (fun gk s6 s57 wx=>∃k:Nat,gk=38 -k∧k≤38∧s57= .int .i64 (k:Int)∧Kept (fun _=>False) w wx)
  case atStart=>exact⟨0,rfl,Nat.zero_le _,rfl,K0.o⟩
  case round=>
   obtain⟨k,rfl,hk,rfl,hkw⟩:=hrel
   have HKW:=jd hkw
   clear hkw K0 HPC
   by_cases hlt:k<38
   ·obtain⟨s,hs⟩:∃s,pz[k]? =some s:=⟨_,List.getElem?_eq_getElem (by rw[AI];exact hlt)⟩
    have hix:=uR k hlt s hs
    obtain⟨hl1,h1⟩:=Ac (List.mem_of_getElem? hs)
    have HL:=jd hl1;have HP:=jd h1
    clear hs hl1 h1
    go_wp2_with fail
    refine(eS _ s 5 HP.o (HE.o.af HKW.o) (HSE.o.kept HKW.o (fun h=>h)) HL.o).mono ?_
    rintro e w3 ⟨rfl,k3⟩
    have HKW3:=jd (HKW.o.trans k3 (fun _ _ h=>h))
    have N0:∀W:World,NAt W (fun _=>False) (.agg #[.int .i64 0,.bool false,.string ⟨#[]⟩,.slice none 0 0,.slice none 0 0,.slice none 0 0,.slice none 0 0]) (.mk 0 false [] [] [] [] []):=fun W=>NAt.shut (n:= .mk 0 false [] [] [] [] []) (bh.nil _ _) (bh.nil _ _) (bh.nil _ _) (bW.nil _ _)
    have HN0:=jd N0
    have HZ3:=jd ((Kept.refl (fun _=>False) w3).alloc (.cells #[.int .i64 0,.bool false,.string ⟨#[]⟩,.slice none 0 0,.slice none 0 0,.slice none 0 0,.slice none 0 0] 27))
    clear k3 N0
    go_wp2_with fail
    refine(pG (HN0.o _) (HN0.o _)).mono ?_
    rintro e w4 ⟨rfl,k4⟩
    rw[nh]
    have HKW4:=jd ((HKW3.o.trans HZ3.o (fun _ _ h=>h)).trans k4 (fun _ _ h=>h))
    clear k4
    go_wp2_with fail
    go_roundg (38 -(k+1))
    case measure=>omega
    case rel=>exact⟨k+1,rfl,hlt,by go_num,HKW4.o⟩
   ·obtain rfl:k=38:=by omega
    have K0:=jd HKW.o
    clear HKW hk hlt
    go_wp2_with fail
    refine(fi _ lh 16 (by decide) (by decide)).mono ?_
    rintro e v1 ⟨rfl,k9⟩
    have K1:=jd (K0.o.trans k9 (fun _ _ h=>h))
    clear k9
    obtain⟨qa,hqa⟩:∃q,Lib.repeatL lh 16=q:=⟨_,rfl⟩
    rw[hqa]
    have Hqa:=jd hqa
    have lqa:qa.length=32:=by rw[←Hqa.o,eV];rfl
    have a1:BA qa++(⟨#[97]⟩:ByteArray)=BA (qa++[97]):=ai _ [97]
    have z1:(BA (qa++[97])).size≤100:=by rw[ag,List.length_append,lqa];decide
    have z0:(BA qa).size≤100:=by rw[ag,lqa];decide
    obtain⟨qz,hqz⟩:∃q,qa++[97]=q:=⟨_,rfl⟩
    rw[hqz] at a1 z1
    have Hqz:=jd hqz
    clear hqz lqa
    clear hqa
    go_wp2_with fail
    refine(fi _ mY 16 (by decide) (by decide)).mono ?_
    rintro e v2 ⟨rfl,k9⟩
    have K2:=jd (K1.o.trans k9 (fun _ _ h=>h))
    clear k9
    obtain⟨qb,hqb⟩:∃q,Lib.repeatL mY 16=q:=⟨_,rfl⟩
    rw[hqb]
    have Hqb:=jd hqb
    have lqb:qb.length=48:=by rw[←Hqb.o,eV];rfl
    obtain⟨dd,hdd⟩:∃d,qv=d:=⟨_,rfl⟩
    have a2:BA qz++BA qb=BA dd:=by rw[ai,←hdd,←Hqz.o,←Hqa.o,←Hqb.o];rfl
    have LD:Hid (dd.length=81):=jd (by rw[←hdd];decide+kernel)
    have z2:(BA qb).size≤100:=by rw[ag,lqb];decide
    have zd:(BA dd).size≤100:=by rw[ag,LD.o];decide
    clear lqb
    have RA:Hid (∃n,Reads dd (.ok n)):=jd (hdd▸BL)
    have HDD:=jd hdd
    clear hqb hdd
    go_wp2_with fail
    clear a1 a2 z0 z1 z2
    obtain⟨n3,hn3⟩:=RA.o
    refine(fJ _ dd n3 hn3 (HE.o.af K2.o) (HSE.o.kept K2.o (fun h=>h)) (by rw[LD.o];decide)).mono ?_
    rintro e v3 ⟨aa,an,ac,wa,wn,wc,ra,rn,rc,ka,kn,kc,rfl,-,-,k9⟩
    have HZ:=jd ((Kept.refl (fun _=>False) v3).alloc (.cells #[.int .i64 n3.kind,.bool n3.neg,.string (BA n3.name),.slice aa an ac,.slice wa wn wc,.slice ra rn rc,.slice ka kn kc] 27))
    have K3:=jd ((K2.o.trans k9 (fun _ _ h=>h)).trans HZ.o (fun _ _ h=>h))
    clear k9 HZ hn3
    obtain⟨d3,hd3e⟩:∃d,uD=d:=⟨_,rfl⟩
    obtain⟨d2,hd2e⟩:∃d,ux=d:=⟨_,rfl⟩
    have a1:(⟨#[123,32]⟩:ByteArray)++BA dd=BA d3:=by rw[show(⟨#[123,32]⟩:ByteArray)=BA lh from rfl,ai,←hd3e,←HDD.o];rfl
    have a2:BA d3++(⟨#[59,32,125]⟩:ByteArray)=BA d2:=by rw[show(⟨#[59,32,125]⟩:ByteArray)=BA mY from rfl,ai,←hd3e,←hd2e];rfl
    have LB:Hid (d2.length=86):=jd (by rw[←hd2e];decide+kernel)
    have LC:Hid (d3.length=83):=jd (by rw[←hd3e];decide+kernel)
    have z1:(BA d3).size≤100:=by rw[ag,LC.o];decide
    have z2:(BA d2).size≤100:=by rw[ag,LB.o];decide
    have RB:Hid (Reads d2 (.error 12)):=jd (hd2e▸Ca)
    have RC:Hid (Reads d3 (.error 12)):=jd (hd3e▸BG)
    clear hd3e hd2e
    go_wp2_with fail
    refine(eS _ d2 12 RB.o (HE.o.af K3.o) (HSE.o.kept K3.o (fun h=>h)) (by rw[LB.o];decide)).mono ?_
    rintro e v4 ⟨rfl,k9⟩
    have HZ:=jd ((Kept.refl (fun _=>False) v4).alloc (.cells #[.int .i64 0,.bool false,.string ⟨#[]⟩,.slice none 0 0,.slice none 0 0,.slice none 0 0,.slice none 0 0] 27))
    have K4:=jd ((K3.o.trans k9 (fun _ _ h=>h)).trans HZ.o (fun _ _ h=>h))
    clear k9 HZ
    go_wp2_with fail
    refine(eS _ d3 12 RC.o (HE.o.af K4.o) (HSE.o.kept K4.o (fun h=>h)) (by rw[LC.o];decide)).mono ?_
    rintro e v5 ⟨rfl,k9⟩
    have HZ:=jd ((Kept.refl (fun _=>False) v5).alloc (.cells #[.int .i64 0,.bool false,.string ⟨#[]⟩,.slice none 0 0,.slice none 0 0,.slice none 0 0,.slice none 0 0] 27))
    have K5:=jd ((K4.o.trans k9 (fun _ _ h=>h)).trans HZ.o (fun _ _ h=>h))
    clear k9 HZ
    go_wp2_with fail
    refine(fi _ [97,59] 510 (by decide) (by decide)).mono ?_
    rintro e v6 ⟨rfl,k9⟩
    have K6:=jd (K5.o.trans k9 (fun _ _ h=>h))
    clear k9
    obtain⟨qd,hqd⟩:∃q,Lib.repeatL [97,59] 510=q:=⟨_,rfl⟩
    rw[hqd]
    have Hqd:=jd hqd
    clear hqd
    go_wp2_with fail
    obtain⟨n7,hn7⟩:=(show∃n,Reads qd (.ok n) from Hqd.o▸Cc)
    refine(fJ _ qd n7 hn7 (HE.o.af K6.o) (HSE.o.kept K6.o (fun h=>h)) (by rw[←Hqd.o,eV];decide)).mono ?_
    rintro e v7 ⟨aa,an,ac,wa,wn,wc,ra,rn,rc,ka,kn,kc,rfl,-,-,k9⟩
    have HZ:=jd ((Kept.refl (fun _=>False) v7).alloc (.cells #[.int .i64 n7.kind,.bool n7.neg,.string (BA n7.name),.slice aa an ac,.slice wa wn wc,.slice ra rn rc,.slice ka kn kc] 27))
    have K7:=jd ((K6.o.trans k9 (fun _ _ h=>h)).trans HZ.o (fun _ _ h=>h))
    clear k9 HZ hn7
    go_wp2_with fail
    refine(fi _ [97,59] 512 (by decide) (by decide)).mono ?_
    rintro e v8 ⟨rfl,k9⟩
    have K8:=jd (K7.o.trans k9 (fun _ _ h=>h))
    clear k9
    obtain⟨qe,hqe⟩:∃q,Lib.repeatL [97,59] 512=q:=⟨_,rfl⟩
    rw[hqe]
    have Hqe:=jd hqe
    clear hqe
    go_wp2_with fail
    refine(eS _ qe 7 (show Reads qe (.error 7) from Hqe.o▸BX) (HE.o.af K8.o) (HSE.o.kept K8.o (fun h=>h)) (by rw[←Hqe.o,eV];decide)).mono ?_
    rintro e v9 ⟨rfl,k9⟩
    have HZ:=jd ((Kept.refl (fun _=>False) v9).alloc (.cells #[.int .i64 0,.bool false,.string ⟨#[]⟩,.slice none 0 0,.slice none 0 0,.slice none 0 0,.slice none 0 0] 27))
    have K9:=jd ((K8.o.trans k9 (fun _ _ h=>h)).trans HZ.o (fun _ _ h=>h))
    clear k9 HZ
    go_wp2_with fail
    refine(fi _ [97,32] 256 (by decide) (by decide)).mono ?_
    rintro e v10 ⟨rfl,k9⟩
    have K10:=jd (K9.o.trans k9 (fun _ _ h=>h))
    clear k9
    obtain⟨qf,hqf⟩:∃q,Lib.repeatL [97,32] 256=q:=⟨_,rfl⟩
    rw[hqf]
    have Hqf:=jd hqf
    clear hqf
    go_wp2_with fail
    obtain⟨n11,hn11⟩:=(show∃n,Reads qf (.ok n) from Hqf.o▸BY)
    refine(fJ _ qf n11 hn11 (HE.o.af K10.o) (HSE.o.kept K10.o (fun h=>h)) (by rw[←Hqf.o,eV];decide)).mono ?_
    rintro e v11 ⟨aa,an,ac,wa,wn,wc,ra,rn,rc,ka,kn,kc,rfl,-,-,k9⟩
    have HZ:=jd ((Kept.refl (fun _=>False) v11).alloc (.cells #[.int .i64 n11.kind,.bool n11.neg,.string (BA n11.name),.slice aa an ac,.slice wa wn wc,.slice ra rn rc,.slice ka kn kc] 27))
    have K11:=jd ((K10.o.trans k9 (fun _ _ h=>h)).trans HZ.o (fun _ _ h=>h))
    clear k9 HZ hn11
    go_wp2_with fail
    refine(fi _ [97,32] 257 (by decide) (by decide)).mono ?_
    rintro e v12 ⟨rfl,k9⟩
    have K12:=jd (K11.o.trans k9 (fun _ _ h=>h))
    clear k9
    obtain⟨qg,hqg⟩:∃q,Lib.repeatL [97,32] 257=q:=⟨_,rfl⟩
    rw[hqg]
    have Hqg:=jd hqg
    clear hqg
    go_wp2_with fail
    refine(eS _ qg 7 (show Reads qg (.error 7) from Hqg.o▸BH) (HE.o.af K12.o) (HSE.o.kept K12.o (fun h=>h)) (by rw[←Hqg.o,eV];decide)).mono ?_
    rintro e v13 ⟨rfl,k9⟩
    have HZ:=jd ((Kept.refl (fun _=>False) v13).alloc (.cells #[.int .i64 0,.bool false,.string ⟨#[]⟩,.slice none 0 0,.slice none 0 0,.slice none 0 0,.slice none 0 0] 27))
    have K13:=jd ((K12.o.trans k9 (fun _ _ h=>h)).trans HZ.o (fun _ _ h=>h))
    clear k9 HZ
    go_wp2_with fail
    refine(fi _ [97] 2049 (by decide) (by decide)).mono ?_
    rintro e v14 ⟨rfl,k9⟩
    have K14:=jd (K13.o.trans k9 (fun _ _ h=>h))
    clear k9
    obtain⟨qh,hqh⟩:∃q,Lib.repeatL [97] 2049=q:=⟨_,rfl⟩
    rw[hqh]
    have Hqh:=jd hqh
    clear hqh
    go_wp2_with fail
    refine(eS _ qh 3 (show Reads qh (.error 3) from Hqh.o▸BP) (HE.o.af K14.o) (HSE.o.kept K14.o (fun h=>h)) (by rw[←Hqh.o,eV];decide)).mono ?_
    rintro e v15 ⟨rfl,k9⟩
    have HZ:=jd ((Kept.refl (fun _=>False) v15).alloc (.cells #[.int .i64 0,.bool false,.string ⟨#[]⟩,.slice none 0 0,.slice none 0 0,.slice none 0 0,.slice none 0 0] 27))
    have K15:=jd ((K14.o.trans k9 (fun _ _ h=>h)).trans HZ.o (fun _ _ h=>h))
    clear k9 HZ
    go_wp2_with fail
    refine(fi _ [36,97] 800 (by decide) (by decide)).mono ?_
    rintro e v16 ⟨rfl,k9⟩
    have K16:=jd (K15.o.trans k9 (fun _ _ h=>h))
    clear k9
    obtain⟨qi,hqi⟩:∃q,Lib.repeatL [36,97] 800=q:=⟨_,rfl⟩
    rw[hqi]
    have Hqi:=jd hqi
    clear hqi
    go_wp2_with fail
    refine(eS _ qi 3 (show Reads qi (.error 3) from Hqi.o▸Cb) (HE.o.af K16.o) (HSE.o.kept K16.o (fun h=>h)) (by rw[←Hqi.o,eV];decide)).mono ?_
    rintro e v17 ⟨rfl,k9⟩
    have HZ:=jd ((Kept.refl (fun _=>False) v17).alloc (.cells #[.int .i64 0,.bool false,.string ⟨#[]⟩,.slice none 0 0,.slice none 0 0,.slice none 0 0,.slice none 0 0] 27))
    have K17:=jd ((K16.o.trans k9 (fun _ _ h=>h)).trans HZ.o (fun _ _ h=>h))
    clear k9 HZ
    go_wp2_with fail
    refine(vL _ (HE.o.af K17.o) (HSE.o.kept K17.o (fun h=>h))).mono ?_
    rintro e v18 ⟨rfl,k9⟩
    have K18:=jd (K17.o.trans k9 (fun _ _ h=>h))
    clear k9
    go_wp2_with fail
    go_ret
    exact⟨rfl,K18.o⟩
theorem na (w:World) (hE:bu w) (hS:jQ w):Calls Tryz.prog 6 #[] w fun e w'=>e= .returned (.bool true)∧Below w.heap.size w w':=(qB w hE hS).mono fun _ _ ⟨e,k⟩=>⟨e,Below.zh k⟩
end Go.Proofs.YtgigdlhcjahejaaGreatDoor
namespace Go.Lw
open Go Go.RowKit Go.WideShapes Go.ChangeShapes
section
variable {H:Type} {enc:TypeId×Value→H} {P:Program} {W:World} {b0:Nat} {sp:Nat→Bool} {held:Bool} {t:TypeId} {v:Value} {d:DataW H} {ps:List MemPlace} {base:Nat} {r:Reach}
end
end Go.Lw
namespace Go.Proofs.YtgigdlhcjahejaaGreatDoor
open Go Go.RowKit Go.Lw
set_option linter.unusedVariables false
theorem mC {H:Type} {enc:TypeId×Value→H} {a:Assume} {C:Checked} {os:Os} {f:FuncId} {fn:Func} {s:ChangeSpec} {conds:List PathCond} {apart fresh handsOn again:Bool} {X:World→Array Value→Prop}
  (hX:∀(w w':World) (args:Array Value),w.heap=w'.heap→X w args→X w' args)
  (own:ownKnob C.prog.godebug=none) (started:os.Started) (noInit:C.prog.inits.idxOf? f=none) (hfn:C.prog.funcs[f]? =some fn)
  (witness:∃(w:World) (tape:Tape) (i:Input),w.os=os∧(w.forCall tape i).Shaped C.prog∧i.vars=[]∧Input.okWide C.prog (w.forCall tape i) .any w.heap.size f i∧
   ((s.pre enc C.prog fn conds apart (w.forCall tape i).memory i.args∧X (w.forCall tape i).memory i.args)∧sizedMet enc C.prog fn (OpenSpec.ofChange s) apart (w.forCall tape i).memory i.args)∧a.holds C.prog (lone (Frame.enter C.prog f i.args .normal) [] (w.forCall tape i)))
  (contract:∀(W:World) (base:Nat) (args:Array Value) (ds gs:List (DataW H)) (before:List MemPlace),
   (∀(j:Nat) t v,fn.params[j]? =some t→args[j]? =some v→Value.okWide C.prog W .any base t v)→
   DataW.Whole enc C.prog fn.params.toList s.vars apart W args.toList ds gs before→X W args→W.ShapedOpen C.prog→
   Calls C.prog f args W fun e W'=>∃v,e= .returned v∧s.post enc C.prog fn apart fresh handsOn again W args v W'):
  ReturnsInHanded a C os f .any (fun w args=>(s.pre enc C.prog fn conds apart w args∧X w args)∧sizedMet enc C.prog fn (OpenSpec.ofChange s) apart w args) (s.post enc C.prog fn apart fresh handsOn again):=by
 refine returnsInHanded_of_calls own started noInit witness fun w tape i _ hsh _ hok hpre _=>?_
 obtain⟨_,_,_,fn1,hfn1,_,_,_,_,hval⟩:=hok
 cases Option.some.inj (hfn1.symm.trans hfn)
 obtain⟨⟨⟨ds,gs,before,hw,_⟩,hx⟩,_⟩:=hpre
 refine(contract (w.forCall tape i) w.heap.size i.args ds gs before hval (DataW.Whole.of_heap (w':=w.forCall tape i) (by rfl) hw) (hX _ _ _ (by rfl) hx) hsh).mono fun e W' h=>?_
 obtain⟨v,he,hp⟩:=h
 cases he
 exact ChangeSpec.post_blind hp
theorem own:ownKnob Tryz.prog.godebug=none:=by kernel_rfl
theorem Bo:Tryz.prog.globalNamed "longwire/lex.operators" =some 1:=by kernel_rfl
theorem BS:(Tryz.prog.globals[1]?).map (·.type)=some 110:=by kernel_rfl
theorem chunks {α:Type} (m:Nat):∀(n:Nat) (a b:List α),a.length=n*m→b.length=n*m→(∀i,i<n→(a.drop (i*m)).take m=(b.drop (i*m)).take m)→a=b
 |0,a,b,ha,hb,_=>by
  rw[Nat.zero_mul] at ha hb
  rw[List.length_eq_zero_iff.1 ha,List.length_eq_zero_iff.1 hb]
 |n+1,a,b,ha,hb,h=>by
  rw[Nat.succ_mul] at ha hb
  have h0:=h 0 (by omega)
  rw[Nat.zero_mul,List.drop_zero,List.drop_zero] at h0
  rw[←List.take_append_drop m a,←List.take_append_drop m b,h0]
  congr 1
  refine chunks m n _ _ (by rw[List.length_drop];omega) (by rw[List.length_drop];omega) (fun i hi=>?_)
  have:=h (i+1) (by omega)
  rw[Nat.succ_mul] at this
  rw[List.drop_drop,List.drop_drop,Nat.add_comm m]
  exact this
def opD (o:Nat×List UInt8):DataW Unit:= .agg [.lit (.int .i64 (o.1:Int)),.lit (.string o.2)]
theorem xm:(Rows.laid_longwire_lex_operators:DataW Unit)= .agg (opsL.map opD):=rfl
theorem AP {α:Type}:∀{l:List α},l.length=2→∃a b,l=[a,b]
 |[a,b],_=>⟨a,b,rfl⟩
theorem xQ {enc:TypeId×Value→Unit} {w:World} {base:Nat} {sp:Nat→Bool} {held:Bool} {fuel:Nat} {cs:List Value} {o:Nat×List UInt8} {p:List MemPlace}
  (h:DataW.trod enc Tryz.prog w base sp held fuel 91 cs=some (opD o,p)):cs=[.int .i64 (o.1:Int),.string (BA o.2)]:=by
 obtain⟨y0,y1,n,hx,hl,h0,h1⟩:=Go.ChangeShapes.trod_struct2 Tryz.underlying91 h
 rw[show Tryz.prog.cellsOf 91=2 by kernel_rfl] at hl
 obtain⟨a,b,rfl⟩:=AP hl
 obtain⟨n0,e0,r0,_⟩:=DataW.trod_int Tryz.underlying3 h0
 obtain⟨s1,e1,r1,_⟩:=DataW.trod_string Tryz.underlying9 h1
 rw[show Tryz.prog.cellsOf 3=1 by kernel_rfl] at e0
 rw[show Tryz.prog.cellsOf 9=1 by kernel_rfl] at e1
 simp at e0 e1
 subst e0;subst e1
 rw[r0,r1] at hx
 simp only[opD,Prod.mk.injEq,DataW.agg.injEq,List.cons.injEq,DataW.lit.injEq,Lit.int.injEq,Lit.string.injEq,true_and,and_true] at hx
 obtain⟨⟨hx0,hx1⟩,_⟩:=hx
 rw[hx0,hx1]
 rfl
theorem vJ (i:Nat) (hi:i<18):(qk.toList.drop (i*2)).take 2=[.int .i64 ((ga i).1:Int),.string (BA (ga i).2)]:=by
 have h:i=0∨i=1∨i=2∨i=3∨i=4∨i=5∨i=6∨i=7∨i=8∨i=9∨i=10∨i=11∨i=12∨i=13∨i=14∨i=15∨i=16∨i=17:=by omega
 rcases h with rfl|rfl|rfl|rfl|rfl|rfl|rfl|rfl|rfl|rfl|rfl|rfl|rfl|rfl|rfl|rfl|rfl|rfl<;>rfl
theorem AO {enc:TypeId×Value→Unit} {w:World} {base:Nat} {sp:Nat→Bool} {held:Bool} {fuel:Nat} {cs:List Value} {p:List MemPlace}
  (h:DataW.trod enc Tryz.prog w base sp held fuel 110 cs=some (Rows.laid_longwire_lex_operators,p)):cs=qk.toList:=by
 obtain⟨xs,m,rfl,hx,hl,hn,hel⟩:=DataW.trod_array Tryz.underlying110 h
 rw[show Tryz.prog.cellsOf 110=36 by kernel_rfl] at hl
 rw[xm] at hx
 simp only[Prod.mk.injEq,DataW.agg.injEq] at hx
 refine chunks 2 18 cs _ hl rfl fun i hi=>?_
 rw[vJ i hi]
 have h1:=hel i hi
 rw[show Tryz.prog.cellsOf 91=2 by kernel_rfl] at h1
 obtain⟨x,hxi⟩:∃x,xs[i]? =some x:=⟨_,List.getElem?_eq_getElem (by rw[hn];exact hi)⟩
 rw[hxi] at h1
 have h2:(opsL.map opD)[i]? =some x.1:=by rw[hx.1,List.getElem?_map,hxi];rfl
 rw[List.getElem?_map] at h2
 have h3:opsL[i]? =some (ga i):=by
  unfold ga
  rw[List.getD_eq_getElem?_getD,List.getElem?_eq_getElem (show i<opsL.length from hi)]
  rfl
 rw[h3] at h2
 obtain⟨x1,x2⟩:=x
 cases Option.some.inj h2
 exact xQ h1
theorem xy {W:World} {cs:Array Value} (hv:W.var? Tryz.prog "longwire/lex.operators" =some cs) (hc:cs.toList=qk.toList):pk W:=by
 unfold World.var? at hv
 rw[Bo] at hv
 simp only[Option.bind_some] at hv
 have e:cs=qk:=Array.toList_inj.1 hc
 subst e
 split at hv
 ·rename_i c t fr heq
  cases hv
  exact⟨t,fr,heq⟩
 ·cases hv
theorem vE {W:World} (h:W.ShapedOpen Tryz.prog):∃m,W.cell? ⟨4,0,none⟩=some (.int .i64 m):=
 cell_of_shapedOpen_int (g:=4) (t:=3) (zero:=#[.int .i64 0]) h (of_decide_eq_true (by kernel_rfl)) (by kernel_rfl) rfl (by kernel_rfl) (by kernel_rfl) Tryz.underlying3
theorem AE:Tryz.prog.globalNamed "longwire/word.ends" =some 5:=by kernel_rfl
theorem Bs:(Tryz.prog.globals[5]?).map (·.type)=some 147:=by kernel_rfl
theorem vA:(Rows.laid_longwire_word_ends:DataW Unit)= .agg [.lit (.string []),.lit (.string [34]),.lit (.string [125])]:=rfl
def yq:Array Value:=#[.string ⟨#[]⟩,.string ⟨#[34]⟩,.string ⟨#[125]⟩]
theorem yW {enc:TypeId×Value→Unit} {w:World} {base:Nat} {sp:Nat→Bool} {held:Bool} {fuel:Nat} {cs:List Value} {p:List MemPlace}
  (h:DataW.trod enc Tryz.prog w base sp held fuel 147 cs=some (Rows.laid_longwire_word_ends,p)):cs=yq.toList:=by
 obtain⟨xs,m,rfl,hx,hl,hn,hel⟩:=DataW.trod_array Tryz.underlying147 h
 rw[show Tryz.prog.cellsOf 147=3 by kernel_rfl] at hl
 rw[vA] at hx
 simp only[Prod.mk.injEq,DataW.agg.injEq] at hx
 refine chunks 1 3 cs _ hl rfl fun i hi=>?_
 have h1:=hel i hi
 rw[show Tryz.prog.cellsOf 9=1 by kernel_rfl] at h1
 obtain⟨x,hxi⟩:∃x,xs[i]? =some x:=⟨_,List.getElem?_eq_getElem (by rw[hn];exact hi)⟩
 rw[hxi] at h1
 have h2:([DataW.lit (.string []),.lit (.string [34]),.lit (.string [125])]:List (DataW Unit))[i]? =some x.1:=by rw[hx.1,List.getElem?_map,hxi];rfl
 obtain⟨x1,x2⟩:=x
 obtain⟨s1,e1,r1,_⟩:=DataW.trod_string Tryz.underlying9 h1
 rw[e1]
 simp only[Prod.mk.injEq] at r1
 have r2:=r1.1
 rcases(by omega:i=0∨i=1∨i=2) with rfl|rfl|rfl
 all_goals
  simp only[List.getElem?_cons_zero,List.getElem?_cons_succ,Option.some.injEq] at h2
  rw[←h2] at r2
  simp only[DataW.lit.injEq,Lit.string.injEq] at r2
  have e:s1=BA s1.data.toList:=xg s1
  rw[e,←r2]
  rfl
theorem vo {W:World} {cs:Array Value} (hv:W.var? Tryz.prog "longwire/word.ends" =some cs) (hc:cs.toList=yq.toList):∃(t:TypeId) (fr:Nat×Nat),W.heap[5]? =some (.cells #[.string ⟨#[]⟩,.string ⟨#[34]⟩,.string ⟨#[125]⟩] t fr):=by
 unfold World.var? at hv
 rw[AE] at hv
 simp only[Option.bind_some] at hv
 have e:cs=yq:=Array.toList_inj.1 hc
 subst e
 split at hv
 ·rename_i c t fr heq
  cases hv
  exact⟨t,fr,heq⟩
 ·cases hv
end Go.Proofs.YtgigdlhcjahejaaGreatDoor
