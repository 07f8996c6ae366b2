import Derived.Test.YtgigdlhcjahejaaGreatDoorF38
import Derived.Deep.DeepCutAuto
import Derived.Deep.CutBlock
import Derived.Test.YtgigdlhcjahejaaGreatDoorF39
set_option linter.all false
set_option maxHeartbeats 400000000
namespace Go.Proofs.YtgigdlhcjahejaaGreatDoor
open Go Go.RowKit Go.Lw
set_option maxRecDepth 100000
attribute [local go_sem] aA
theorem EO {w:World} {g:Nat} (hE:bW w) (hS:lP w) (hg:w.heap.size≤g):GNe g:=by
 have h1:=hE.word.apart
 obtain⟨_,⟨t1,fr1,hr⟩,t2,fr2,hs⟩:=hE
 have h2:=av hr
 have h3:=av hs
 obtain⟨f,hf,_⟩:=hS 1 (by decide) (by decide)
 have h4:=World.block_lt_of_cell? w _ hf
 have h4':0<w.heap.size:=h4
 exact⟨by omega,by omega,by omega,by omega,by omega,by omega⟩
theorem Ch {s:LB} {l:List Tk} (h:dB s= .ok l):∀t∈l,t.kind≤11∧t.text.length≤2048:=fun t ht=>by
 have h1:=sQ (pH h) t.kt (List.mem_map.2 ⟨t,ht,rfl⟩)
 have hl:=(zV h).1
 refine⟨?_,?_⟩
 ·rcases h1 with⟨h1,_⟩|⟨h1,_⟩
  ·have h1':t.kind=1:=h1
   omega
  ·exact(vh _ h1).2.2
 ·unfold dB at h
  rw[Js (by omega)] at h
  split at h
  ·cases h
  ·exact lt9 (mz _ _ _ _ h t ht) hl
def FL (w:World) (s:LB) (e:Ending) (w':World):Prop:=∃x:Except Nat Nd,Reads s x∧(match x with
 |.ok n=>∃v,e= .returned (.tuple #[v,.int .i64 0])∧NAt w' (fun b=>w.heap.size≤b) v n∧SmN n
 |.error c=>e= .returned (.tuple #[.agg #[.int .i64 0,.bool false,.string ⟨#[]⟩,.slice none 0 0,.slice none 0 0,.slice none 0 0,.slice none 0 0],.int .i64 (c:Int)]))∧Kept (fun _=>False) w w'
def eP (p:Ps):Nat:=if ag p=0 then p.e else if p.e=0 then 5 else p.e
def PaS (T:TT) (w:World) (s:LB) (g b7:Nat) (wx:World):Prop:=∃(nd:Nd) (p:Ps) (vk:Int) (vb:Bool) (vn:LB) (aa:Option Addr) (an ac:Nat) (wa:Option Addr) (wn wcp:Nat) (ra:Option Addr) (rn rc:Nat) (ka:Option Addr) (kn kc:Nat),NBx wx b7 #[.int .i64 vk,.bool vb,.string (BA vn),.slice aa an ac,.slice wa wn wcp,.slice ra rn rc,.slice ka kn kc]∧RP T wx g 0 p∧Kept (fun _=>False) w wx∧NBx wx w.heap.size zN∧NAt wx (fun i=>w.heap.size+1≤i∧i≠b7∧i≠g) (.agg #[.int .i64 vk,.bool vb,.string (BA vn),.slice aa an ac,.slice wa wn wcp,.slice ra rn rc,.slice ka kn kc]) nd∧SmN nd∧(∀x:Except Nat Nd,x=(if eP p≠0 then .error (eP p) else if 512<(aK nd).length∨(aK nd).any (fun m=>decide (256<m.ws.length))=true then .error 7 else if fE nd=false then .error 3 else .ok nd)→Reads s x)
theorem mG (w:World) (s:LB) (hE:bW w) (hS:lP w) (hs9:s.length≤1000000):Calls Tryz.prog 9 #[.string (BA s)] w (FL w s):=by
 obtain⟨W0,hW0⟩:∃W0,w.alloc (.cells zN 27)=W0:=⟨_,rfl⟩
 have hs0:W0.heap.size=w.heap.size+1:=by rw[←hW0,World.size_alloc]
 have KA:Hid (Kept (fun _=>False) w W0):=jd (by rw[←hW0];exact(Ja _ w).alloc _)
 have PA:Hid (NBx W0 w.heap.size zN):=jd (by rw[←hW0];exact heap_alloc w _)
 have HW0:=jd hW0
 have HS0:=jd hs0
 have HE:=jd hE;have HSE:=jd hS
 have hlx:=zu W0 s (hE.word.lex.kept KA.o) hs9
 have HLX:=jd hlx
 clear hW0 hs0 hE hS hlx
 go_enter Tryz.func9,Tryz.ntmps9
 go_wp2_with fail
 rw[HW0.o]
 refine HLX.o.mono ?_
 rintro e w1 ⟨hpo,k1⟩
 have K1:=jd k1
 have hz1:=k1.size
 unfold fa at hpo
 clear k1 HLX
 cases hl:dB s with
 |error ec=>
  rw[hl] at hpo
  obtain rfl:=hpo
  have HRD:Hid (Reads s (.error ec)):=jd (by unfold Reads;rw[hl])
  have hec:ec≠0:=fun e=>ig (by rw[e] at hl;exact hl)
  have d1:((ec:Int) !=0)=true:=by simp[bne];omega
  have d2:(ec !=0)=true:=by simp[bne];exact hec
  have PRN:Hid (NBx w1 w.heap.size zN):=jd (K1.o.heap PA.o (fun h=>h))
  have HKN:Hid (Kept (fun _=>False) w w1):=jd (KA.o.trans K1.o (fun _ _ h=>h))
  clear hl hec
  obtain⟨⟨c0,c1,c2,c3,c4,c5,c6⟩,f0,f1,f2,f3,f4,f5,f6⟩:=NBx.cells PRN.o
  have hltN:w.heap.size<w1.heap.size:=av PRN.o
  have K7:Hid (Kept (fun i=>i=w.heap.size) w1 (st7 w1 w.heap.size (.int .i64 0) (.bool false) (.string ⟨#[]⟩) (.slice none 0 0) (.slice none 0 0) (.slice none 0 0) (.slice none 0 0))):=jd (bu (Ja (fun i=>i=w.heap.size) w1) (fun _=>rfl) _ _ _ _ _ _ _)
  have B7:=jd (bS PRN.o (.int .i64 0) (.bool false) (.string ⟨#[]⟩) (.slice none 0 0) (.slice none 0 0) (.slice none 0 0) (.slice none 0 0))
  go_wp2_with fail
  obtain⟨wF,hwF⟩:∃W,st7 w1 w.heap.size (.int .i64 0) (.bool false) (.string ⟨#[]⟩) (.slice none 0 0) (.slice none 0 0) (.slice none 0 0) (.slice none 0 0)=W:=⟨_,rfl⟩
  rw[hwF] at K7 B7
  have hwF':=hwF
  simp only[st7] at hwF'
  rw[hwF']
  clear hwF hwF' c0 c1 c2 c3 c4 c5 c6
  obtain⟨⟨z0,z1,z2,z3,z4,z5,z6⟩,-⟩:=NBx.cells B7.o
  refine bodyPost_ret (v:= .tuple #[.agg #[.int .i64 0,.bool false,.string ⟨#[]⟩,.slice none 0 0,.slice none 0 0,.slice none 0 0,.slice none 0 0],.int .i64 (ec:Int)]) (by simp[results,go_sem,z0,z1,z2,z3,z4,z5,z6]) rfl ?_
  exact⟨.error ec,HRD.o,rfl,HKN.o.trans K7.o (fun i hi e=>by have e':i=w.heap.size:=e;omega)⟩
 |ok L=>
  rw[hl] at hpo
  obtain⟨tv,rfl,hown,hblk,hlen⟩:=hpo
  obtain⟨tad,tcap,rfl,_,_,_⟩:=bY hown
  have HLT:=jd hl
  have HLK:=jd (Ch hl)
  have htl:=df hown
  obtain⟨T,hT⟩:∃T:TT,T=⟨tad,tcap,L⟩:=⟨_,rfl⟩
  have hTv:(.slice tad L.length tcap:Value)=T.v:=by rw[hT]
  have HTL:Hid (T.L=L):=jd (by rw[hT])
  obtain⟨g,hg⟩:∃g,w1.heap.size=g:=⟨_,rfl⟩
  obtain⟨W2,hW2⟩:∃W2,w1.alloc (.cells #[.slice tad L.length tcap,.int .i64 0,.int .i64 0,.int .i64 0] 70)=W2:=⟨_,rfl⟩
  have K2:Hid (Kept (fun _=>False) w1 W2):=jd (by rw[←hW2];exact(Ja _ w1).alloc _)
  have HTW9:Hid (∀i,blk T.v i→w.heap.size<i):=jd (fun i hi=>by rw[←hTv] at hi;have:=hblk i hi;have:=HS0.o;omega)
  have HTB:Hid (∀i,blk T.v i→i<g):=jd (fun i hi=>by rw[←hTv] at hi;have:=htl i hi;omega)
  have HRP:Hid (RP T W2 g 0 ⟨L,0⟩):=jd ⟨0,by rw[HTL.o];rfl,⟨by rw[←hg,←hW2,hT];exact heap_alloc w1 _,by rw[hT];exact(Rd.own hown).kept K2.o (fun _ _ h=>h),fun b hb e=>by have:=HTB.o b hb;omega,Ju _,by rw[HTL.o];exact hlen,by decide,by rw[HTL.o];exact HLK.o⟩⟩
  have hgw:w.heap.size+1≤g:=by have:=HS0.o;omega
  have HGN:Hid (GNe g):=jd (EO HE.o HSE.o (by omega))
  have HK2:Hid (Kept (fun _=>False) w W2):=jd ((KA.o.trans K1.o (fun _ _ h=>h)).trans K2.o (fun _ _ h=>h))
  have PR2:Hid (NBx W2 w.heap.size zN):=jd (K2.o.heap (K1.o.heap PA.o (fun h=>h)) (fun h=>h))
  have HRE:=jd (fD T W2 g 0 ⟨L,0⟩ HRP.o)
  have HW2:=jd hW2;have HG:=jd hg
  obtain⟨p0,hp0⟩:∃p0,aD ⟨L,0⟩=p0:=⟨_,rfl⟩
  have hp0e:p0.e=0:=by rw[←hp0];rfl
  have hsm0:SmP p0:=by rw[←hp0];exact SmP.rest (p:=⟨L,0⟩) ⟨hlen,fun t ht=>(HLK.o t ht).2⟩
  rw[hp0] at HRE
  have HP0:=jd hp0;have HP0E:=jd hp0e;have HSM0:=jd hsm0
  have hrl:(if ag p0=0 then True else∃n st p,aM (.list 0 p0) ⟨[n],st,p⟩):=by
   split
   ·trivial
   ·obtain⟨⟨ns,st,p⟩,hx⟩:=DR (.list 0 p0)
    obtain⟨k,hk⟩:=hx
    obtain⟨n,hn⟩:=(cJ _ _ _ hk).1 trivial
    have hn':ns=[n]:=hn
    subst hn'
    exact⟨n,st,p,k,hk⟩
  clear hl hown hblk hlen htl hT hTv hW2 hg hp0 hp0e hsm0 HRP HTL
  go_wp2_with fail
  rw[HW2.o,HG.o]
  refine HRE.o.mono ?_
  rintro e w3 ⟨rfl,r3,k3⟩
  obtain⟨b7,hb7⟩:∃b,w3.heap.size=b:=⟨_,rfl⟩
  obtain⟨W4,hW4⟩:∃W4,w3.alloc (.cells #[.int .i64 5,.bool false,.string ⟨#[]⟩,.slice none 0 0,.slice none 0 0,.slice none 0 0,.slice none 0 0] 27)=W4:=⟨_,rfl⟩
  have K34:Hid (Kept (fun _=>False) w3 W4):=jd (by rw[←hW4];exact(Ja _ w3).alloc _)
  have B4:Hid (NBx W4 b7 #[.int .i64 5,.bool false,.string (BA []),.slice none 0 0,.slice none 0 0,.slice none 0 0,.slice none 0 0]):=jd (by rw[←hb7,←hW4];exact heap_alloc w3 _)
  have HR4:Hid (RP T W4 g 0 p0):=jd (r3.au K34.o)
  have HK4:Hid (Kept (fun _=>False) w W4):=jd ((HK2.o.trans k3 (fun i hi e=>by have e':i=g:=e;omega)).trans K34.o (fun _ _ h=>h))
  have PR4:Hid (NBx W4 w.heap.size zN):=jd (K34.o.heap (k3.heap PR2.o (fun e=>by have e':w.heap.size=g:=e;omega)) (fun h=>h))
  have hgb:g<b7:=by have:=r3.lt;omega
  have HKI:=jd (cX T W4 g 0 p0 HR4.o)
  have HW4:=jd hW4;have HB7:=jd hb7
  clear r3 k3 hW4 hb7 HRE HK2 PR2 K2 K1 KA PA
  go_wp2_with fail
  rw[HW4.o,HB7.o]
  refine HKI.o.mono ?_
  rintro e w5 ⟨rfl,k5⟩
  have HR5:Hid (RP T w5 g 0 p0):=jd (HR4.o.au k5)
  have B5:Hid (NBx w5 b7 #[.int .i64 5,.bool false,.string (BA []),.slice none 0 0,.slice none 0 0,.slice none 0 0,.slice none 0 0]):=jd (k5.heap B4.o (fun h=>h))
  have HK5:Hid (Kept (fun _=>False) w w5):=jd (HK4.o.trans k5 (fun _ _ h=>h))
  have PR5:Hid (NBx w5 w.heap.size zN):=jd (k5.heap PR4.o (fun h=>h))
  have HE5:Hid (bW w5∧lP w5):=jd ⟨HE.o.au HK5.o,HSE.o.kept HK5.o (fun h=>h)⟩
  clear k5 HKI HK4 PR4 HR4 B4 K34
  go_upto_if 26 with fail
  go_cut [] (fun wx=>PaS T w s g b7 wx)
  case first=>
   by_cases hk0:ag p0=0
   ·have d1:((ag p0:Int) !=0)=false:=by rw[hk0];rfl
    have d2:(ag p0 !=0)=false:=by rw[hk0];rfl
    obtain⟨nd,hnd⟩:∃nd,ndK 5 []=nd:=⟨_,rfl⟩
    have HRR:Hid (∀x:Except Nat Nd,x=(if eP p0≠0 then .error (eP p0) else if 512<(aK nd).length∨(aK nd).any (fun m=>decide (256<m.ws.length))=true then .error 7 else if fE nd=false then .error 3 else .ok nd)→Reads s x):=jd (fun x hx=>by
     unfold Reads
     rw[HLT.o]
     exact⟨nd,p0,by rw[HP0.o,Jt hk0];exact⟨hnd.symm,rfl⟩,hx⟩)
    have HSN:Hid (SmN nd):=jd (by
     rw[←hnd]
     have h1:jn (ndK 5 []):=fl (fun x hx=>by cases hx)
     exact⟨by decide,by decide,DK h1 (by decide),fun _ _=>by decide⟩)
    have HVS:Hid (NAt w5 (fun i=>w.heap.size+1≤i∧i≠b7∧i≠g) (.agg #[.int .i64 5,.bool false,.string (BA []),.slice none 0 0,.slice none 0 0,.slice none 0 0,.slice none 0 0]) nd):=jd (by rw[←hnd];exact NAt.shut (n:=ndK 5 []) (bT.nil _ _) (bT.nil _ _) (bT.nil _ _) (bJ.nil _ _))
    clear hk0 hnd hrl
    obtain⟨kq,hkq⟩:∃kq,ag p0=kq:=⟨_,rfl⟩
    rw[hkq] at d1 d2⊢
    clear hkq
    go_wp2_with fail
    go_meet
    exact⟨nd,p0,_,_,_,_,_,_,_,_,_,_,_,_,_,_,_,B5.o,HR5.o,HK5.o,PR5.o,HVS.o,HSN.o,HRR.o⟩
   ·have d1:((ag p0:Int) !=0)=true:=by simp[bne];omega
    have d2:(ag p0 !=0)=true:=by simp[bne];exact hk0
    rw[Js hk0] at hrl
    obtain⟨nd,st,p,hrun⟩:=hrl
    have HRR:Hid (∀x:Except Nat Nd,x=(if eP p≠0 then .error (eP p) else if 512<(aK nd).length∨(aK nd).any (fun m=>decide (256<m.ws.length))=true then .error 7 else if fE nd=false then .error 3 else .ok nd)→Reads s x):=jd (fun x hx=>by
     unfold Reads
     rw[HLT.o]
     exact⟨nd,p,by rw[HP0.o,Js hk0];exact⟨st,hrun⟩,hx⟩)
    have HSN:Hid (SmN nd):=jd (by obtain⟨k,hk⟩:=hrun;exact CQ hk HSM0.o rfl rfl)
    have HLI:=jd (xF T w5 g 0 p0 ⟨[nd],st,p⟩ hrun HR5.o HE5.o.1 HGN.o HTB.o)
    obtain⟨kq,hkq⟩:∃kq,ag p0=kq:=⟨_,rfl⟩
    rw[hkq] at d1 d2⊢
    clear hk0 hkq hrun
    go_wp2_with fail
    refine HLI.o.mono ?_
    rintro e w6 ⟨v,nd',hns,rfl,hv,r6,k6⟩
    obtain rfl:nd=nd':=by cases hns;rfl
    obtain⟨vk,vb,vn,aa,an,ac,wa,wn,wcp,ra,rn,rc,ka,kn,kc,rfl⟩:=hv.agg
    have hz6:=k6.size
    have hb75:b7<w5.heap.size:=av B5.o
    have B6:=k6.heap B5.o (fun e=>by have e':b7=g:=e;omega)
    obtain⟨⟨y0,y1,y2,y3,y4,y5,y6⟩,z0,z1,z2,z3,z4,z5,z6⟩:=NBx.cells B6
    have hblt:b7<w6.heap.size:=av B6
    have KB:Hid (Kept (fun i=>i=b7) w6 (st7 w6 b7 (.int .i64 vk) (.bool vb) (.string (BA vn)) (.slice aa an ac) (.slice wa wn wcp) (.slice ra rn rc) (.slice ka kn kc))):=jd (bu (Ja (fun i=>i=b7) w6) (fun _=>rfl) _ _ _ _ _ _ _)
    have BB:=jd (bS B6 (.int .i64 vk) (.bool vb) (.string (BA vn)) (.slice aa an ac) (.slice wa wn wcp) (.slice ra rn rc) (.slice ka kn kc))
    obtain⟨wS,hwS⟩:∃W,st7 w6 b7 (.int .i64 vk) (.bool vb) (.string (BA vn)) (.slice aa an ac) (.slice wa wn wcp) (.slice ra rn rc) (.slice ka kn kc)=W:=⟨_,rfl⟩
    have HWS:=jd hwS
    rw[hwS] at KB BB
    have K56:Hid (Kept (fun i=>i=g∨i=b7) w5 wS):=jd ((k6.mono (S':=fun i=>i=g∨i=b7) (fun _ _ h=>.inl h)).trans KB.o (fun _ _ h=>.inr h))
    have HVS:Hid (NAt wS (fun i=>w.heap.size+1≤i∧i≠b7∧i≠g) (.agg #[.int .i64 vk,.bool vb,.string (BA vn),.slice aa an ac,.slice wa wn wcp,.slice ra rn rc,.slice ka kn kc]) nd):=jd ((hv.mono (G:=fun i=>w.heap.size+1≤i∧i≠b7∧i≠g) (fun i h1 h2=>by have h2':w5.heap.size≤i:=h2;omega)).kept KB.o (fun i hi e=>hi.2.1 e))
    have HRS:Hid (RP T wS g 0 p):=jd (by
     obtain⟨a,h1,h2⟩:=r6
     exact⟨a,h1,h2.kept KB.o (fun e=>by have e':g=b7:=e;omega) (fun i hi e=>by have e':i=b7:=e;have:=HTB.o i hi;omega)⟩)
    have HKS:Hid (Kept (fun _=>False) w wS):=jd (HK5.o.trans K56.o (fun i hi e=>by rcases e with e|e<;>omega))
    have PRS:Hid (NBx wS w.heap.size zN):=jd (K56.o.heap PR5.o (fun e=>by rcases e with e|e<;>omega))
    clear hwS hv r6 k6 HLI hns hb75 B6
    go_wp2_with fail
    have hwS:=HWS.o
    simp only[st7] at hwS
    rw[hwS]
    go_meet
    exact⟨nd,p,_,_,_,_,_,_,_,_,_,_,_,_,_,_,_,BB.o,HRS.o,HKS.o,PRS.o,HVS.o,HSN.o,HRR.o⟩
  case rest=>
   obtain⟨nd,p,vk,vb,vn,aa,an,ac,wa,wn,wcp,ra,rn,rc,ka,kn,kc,h1,h2,h3,h4,h5,h6,h7⟩:=hcut
   have BB:=jd h1;have HRS:=jd h2;have HKS:=jd h3;have PRS:=jd h4;have HVS:=jd h5;have HSN:=jd h6;have HRR:=jd h7
   clear h1 h2 h3 h4 h5 h6 h7 hrl HR5 B5 HK5 PR5 HE5
   have HKK:=jd (cX T wc g 0 p HRS.o)
   go_wp2_with fail
   refine HKK.o.mono ?_
   rintro e wQ ⟨rfl,kQ⟩
   have HRQ:Hid (RP T wQ g 0 p):=jd (HRS.o.au kQ)
   have BQ:Hid (NBx wQ b7 #[.int .i64 vk,.bool vb,.string (BA vn),.slice aa an ac,.slice wa wn wcp,.slice ra rn rc,.slice ka kn kc]):=jd (kQ.heap BB.o (fun h=>h))
   have HKQ:Hid (Kept (fun _=>False) w wQ):=jd (HKS.o.trans kQ (fun _ _ h=>h))
   have PRQ:Hid (NBx wQ w.heap.size zN):=jd (kQ.heap PRS.o (fun h=>h))
   have HVQ:Hid (NAt wQ (fun i=>w.heap.size+1≤i∧i≠b7∧i≠g) (.agg #[.int .i64 vk,.bool vb,.string (BA vn),.slice aa an ac,.slice wa wn wcp,.slice ra rn rc,.slice ka kn kc]) nd):=jd (HVS.o.kept kQ (fun _ _ h=>h))
   clear kQ HKK
   obtain⟨ec,hec⟩:∃ec,eP p=ec:=⟨_,rfl⟩
   rw[hec] at HRR
   have HEC:=jd hec
   clear hec
   go_upto_if 34 with fail
   go_cut [] (fun wx=>(∃q:Ps,RP T wx g 0 q∧q.e=ec)∧NBx wx b7 #[.int .i64 vk,.bool vb,.string (BA vn),.slice aa an ac,.slice wa wn wcp,.slice ra rn rc,.slice ka kn kc]∧Kept (fun _=>False) w wx∧NBx wx w.heap.size zN∧NAt wx (fun i=>w.heap.size+1≤i∧i≠b7∧i≠g) (.agg #[.int .i64 vk,.bool vb,.string (BA vn),.slice aa an ac,.slice wa wn wcp,.slice ra rn rc,.slice ka kn kc]) nd)
   case first=>
    by_cases hkp:ag p=0
    ·have d3:((ag p:Int) !=0)=false:=by rw[hkp];rfl
     have d4:(ag p !=0)=false:=by rw[hkp];rfl
     have HEC2:Hid (p.e=ec):=jd (by rw[←HEC.o];unfold eP;rw[Jt hkp])
     obtain⟨kq2,hkq2⟩:∃kq,ag p=kq:=⟨_,rfl⟩
     rw[hkq2] at d3 d4⊢
     clear hkp hkq2
     go_wp2_with fail
     go_meet
     exact⟨⟨p,HRQ.o,HEC2.o⟩,BQ.o,HKQ.o,PRQ.o,HVQ.o⟩
    ·have d3:((ag p:Int) !=0)=true:=by simp[bne];omega
     have d4:(ag p !=0)=true:=by simp[bne];exact hkp
     have HEC2:Hid ((bm p 5).e=ec):=jd (by rw[←HEC.o];unfold eP;rw[Js hkp];rfl)
     have HFA:=jd (dV T wQ g 0 p HRQ.o 5)
     obtain⟨kq2,hkq2⟩:∃kq,ag p=kq:=⟨_,rfl⟩
     rw[hkq2] at d3 d4⊢
     clear hkp hkq2
     go_wp2_with fail
     refine HFA.o.mono ?_
     rintro e wT ⟨rfl,rT,kT⟩
     have KT:=jd kT;have RT:=jd rT
     clear rT kT HFA
     go_wp2_with fail
     go_meet
     exact⟨⟨bm p 5,RT.o,HEC2.o⟩,KT.o.heap BQ.o (fun e=>by have e':b7=g:=e;omega),HKQ.o.trans KT.o (fun i hi e=>by have e':i=g:=e;omega),KT.o.heap PRQ.o (fun e=>by have e':w.heap.size=g:=e;omega),HVQ.o.kept KT.o (fun i hi e=>hi.2.2 e)⟩
   case rest=>
    clear HRQ BQ HKQ PRQ HVQ HEC
    obtain⟨h1,h2,h3,h4,h5⟩:=hcut
    have HRX:=jd h1;have BQ:=jd h2;have HKQ:=jd h3;have PRQ:=jd h4;have HVQ:=jd h5
    clear h1 h2 h3 h4 h5
    obtain⟨wT,hwT⟩:∃wT,wc=wT:=⟨_,rfl⟩
    subst hwT
    obtain⟨q9,hq9,hqe⟩:=HRX.o
    obtain⟨at9,hd9,hr9⟩:=hq9
    obtain⟨⟨r0,r1,r2,r3⟩,-⟩:=hr9.cells
    rw[hqe] at r3
    have HRA9:=jd hr9;have HQE:=jd hqe
    have hgT:=hr9.lt
    clear hd9 hr9 hqe r0 r1 r2 HRX
    by_cases hec0:ec=0
    ·have d5:((ec:Int) !=0)=false:=by rw[hec0];rfl
     have d6:(ec !=0)=false:=by rw[hec0];rfl
     have HRR2:Hid (∀x:Except Nat Nd,x=(if 512<(aK nd).length∨(aK nd).any (fun m=>decide (256<m.ws.length))=true then .error 7 else if fE nd=false then .error 3 else .ok nd)→Reads s x):=jd (fun x hx=>HRR.o x (by rw[Js (fun h=>h hec0)];exact hx))
     obtain⟨ei,hei⟩:∃ei:Int,(ec:Int)=ei:=⟨_,rfl⟩
     rw[hei] at d5 r3
     clear hei hec0 HRR
     obtain⟨tb,htb⟩:∃tb,wc.heap.size=tb:=⟨_,rfl⟩
     obtain⟨wU,hwU⟩:∃wU,wc.alloc (.cells #[.int .i64 0] 3)=wU:=⟨_,rfl⟩
     have KU:Hid (Kept (fun _=>False) wc wU):=jd (by rw[←hwU];exact(Ja _ wc).alloc _)
     have BU:Hid (wU.heap[tb]? =some (.cells #[.int .i64 ((0:Nat):Int)] 3 (0,0))):=jd (by rw[←htb,←hwU];exact heap_alloc wc _)
     have HVT:Hid (NAt wc (fun i=>(w.heap.size+1≤i∧i≠b7∧i≠g)∧i<tb) (.agg #[.int .i64 vk,.bool vb,.string (BA vn),.slice aa an ac,.slice wa wn wcp,.slice ra rn rc,.slice ka kn kc]) nd):=jd (HVQ.o.mono (fun i h1 h2=>⟨h2,by omega⟩))
     have HVU:=jd (HVT.o.kept KU.o (fun _ _ h=>h))
     have HWK:=jd (AT wU _ _ nd tb 0 HVU.o (fun i hi e=>by have:=hi.2;omega) BU.o)
     obtain⟨⟨y0,y1,y2,y3,y4,y5,y6⟩,-⟩:=NBx.cells BQ.o
     have hbT:b7<wc.heap.size:=av BQ.o
     have HWU:=jd hwU;have HTB9:=jd htb
     clear hwU htb
     go_wp2_with fail
     rw[HWU.o,HTB9.o]
     refine HWK.o.mono ?_
     rintro e wV ⟨rfl,hbV,kV⟩
     have htbT:tb=wc.heap.size:=HTB9.o.symm
     have hzU:wU.heap.size=tb+1:=by rw[←HWU.o,World.size_alloc,htbT]
     have KV:Hid (Kept (fun i=>i=tb) wc wV):=jd ((KU.o.mono (S':=fun i=>i=tb) (fun _ _ h=>h.elim)).trans kV (fun _ _ h=>h))
     have BV:Hid (NBx wV b7 #[.int .i64 vk,.bool vb,.string (BA vn),.slice aa an ac,.slice wa wn wcp,.slice ra rn rc,.slice ka kn kc]):=jd (KV.o.heap BQ.o (fun e=>by have e':b7=tb:=e;omega))
     have HVV:Hid (NAt wV (fun i=>(w.heap.size+1≤i∧i≠b7∧i≠g)∧i<tb) (.agg #[.int .i64 vk,.bool vb,.string (BA vn),.slice aa an ac,.slice wa wn wcp,.slice ra rn rc,.slice ka kn kc]) nd):=jd (HVT.o.kept KV.o (fun i hi e=>by have:=hi.2;have e':i=tb:=e;omega))
     have HTV:=jd hbV
     have hzw:w.heap.size<wc.heap.size:=av PRQ.o
     have HKV:Hid (Kept (fun _=>False) w wV):=jd (HKQ.o.trans KV.o (fun i hi e=>by have e':i=tb:=e;omega))
     have PRV:Hid (NBx wV w.heap.size zN):=jd (KV.o.heap PRQ.o (fun e=>by have e':w.heap.size=tb:=e;omega))
     have htbV:tb<wV.heap.size:=av HTV.o
     clear htbT hzU
     have HCN:=jd (tm wV _ _ nd HVV.o (fun i hi=>by have:=hi.2;omega) HSN.o.len)
     obtain⟨cn,hcn⟩:∃cn,(aK nd).length=cn:=⟨_,rfl⟩
     obtain⟨mx,hmx⟩:∃mx,mxW 0 (aK nd)=mx:=⟨_,rfl⟩
     have HMX:Hid (decide (256<mx)=(aK nd).any fun m=>decide (256<m.ws.length)):=jd (by rw[←hmx,Dj];simp)
     have HCC:=jd hcn
     rw[hcn] at HCN
     rw[hmx] at HTV
     clear y0 y1 y2 y3 y4 y5 y6 hbV kV hcn hmx HWK HVU HVQ HVT BU KU r3 hbT HWU
     obtain⟨⟨y0,y1,y2,y3,y4,y5,y6⟩,-⟩:=NBx.cells BV.o
     have hbV:b7<wV.heap.size:=av BV.o
     go_wp2_with fail
     refine HCN.o.mono ?_
     rintro e wW ⟨rfl,kW⟩
     have BW:Hid (NBx wW b7 #[.int .i64 vk,.bool vb,.string (BA vn),.slice aa an ac,.slice wa wn wcp,.slice ra rn rc,.slice ka kn kc]):=jd (kW.heap BV.o (fun h=>h))
     have HVW:=jd (HVV.o.kept kW (fun _ _ h=>h))
     have HTW:=kW.heap HTV.o (fun h=>h)
     have HKN:Hid (Kept (fun _=>False) w wW):=jd (HKV.o.trans kW (fun _ _ h=>h))
     have PRN:Hid (NBx wW w.heap.size zN):=jd (kW.heap PRV.o (fun h=>h))
     have hzW:=kW.size
     have t0:=aB HTW 0
     have hltb:tb<wW.heap.size:=av HTW
     clear y0 y1 y2 y3 y4 y5 y6 kW HTW HCN hbV BV HVV HTV HKV PRV
     by_cases hbig:512<cn
     ·have q1:decide ((cn:Int)>512)=true:=Jc (by omega)
      have q2:decide (512<cn)=true:=Jc hbig
      have HX7:Hid (Reads s (.error 7)):=jd (HRR2.o _ (by rw[Jt (.inl (by rw[HCC.o];exact hbig))]))
      clear hbig
      obtain⟨⟨c0,c1,c2,c3,c4,c5,c6⟩,f0,f1,f2,f3,f4,f5,f6⟩:=NBx.cells PRN.o
      have hltN:w.heap.size<wW.heap.size:=av PRN.o
      have K7:Hid (Kept (fun i=>i=w.heap.size) wW (st7 wW w.heap.size (.int .i64 0) (.bool false) (.string ⟨#[]⟩) (.slice none 0 0) (.slice none 0 0) (.slice none 0 0) (.slice none 0 0))):=jd (bu (Ja (fun i=>i=w.heap.size) wW) (fun _=>rfl) _ _ _ _ _ _ _)
      have B7:=jd (bS PRN.o (.int .i64 0) (.bool false) (.string ⟨#[]⟩) (.slice none 0 0) (.slice none 0 0) (.slice none 0 0) (.slice none 0 0))
      go_wp2_with fail
      obtain⟨wF,hwF⟩:∃W,st7 wW w.heap.size (.int .i64 0) (.bool false) (.string ⟨#[]⟩) (.slice none 0 0) (.slice none 0 0) (.slice none 0 0) (.slice none 0 0)=W:=⟨_,rfl⟩
      rw[hwF] at K7 B7
      have hwF':=hwF
      simp only[st7] at hwF'
      rw[hwF']
      clear hwF hwF' c0 c1 c2 c3 c4 c5 c6
      obtain⟨⟨z0,z1,z2,z3,z4,z5,z6⟩,-⟩:=NBx.cells B7.o
      refine bodyPost_ret (v:= .tuple #[.agg #[.int .i64 0,.bool false,.string ⟨#[]⟩,.slice none 0 0,.slice none 0 0,.slice none 0 0,.slice none 0 0],.int .i64 (7:Int)]) (by simp[results,go_sem,z0,z1,z2,z3,z4,z5,z6]) rfl ?_
      exact⟨.error 7,HX7.o,rfl,HKN.o.trans K7.o (fun i hi e=>by have e':i=w.heap.size:=e;omega)⟩
     ·have q1:decide ((cn:Int)>512)=false:=Jd (by omega)
      have q2:decide (512<cn)=false:=Jd hbig
      by_cases hmx9:256<mx
      ·have q3:decide ((mx:Int)>256)=true:=Jc (by omega)
       have q4:decide (256<mx)=true:=Jc hmx9
       have HX7:Hid (Reads s (.error 7)):=jd (HRR2.o _ (by rw[Jt (.inr (by rw[←HMX.o];exact q4))]))
       clear hbig hmx9
       obtain⟨⟨c0,c1,c2,c3,c4,c5,c6⟩,f0,f1,f2,f3,f4,f5,f6⟩:=NBx.cells PRN.o
       have hltN:w.heap.size<wW.heap.size:=av PRN.o
       have K7:Hid (Kept (fun i=>i=w.heap.size) wW (st7 wW w.heap.size (.int .i64 0) (.bool false) (.string ⟨#[]⟩) (.slice none 0 0) (.slice none 0 0) (.slice none 0 0) (.slice none 0 0))):=jd (bu (Ja (fun i=>i=w.heap.size) wW) (fun _=>rfl) _ _ _ _ _ _ _)
       have B7:=jd (bS PRN.o (.int .i64 0) (.bool false) (.string ⟨#[]⟩) (.slice none 0 0) (.slice none 0 0) (.slice none 0 0) (.slice none 0 0))
       go_wp2_with fail
       obtain⟨wF,hwF⟩:∃W,st7 wW w.heap.size (.int .i64 0) (.bool false) (.string ⟨#[]⟩) (.slice none 0 0) (.slice none 0 0) (.slice none 0 0) (.slice none 0 0)=W:=⟨_,rfl⟩
       rw[hwF] at K7 B7
       have hwF':=hwF
       simp only[st7] at hwF'
       rw[hwF']
       clear hwF hwF' c0 c1 c2 c3 c4 c5 c6
       obtain⟨⟨z0,z1,z2,z3,z4,z5,z6⟩,-⟩:=NBx.cells B7.o
       refine bodyPost_ret (v:= .tuple #[.agg #[.int .i64 0,.bool false,.string ⟨#[]⟩,.slice none 0 0,.slice none 0 0,.slice none 0 0,.slice none 0 0],.int .i64 (7:Int)]) (by simp[results,go_sem,z0,z1,z2,z3,z4,z5,z6]) rfl ?_
       exact⟨.error 7,HX7.o,rfl,HKN.o.trans K7.o (fun i hi e=>by have e':i=w.heap.size:=e;omega)⟩
      ·have q3:decide ((mx:Int)>256)=false:=Jd (by omega)
       have q4:decide (256<mx)=false:=Jd hmx9
       have HRR3:Hid (∀x:Except Nat Nd,x=(if fE nd=false then .error 3 else .ok nd)→Reads s x):=jd (fun x hx=>HRR2.o x (by rw[Js (fun h=>h.elim (fun h=>hbig (by rw[←HCC.o];exact h)) (fun h=>by rw[←HMX.o,q4] at h;cases h))];exact hx))
       have HMY:=jd (vo wW _ _ nd HVW.o (fun i hi=>by have:=hi.2;omega) HSN.o.len HSN.o.sz (HE.o.au HKN.o) (HSE.o.kept HKN.o (fun h=>h)) HSN.o.ok HSN.o.tx)
       obtain⟨my,hmy⟩:∃my,fE nd=my:=⟨_,rfl⟩
       rw[hmy] at HMY HRR3
       obtain⟨⟨y0,y1,y2,y3,y4,y5,y6⟩,-⟩:=NBx.cells BW.o
       have hbW:b7<wW.heap.size:=av BW.o
       clear hbig hmx9 hmy
       go_wp2_with fail
       refine HMY.o.mono ?_
       rintro e wN ⟨rfl,kN⟩
       have KNN:=jd kN
       have BN:=jd (kN.heap BW.o (fun h=>h))
       have HVN:=jd (HVW.o.kept kN (fun _ _ h=>h))
       replace HKN:Hid (Kept (fun _=>False) w wN):=jd (HKN.o.trans kN (fun _ _ h=>h))
       replace PRN:Hid (NBx wN w.heap.size zN):=jd (kN.heap PRN.o (fun h=>h))
       clear y0 y1 y2 y3 y4 y5 y6 kN HMY t0
       cases my with
       |false=>
        have HX3:Hid (Reads s (.error 3)):=jd (HRR3.o _ (by rw[Jt rfl]))
        obtain⟨⟨c0,c1,c2,c3,c4,c5,c6⟩,f0,f1,f2,f3,f4,f5,f6⟩:=NBx.cells PRN.o
        have hltN:w.heap.size<wN.heap.size:=av PRN.o
        have K7:Hid (Kept (fun i=>i=w.heap.size) wN (st7 wN w.heap.size (.int .i64 0) (.bool false) (.string ⟨#[]⟩) (.slice none 0 0) (.slice none 0 0) (.slice none 0 0) (.slice none 0 0))):=jd (bu (Ja (fun i=>i=w.heap.size) wN) (fun _=>rfl) _ _ _ _ _ _ _)
        have B7:=jd (bS PRN.o (.int .i64 0) (.bool false) (.string ⟨#[]⟩) (.slice none 0 0) (.slice none 0 0) (.slice none 0 0) (.slice none 0 0))
        go_wp2_with fail
        obtain⟨wF,hwF⟩:∃W,st7 wN w.heap.size (.int .i64 0) (.bool false) (.string ⟨#[]⟩) (.slice none 0 0) (.slice none 0 0) (.slice none 0 0) (.slice none 0 0)=W:=⟨_,rfl⟩
        rw[hwF] at K7 B7
        have hwF':=hwF
        simp only[st7] at hwF'
        rw[hwF']
        clear hwF hwF' c0 c1 c2 c3 c4 c5 c6
        obtain⟨⟨z0,z1,z2,z3,z4,z5,z6⟩,-⟩:=NBx.cells B7.o
        refine bodyPost_ret (v:= .tuple #[.agg #[.int .i64 0,.bool false,.string ⟨#[]⟩,.slice none 0 0,.slice none 0 0,.slice none 0 0,.slice none 0 0],.int .i64 (3:Int)]) (by simp[results,go_sem,z0,z1,z2,z3,z4,z5,z6]) rfl ?_
        exact⟨.error 3,HX3.o,rfl,HKN.o.trans K7.o (fun i hi e=>by have e':i=w.heap.size:=e;omega)⟩
       |true=>
        have HXO:Hid (Reads s (.ok nd)):=jd (HRR3.o _ (by rw[Js (by decide)]))
        obtain⟨⟨c0,c1,c2,c3,c4,c5,c6⟩,f0,f1,f2,f3,f4,f5,f6⟩:=NBx.cells PRN.o
        obtain⟨⟨y0,y1,y2,y3,y4,y5,y6⟩,-⟩:=NBx.cells BN.o
        have hltN:w.heap.size<wN.heap.size:=av PRN.o
        have K7:Hid (Kept (fun i=>i=w.heap.size) wN (st7 wN w.heap.size (.int .i64 vk) (.bool vb) (.string (BA vn)) (.slice aa an ac) (.slice wa wn wcp) (.slice ra rn rc) (.slice ka kn kc))):=jd (bu (Ja (fun i=>i=w.heap.size) wN) (fun _=>rfl) _ _ _ _ _ _ _)
        have B7:=jd (bS PRN.o (.int .i64 vk) (.bool vb) (.string (BA vn)) (.slice aa an ac) (.slice wa wn wcp) (.slice ra rn rc) (.slice ka kn kc))
        go_wp2_with fail
        obtain⟨wF,hwF⟩:∃W,st7 wN w.heap.size (.int .i64 vk) (.bool vb) (.string (BA vn)) (.slice aa an ac) (.slice wa wn wcp) (.slice ra rn rc) (.slice ka kn kc)=W:=⟨_,rfl⟩
        rw[hwF] at K7 B7
        have hwF':=hwF
        simp only[st7] at hwF'
        rw[hwF']
        clear hwF hwF' c0 c1 c2 c3 c4 c5 c6 y0 y1 y2 y3 y4 y5 y6
        obtain⟨⟨z0,z1,z2,z3,z4,z5,z6⟩,-⟩:=NBx.cells B7.o
        refine bodyPost_ret (v:= .tuple #[.agg #[.int .i64 vk,.bool vb,.string (BA vn),.slice aa an ac,.slice wa wn wcp,.slice ra rn rc,.slice ka kn kc],.int .i64 0]) (by simp[results,go_sem,z0,z1,z2,z3,z4,z5,z6]) rfl ?_
        exact⟨.ok nd,HXO.o,⟨_,rfl,(HVN.o.kept K7.o (fun i hi e=>by have e':i=w.heap.size:=e;have:=hi.1.1;omega)).mono (fun i _ hi=>by have:=hi.1.1;omega),HSN.o⟩,HKN.o.trans K7.o (fun i hi e=>by have e':i=w.heap.size:=e;omega)⟩
    ·have d5:((ec:Int) !=0)=true:=by simp[bne];omega
     have d6:(ec !=0)=true:=by simp[bne];exact hec0
     have HXE:Hid (Reads s (.error ec)):=jd (HRR.o _ (by rw[Jt hec0]))
     have PRT:=PRQ
     clear hec0 HRR
     go_wp2_with fail
     refine gP 6 [5] (fun(_:Nat) w'=>Kept (fun i=>i=w.heap.size) wc w'∧NBx w' w.heap.size zN) (Kept fun i=>i=w.heap.size) [rV (.agg #[.int .i64 0,.bool false,.string ⟨#[]⟩,.slice none 0 0,.slice none 0 0,.slice none 0 0,.slice none 0 0]),rV (.pointer (some ⟨g,0,none⟩)),rV (.pointer (some ⟨g,0,none⟩)),rV (.pointer (some ⟨g,3,none⟩)),rV (.int .i64 (ec:Int)),rV undef] (by kernel_rfl) (by kernel_rfl) ?_ ?_ ?_
     case refine_1=>exact⟨(Ja _ _).drew,((Ja (fun _=>False) wc).drew).heap PRT.o (fun h=>h)⟩
     case refine_2=>
      iterate 5
       refine eO (by decide) (fun s a' w' hI hag hf K hK=>?_) ?_
       ·obtain⟨⟨_,h0,rfl⟩,-⟩:=hf
        have s6:=hag.same 6 (by decide)
        clear hag
        have RX:=HRA9.o.kept hI.1 (fun e=>by have e':g=w.heap.size:=e;omega) (fun i hi e=>by have e':i=w.heap.size:=e;have h1:=HTB.o i hi;have:=HTW9.o i hi;omega)
        obtain⟨⟨-,-,-,r3⟩,-⟩:=RX.cells
        rw[HQE.o] at r3
        clear RX
        go_wp2_with fail
        exact hK _ _ hI (Ja _ _) rfl
      refine mn 0 rfl (fun a' w' hI hag hf K hK=>?_) ?_
      ·obtain⟨⟨_,h0,rfl⟩,-⟩:ah _ _ a' w' [0]:=hf
       have s2:=hag.same 2 (by decide)
       clear hag
       have HI:=jd hI
       obtain⟨⟨c0,c1,c2,c3,c4,c5,c6⟩,f0,f1,f2,f3,f4,f5,f6⟩:=NBx.cells hI.2
       have hltN:w.heap.size<w'.heap.size:=av hI.2
       clear hI
       go_wp2_with fail
       exact hK _ _ ⟨bu HI.o.1 (fun _=>rfl) (.int .i64 0) (.bool false) (.string ⟨#[]⟩) (.slice none 0 0) (.slice none 0 0) (.slice none 0 0) (.slice none 0 0),bS HI.o.2 (.int .i64 0) (.bool false) (.string ⟨#[]⟩) (.slice none 0 0) (.slice none 0 0) (.slice none 0 0) (.slice none 0 0)⟩ (bu (Ja (fun i=>i=w.heap.size) w') (fun _=>rfl) (.int .i64 0) (.bool false) (.string ⟨#[]⟩) (.slice none 0 0) (.slice none 0 0) (.slice none 0 0) (.slice none 0 0)) rfl
      exact trivial
     case refine_3=>
      intro vs wq hI hvs
      simp only[pzz,aW,Act.put,Nat.reduceAdd,rpv (hvs 0 _ _ rfl rfl) rfl,rpv (hvs 1 _ _ rfl rfl) rfl,rpv (hvs 2 _ _ rfl rfl) rfl,rpv (hvs 3 _ _ rfl rfl) rfl,rpv (hvs 4 _ _ rfl rfl) rfl]
      clear hvs
      have HI:=jd hI
      clear hI
      go_wp2_with fail
      obtain⟨⟨z0,z1,z2,z3,z4,z5,z6⟩,-⟩:=NBx.cells HI.o.2
      refine bodyPost_ret (v:= .tuple #[.agg #[.int .i64 0,.bool false,.string ⟨#[]⟩,.slice none 0 0,.slice none 0 0,.slice none 0 0,.slice none 0 0],.int .i64 (ec:Int)]) (by simp[results,go_sem,z0,z1,z2,z3,z4,z5,z6]) rfl ?_
      exact⟨.error ec,HXE.o,rfl,HKQ.o.trans HI.o.1 (fun i hi e=>by have e':i=w.heap.size:=e;omega)⟩
