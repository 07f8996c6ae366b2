import Derived.Test.YtgigdlhcjahejaaGreatDoorF24
import Derived.Test.YtgigdlhcjahejaaGreatDoorF25
set_option linter.all false
set_option maxHeartbeats 400000000
namespace Go.Proofs.YtgigdlhcjahejaaGreatDoor
open Go Go.RowKit Go.Lw
set_option maxRecDepth 100000
attribute [local go_sem] aA
theorem BL {S:Nat→Prop} {w w':World} (h:Kept S w w') {b j:Nat} (hb:¬S b) (v:Value):Kept S (w.setCell ⟨b,j,none⟩ v) (w'.setCell ⟨b,j,none⟩ v):=by
 refine⟨h.os,h.tape,h.output,?_,fun k hk hS=>?_⟩
 ·have:=h.size
  simpa[World.setCell] using this
 ·have hk':k<w.heap.size:=by simpa[World.setCell] using hk
  have e:=h.block k hk' hS
  simp only[World.setCell,Array.getElem?_modify]
  split
  ·rename_i e2
   rw[e]
  ·exact e
def GNe (g:Nat):Prop:=1≠g∧4≠g∧5≠g∧3≠g∧2≠g∧0≠g
theorem bW.dz {w w':World} {g:Nat} (h:bW w) (k:Kept (fun i=>i=g) w w') (hg:GNe g):bW w':=h.kept k hg.1 hg.2.1 hg.2.2.1 hg.2.2.2.1 hg.2.2.2.2.1
theorem dm.dz {w w':World} {g:Nat} (h:dm w) (k:Kept (fun i=>i=g) w w') (hg:GNe g):dm w':=h.kept k hg.1 hg.2.1 hg.2.2.1
structure RdI (wr:World) (T:TT) (g d:Nat) (p1:Ps) (lo b:Nat) (cs:Array Value) (s:Nat) (w':World):Prop where
 k0:s=0→Kept (fun _=>False) wr w'
 k1:s≤1→Kept (fun i=>i=g) wr w'
 p:1≤s→RP T w' g d p1
 k:Kept (fun i=>i=g∨lo≤i) wr w'
 box:NBx w' b cs
theorem RdI.start {wr:World} {T:TT} {g d:Nat} {p1:Ps} {lo b:Nat} {cs:Array Value} (h:NBx wr b cs):RdI wr T g d p1 lo b cs 0 wr.drew:=
 ⟨fun _=>(Ja _ wr).drew,fun _=>(Ja _ wr).drew,fun h=>absurd h (by decide),(Ja _ wr).drew,((Ja (fun _=>False) wr).drew).heap h (fun h=>h)⟩
theorem RdI.call {wr w' w'':World} {T:TT} {g d:Nat} {p1:Ps} {lo b:Nat} {cs:Array Value} (h:RdI wr T g d p1 lo b cs 0 w') (hk:Kept (fun i=>i=g) w' w'') (hp:RP T w'' g d p1) (hb:b≠g):RdI wr T g d p1 lo b cs 1 w'':=
 ⟨fun h=>(by cases h),fun _=>(h.k1 (Ju _)).trans hk (fun _ _ h=>h),fun _=>hp,h.k.trans hk (fun i _ e=>.inl e),hk.heap h.box hb⟩
theorem RdI.app {wr w' w'':World} {T:TT} {g d:Nat} {p1:Ps} {lo b:Nat} {cs:Array Value} {v:Value} (h:RdI wr T g d p1 lo b cs 1 w') (hk:Kept (blk v) w' w'') (hv:∀i,blk v i→lo≤i∧i≠b) (hg:g<lo) (ht:∀i,blk T.v i→i<lo):RdI wr T g d p1 lo b cs 2 w'':=
 ⟨fun h=>(by cases h),fun h=>absurd h (by decide),fun _=>(by
  obtain⟨a,h1,h2⟩:=h.p (Jb _)
  exact⟨a,h1,h2.kept hk (fun e=>by have:=(hv _ e).1;omega) (fun i hi e=>by have:=(hv i e).1;have:=ht i hi;omega)⟩),h.k.trans hk (fun i _ e=>.inr (hv i e).1),hk.heap h.box (fun e=>(hv _ e).2 rfl)⟩
theorem RdI.au {wr w' w'':World} {T:TT} {g d:Nat} {p1:Ps} {lo b:Nat} {cs:Array Value} {s:Nat} (h:RdI wr T g d p1 lo b cs s w') (hk:Kept (fun _=>False) w' w''):RdI wr T g d p1 lo b cs s w'':=
 ⟨fun e=>(h.k0 e).trans hk (fun _ _ h=>h),fun e=>(h.k1 e).trans hk (fun _ _ h=>h.elim),fun e=>(h.p e).au hk,h.k.trans hk (fun _ _ h=>h.elim),hk.heap h.box (fun h=>h)⟩
def rEl {α:Type} {At:World→(Nat→Prop)→Value→α→Prop} (hA:AtP At) (S G:Nat→Prop) (hG:∀i,G i→¬S i) (x:α):cT (Kept S):=⟨fun v w=>At w G v x,fun _ _ _ hk h=>hA.kept h hk hG⟩
def rBu {α:Type} {At:World→(Nat→Prop)→Value→α→Prop} (hA:AtP At) (B:Value→Value) (S G:Nat→Prop) (hG:∀i,G i→¬S i) (x:α):cT (Kept S):=⟨fun v w=>∃u,v=B u∧At w G u x,fun _ _ _ hk ⟨u,h1,h2⟩=>⟨u,h1,hA.kept h2 hk hG⟩⟩
def tS {α:Type} {At:World→(Nat→Prop)→Value→α→Prop} (hA:AtP At) (C:α×Value→List Value) (ty:TypeId) (S G:Nat→Prop) (hG:∀i,G i→¬S i) (x:α):cT (Kept S):=
 ⟨fun v w=>∃bb u,v= .slice (some ⟨bb,0,none⟩) 1 1∧G bb∧w.heap[bb]? =some (.cells (C (x,u)).toArray ty (0,0))∧At w G u x,fun _ _ _ hk ⟨bb,u,h1,h2,h3,h4⟩=>⟨bb,u,h1,h2,hk.heap h3 (hG bb h2),hA.kept h4 hk hG⟩⟩
theorem fs {α:Type} {C:α×Value→List Value} {w:World} {bb n:Nat} {ty:TypeId} {x:α} {u:Value} (h:w.heap[bb]? =some (.cells (C (x,u)).toArray ty (0,0))) (hn:(C (x,u)).length=n):Rd w n (.slice (some ⟨bb,0,none⟩) 1 1) 1 (C (x,u)):=by
 refine⟨by rw[hn];omega,_,_,rfl,Jb _,by unfold maxLen;omega,fun j v hj=>⟨bb,0,rfl,?_⟩⟩
 rw[Nat.zero_add,aB h j]
 simpa using hj
def jV (S:Nat→Prop) (b j:Nat) (hb:¬S b) (Pr:Value→World→Prop) (hP:∀v w w',Kept S w w'→Pr v w→Pr v w'):cT (Kept S):=
 ⟨fun v w=>Pr v (w.setCell ⟨b,j,none⟩ v),fun v w w' hk h=>hP v _ _ (BL hk hb v) h⟩
theorem nA {w:World} {F:Nat→Prop} {v:Value} {l:LP} (h:WAt w F v l):v.oneCell'=true:=by
 obtain⟨a,n,c,rfl⟩:=h.slice
 rfl
def uM (T:TT) (w:World) (g d lo b:Nat) (k:Int) (ng:Bool) (nm:LB) (va vw vk:Value) (al:List (LB×LP)) (ws:List LP) (rs:List (Int×LP)) (ks:List Nd) (p:Ps) (x:Ending) (w':World):Prop:=
 x= .returned (.bool (bf p).isSome)∧(∃vr' F',NB w' lo b F' k ng nm va vw vr' vk al ws (rs++((bf p).map (·.1)).toList) ks)∧RP T w' g d (((bf p).map (·.2)).getD p)∧Kept (fun i=>i=g∨lo≤i) w w'
theorem rZ (T:TT) (w:World) (g d lo b:Nat) (F:Nat→Prop) (k:Int) (ng:Bool) (nm:LB) (va vw vr vk:Value) (al:List (LB×LP)) (ws:List LP) (rs:List (Int×LP)) (ks:List Nd) (p:Ps)
  (h:RP T w g d p) (hE:dm w) (hN:NB w lo b F k ng nm va vw vr vk al ws rs ks) (hg:g<lo) (ht:∀i,blk T.v i→i<lo) (hr9:rs.length≤100000) (hgn:GNe g):
  Calls Tryz.prog 93 #[.pointer (some ⟨g,0,none⟩),.pointer (some ⟨b,0,none⟩)] w (uM T w g d lo b k ng nm va vw vk al ws rs ks p):=by
 have HK:=jd (cX T w g d p h)
 have HP:=jd h;have HE:=jd hE;have HN:=jd hN;have HG:=jd hg;have HTB:=jd ht
 have hlob:=hN.lob
 by_cases hk:ag p<7
 ·have hrd:bf p=none:=by unfold bf;rw[Jt hk]
  have HRD:=jd hrd
  have d1:decide ((ag p:Int)<7)=true:=Jc (by omega)
  have d2:decide (ag p<7)=true:=Jc hk
  obtain⟨kp,hkp⟩:∃kp,ag p=kp:=⟨_,rfl⟩
  rw[hkp] at d1 d2 HK
  clear hk hkp hrd h hE hN ht
  go_enter Tryz.func93,Tryz.ntmps93
  go_wp2_with fail
  refine HK.o.mono ?_
  rintro x w1 ⟨rfl,k1⟩
  have K1:=jd k1
  clear k1
  go_wp2_with fail
  go_ret
  unfold uM
  rw[HRD.o]
  exact⟨rfl,⟨vr,F,by simpa using HN.o.kept K1.o (fun _ _ h=>h)⟩,HP.o.au K1.o,K1.o.mono (fun _ _ h=>h.elim)⟩
 ·obtain⟨at_,hd,hr⟩:=h
  obtain⟨r,e⟩:=p
  cases r with
  |nil=>exact absurd (by decide:(0:Nat)<7) hk
  |cons t r=>
   obtain⟨ha,ht0,hd2⟩:=dc hd
   have hs:=hr.short
   have HR0:=jd hr;have HD2:=jd hd2;have HA:=jd ha
   have q1:at_≤2048:=by omega
   obtain⟨p,hp⟩:∃p,(⟨t::r,e⟩:Ps)=p:=⟨_,rfl⟩
   rw[hp] at hk HP HK⊢
   have htl:aJ p=⟨r,e⟩:=by rw[←hp];rfl
   have d1:decide ((ag p:Int)<7)=false:=Jd (by omega)
   have d2:decide (ag p<7)=false:=Jd hk
   have hrd:bf p=some (((ag p:Int),(aP ⟨r,e⟩).1),(aP ⟨r,e⟩).2):=by unfold bf;rw[Js hk,htl]
   obtain⟨kp,hkp⟩:∃kp,ag p=kp:=⟨_,rfl⟩
   rw[hkp] at d1 d2 HK hrd
   obtain⟨wl,hwl⟩:∃wl,(aP ⟨r,e⟩).1=wl:=⟨_,rfl⟩
   obtain⟨p1,hp1⟩:∃p1,(aP ⟨r,e⟩).2=p1:=⟨_,rfl⟩
   have HWP:=jd (fun wx (hx:RP T wx g d ⟨r,e⟩) (ex:dm wx)=>lJ T wx g d ⟨r,e⟩ hx ex)
   rw[hwl,hp1] at HWP hrd
   have HRD:=jd hrd
   clear hk hd hr hp hkp hrd ha ht0 hd2 htl hwl hp1 hs
   go_enter Tryz.func93,Tryz.ntmps93
   go_wp2_with fail
   refine HK.o.mono ?_
   rintro x w1 ⟨rfl,k1⟩
   have K1:=jd k1
   have hr1:=HR0.o.au k1
   obtain⟨⟨c0,c1,c2,c3⟩,f1,f2,f3⟩:=hr1.cells
   have hlt:=hr1.lt
   have HR1:=jd hr1
   have KS:Hid (Kept (fun i=>i=g) w1 (w1.setCell ⟨g,1,none⟩ (.int .i64 ((at_:Int)+1)))):=jd ((Ja (fun i=>i=g) w1).set g 1 (fun _=>rfl) _)
   have RS:Hid (RP T (w1.setCell ⟨g,1,none⟩ (.int .i64 ((at_:Int)+1))) g d ⟨r,e⟩):=jd ⟨at_+1,HD2.o,HR1.o.setAt HA.o⟩
   clear hr1 k1
   go_wp2_with fail
   obtain⟨wr,hwr⟩:∃wr,w1.setCell ⟨g,1,none⟩ (.int .i64 ((at_:Int)+1))=wr:=⟨_,rfl⟩
   rw[hwr] at KS RS
   have KW:Hid (Kept (fun i=>i=g) w wr):=jd ((K1.o.mono (S':=fun i=>i=g) (fun _ _ h=>h.elim)).trans KS.o (fun _ _ h=>h))
   have hnr:=HN.o.kept KW.o (fun i hi e=>by have e':i=g:=e;omega)
   obtain⟨ra,rcp,rfl,hrl9⟩:=hnr.rr.slice
   obtain⟨m,hm⟩:∃m,rs.length=m:=⟨_,rfl⟩
   have hbg:b≠g:=by omega
   have hgz:g<wr.heap.size:=RS.o.lt
   have hnr':=hnr
   obtain⟨ps,hps,hown,hel⟩:=hnr'.rr
   have HM:=jd hm
   rw[hm] at hown hr9 hnr
   have HOWN:=jd hown
   have HNR:=jd hnr;have HPS:=jd hps;have HEL:=jd hel
   have HER:Hid (dm wr):=jd (HE.o.dz KW.o hgn)
   have hSS:∀i,wr.heap.size≤i→¬duS (fun i=>i=g) (blk (.slice ra m rcp)) i:=fun i hi e=>by
    rcases e with e|e
    ·have e':i=g:=e;omega
    ·have:=df HOWN.o i e;omega
   have hb1:¬(b=g):=hbg
   have hPr:∀(v:Value) (wx wy:World),Kept (fun i=>i=g) wx wy→(∃F',NB wx lo b F' k ng nm va vw v vk al ws (rs++[((kp:Int),wl)]) ks)→∃F',NB wy lo b F' k ng nm va vw v vk al ws (rs++[((kp:Int),wl)]) ks:=fun v wx wy hk ⟨F',h⟩=>⟨F',h.kept hk (fun i hi e=>by have e':i=g:=e;omega)⟩
   rw[hwr]
   clear hwr hnr hnr' hps hown hel c0 c1 c2 c3 f1 f2 f3 hm
   refine cS 13 7 10 (fun i=>i=g) (blk (.slice ra m rcp)) (RdI wr T g d p1 lo b #[.int .i64 k,.bool ng,.string (BA nm),va,vw,.slice ra m rcp,vk]) (jV (fun i=>i=g) b 5 hb1 (fun v w=>∃F',NB w lo b F' k ng nm va vw v vk al ws (rs++[((kp:Int),wl)]) ks) hPr) [rV (.pointer (some ⟨b,0,none⟩)),rV (.pointer (some ⟨b,0,none⟩)),rV (.pointer (some ⟨b,0,none⟩)),rV (.pointer (some ⟨b,5,none⟩)),rV (.slice ra m rcp),rV (.int .i64 (kp:Int)),rV (.pointer (some ⟨g,0,none⟩)),rEl ix (duS (fun i=>i=g) (blk (.slice ra m rcp))) (fun i=>wr.heap.size≤i) hSS wl,rBu ix (fun u=>.agg #[.int .i64 (kp:Int),u]) (duS (fun i=>i=g) (blk (.slice ra m rcp))) (fun i=>wr.heap.size≤i) hSS wl,tS ix (fun x:LP×Value=>[.int .i64 (kp:Int),x.2]) 64 (duS (fun i=>i=g) (blk (.slice ra m rcp))) (fun i=>wr.heap.size≤i) hSS wl,rV (.bool true),rV (.pointer (some ⟨b,0,none⟩)),rV (.pointer (some ⟨b,5,none⟩))] (by kernel_rfl) (by kernel_rfl) ?_ ?_ ?_
   case refine_1=>exact RdI.start HNR.o.box
   case refine_2=>
    refine eZ (by decide) (fun s a' w' hI hag hf K hK=>?_) ?_
    ·have s1:=hag.same 1 (by decide)
     clear hag
     go_wp2_with fail
     exact hK _ _ hI (Ja _ _) rfl
    iterate 6
     refine dY (by decide) (by kernel_rfl) (fun s hs1 a' w' hI hag hf K hK=>?_) ?_
     ·obtain⟨⟨_,h0,rfl⟩,-⟩:=hf
      have s0:=hag.same 0 (by decide)
      have s1:=hag.same 1 (by decide)
      have s5:=hag.same 5 (by decide)
      clear hag
      obtain⟨⟨y0,y1,y2,y3,y4,y5,y6⟩,-⟩:=NBx.cells hI.box
      go_wp2_with fail
      exact hK _ _ hI (Ja _ _) rfl
    refine jK (by decide) (fun a' w' hI hag hf K hK=>?_) ?_
    ·obtain⟨⟨_,h6,rfl⟩,-⟩:ah _ _ a' w' [6]:=hf
     clear hag
     have HI:=jd hI
     have hk0:=hI.k0 rfl
     clear hI
     go_wp2_with fail
     refine(HWP.o _ (RS.o.au hk0) (HER.o.au hk0)).mono ?_
     rintro x w4 ⟨v,rfl,hw4,hr4,hk4⟩
     go_wp2_with fail
     exact hK _ _ (HI.o.call hk4 hr4 hbg) hk4 (hw4.mono (fun i _ hi=>lt9 hk0.size hi))
    refine dY (by decide) (by kernel_rfl) (fun s hs1 a' w' hI hag hf K hK=>?_) ?_
    ·obtain⟨⟨_,h5,rfl⟩,⟨v7,h7,e7⟩,-⟩:ah _ _ a' w' [5,7]:=hf
     clear hag
     have hw7:WAt w' (fun i=>wr.heap.size≤i) v7 wl:=e7
     obtain⟨ua,un,uc,rfl⟩:=hw7.slice
     go_wp2_with fail
     exact hK _ _ hI (Ja _ _) ⟨_,rfl,hw7⟩
    refine dY (by decide) (by kernel_rfl) (fun s hs1 a' w' hI hag hf K hK=>?_) ?_
    ·obtain⟨⟨v8,h8,e8⟩,-⟩:ah _ _ a' w' [8]:=hf
     clear hag
     obtain⟨u,rfl,hu⟩:∃u,v8= .agg #[.int .i64 (kp:Int),u]∧WAt w' (fun i=>wr.heap.size≤i) u wl:=e8
     obtain⟨ua,un,uc,rfl⟩:=hu.slice
     have hz:=hI.k.size
     go_wp2_with fail
     exact hK _ _ (hI.au ((Ja _ _).alloc _)) ((Ja _ _).alloc _) ⟨_,_,rfl,hz,heap_alloc _ _,hu.kept ((Ja _ _).alloc _) (fun _ _ h=>h)⟩
    refine jS (fun a' w' hI hag hf K hK=>?_) ?_
    ·obtain⟨⟨_,h4,rfl⟩,⟨v9,h9,e9⟩,-⟩:ah _ _ a' w' [4,9,7]:=hf
     clear hag
     obtain⟨bb,u,rfl,hbb,hbh,hu⟩:∃bb u,v9= .slice (some ⟨bb,0,none⟩) 1 1∧wr.heap.size≤bb∧w'.heap[bb]? =some (.cells #[.int .i64 (kp:Int),u] 64 (0,0))∧WAt w' (fun i=>wr.heap.size≤i) u wl:=e9
     have hk1:=hI.k1 (Jb _)
     refine bg rfl _ _ _ rfl ERs (.slice ra m rcp) m (ps.flatMap RC) (by simp[Act.eval,h4]) (bH hk1 HOWN.o (fun i hi e=>(HNR.o.br i hi).2.1 ?_)) _ 1 (RC (((kp:Int),wl),u)) (by simp[Act.eval,h9]) (fs (C:=RC) hbh rfl) (fun y hy=>?_) (by unfold maxLen;omega) (by omega) (fun ad9 cap9 w9 ho9 hg9 hf9=>?_)
     ·exact absurd e (by have:=(HNR.o.br i hi).1;intro e';have e2:i=g:=e';omega)
     ·simp only[RC,Jl,List.not_mem_nil,or_false] at hy
      rcases hy with rfl|rfl
      ·rfl
      ·exact nA hu
     have hk9:Kept (blk (.slice ra m rcp)) w' w9:=(Ja _ _).grown hg9 (fun i e _=>e)
     have ho9':w9.ownsRow 0 64 2 (.slice ad9 (m+1) cap9) (rs.length+1) (ps.flatMap RC++RC (((kp:Int),wl),u)):=by rw[HM.o];exact ho9
     have hpush:=(HNR.o.ui (S:=fun i=>i=g) HPS.o HEL.o hk1 (fun i hi e=>by have e':i=g:=e;omega) (x:=((kp:Int),wl)) (u:=u) (G:=fun i=>wr.heap.size≤i) hu (fun i hi=>hi) ho9' hg9 hf9).1
     exact hK _ _ (hI.app hk9 (fun i hi=>⟨(HNR.o.br i hi).1,(HNR.o.br i hi).2.1⟩) hg HTB.o) hk9 ⟨_,hpush⟩
    refine eZ (by decide) (fun s a' w' hI hag hf K hK=>?_) ?_
    ·obtain⟨⟨_,h0,rfl⟩,-⟩:ah _ _ a' w' [0,1,2,3,4,5,6,7,8,9,10]:=hf
     clear hag
     go_wp2_with fail
     exact hK _ _ hI (Ja _ _) rfl
    refine eZ (by decide) (fun s a' w' hI hag hf K hK=>?_) ?_
    ·obtain⟨⟨_,h11,rfl⟩,-⟩:ah _ _ a' w' [11,0,1,2,3,4,5,6,7,8,9,10]:=hf
     clear hag
     go_wp2_with fail
     exact hK _ _ hI (Ja _ _) rfl
    exact trivial
   case refine_3=>
    intro vs wz hI hvs
    have q7:=hvs 7 _ _ rfl rfl
    have q8:=hvs 8 _ _ rfl rfl
    have q9:=hvs 9 _ _ rfl rfl
    have q10:(jV (fun i=>i=g) b 5 hb1 (fun v w=>∃F',NB w lo b F' k ng nm va vw v vk al ws (rs++[((kp:Int),wl)]) ks) hPr).1 (vs 10) wz:=hvs 10 _ _ rfl rfl
    simp only[pzz,aW,Act.put,Nat.reduceAdd,dpv (hvs 0 _ _ rfl rfl) (by decide) rfl,dpv (hvs 1 _ _ rfl rfl) (by decide) rfl,dpv (hvs 2 _ _ rfl rfl) (by decide) rfl,dpv (hvs 3 _ _ rfl rfl) (by decide) rfl,dpv (hvs 4 _ _ rfl rfl) (by decide) rfl,dpv (hvs 5 _ _ rfl rfl) (by decide) rfl,dpv (hvs 6 _ _ rfl rfl) (by decide) rfl,dpv (hvs 11 _ _ rfl rfl) (by decide) rfl,dpv (hvs 12 _ _ rfl rfl) (by decide) rfl]
    clear hvs
    generalize vs 7=x7 at*
    generalize vs 8=x8 at*
    generalize vs 9=x9 at*
    generalize vs 10=x10 at*
    have HI:=jd hI
    obtain⟨F',hnb⟩:∃F',NB (wz.setCell ⟨b,5,none⟩ x10) lo b F' k ng nm va vw x10 vk al ws (rs++[((kp:Int),wl)]) ks:=q10
    obtain⟨za,zn,zc,rfl⟩:∃a n c,x10= .slice a n c:=by obtain⟨a,c,e,_⟩:=hnb.rr.slice;exact⟨a,_,c,e⟩
    have HNB:=jd hnb
    obtain⟨⟨y0,y1,y2,y3,y4,y5,y6⟩,z0,z1,z2,z3,z4,z5,z6⟩:=NBx.cells hI.box
    have hblt:b<wz.heap.size:=av hI.box
    clear hI q7 q8 q9 hnb
    go_wp2_with fail
    go_ret
    unfold uM
    rw[HRD.o]
    refine⟨rfl,⟨_,F',HNB.o⟩,?_,?_⟩
    ·obtain⟨a,h1,h2⟩:=HI.o.p (by decide)
     have kS:Kept (fun i=>i=b) wz (wz.setCell ⟨b,5,none⟩ (.slice za zn zc)):=(Ja (fun i=>i=b) wz).set b 5 (fun _=>rfl) _
     exact⟨a,h1,h2.kept kS (fun e=>hbg e.symm) (fun i hi e=>by have e':i=b:=e;have:=HTB.o i hi;omega)⟩
    ·exact((KW.o.mono (S':=fun i=>i=g∨lo≤i) (fun _ _ h=>.inl h)).trans HI.o.k (fun _ _ h=>h)).set b 5 (fun _=>.inr hlob) _
def eR (T:TT) (w:World) (g d:Nat) (x:Rd9) (e:Ending) (w':World):Prop:=
 ∃v nd,x.ns=[nd]∧e= .returned v∧NAt w' (fun b=>w.heap.size≤b) v nd∧RP T w' g d x.p∧Kept (fun b=>b=g) w w'
def eG (T:TT) (w:World) (g d:Nat) (x:Rd9) (e:Ending) (w':World):Prop:=
 ∃v nd,x.ns=[nd]∧e= .returned v∧NAt w' (fun b=>w.heap.size≤b) v nd∧RP T w' g d x.p∧Kept (fun b=>b=g) w w'∧nd.rs=[]∧∃c0 c1 c2 c3 c4 c6,v= .agg #[c0,c1,c2,c3,c4,.slice none 0 0,c6]
theorem hZ {T:TT} {w w':World} {g d:Nat} {x:Rd9} {c0 c1 c2 c3 c4 c6:Value} (h:eR T w g d x (.returned (.agg #[c0,c1,c2,c3,c4,.slice none 0 0,c6])) w') (hr:∀nd,x.ns=[nd]→nd.rs=[]):eG T w g d x (.returned (.agg #[c0,c1,c2,c3,c4,.slice none 0 0,c6])) w':=by
 obtain⟨v,nd,h1,h2,h3,h4,h5⟩:=h
 cases h2
 exact⟨_,nd,h1,rfl,h3,h4,h5,hr nd h1,_,_,_,_,_,_,rfl⟩
def uU (T:TT) (w:World) (g d:Nat) (x:Rd9) (e:Ending) (w':World):Prop:=
 ∃v nd,x.ns=[nd]∧e= .returned (.tuple #[v,.bool x.st])∧NAt w' (fun b=>w.heap.size≤b) v nd∧RP T w' g d x.p∧Kept (fun b=>b=g) w w'
def CJ (f:FuncId) (post:TT→World→Nat→Nat→Rd9→Ending→World→Prop) (job:Nat→Ps→Job) (n:Nat):Prop:=
 ∀(T:TT) (w:World) (g d:Nat) (p:Ps) (x:Rd9),run n (job d p)=some x→RP T w g d p→bW w→GNe g→(∀i,blk T.v i→i<g)→Calls Tryz.prog f #[.pointer (some ⟨g,0,none⟩)] w (post T w g d x)
abbrev zN:Array Value:=#[.int .i64 0,.bool false,.string ⟨#[]⟩,.slice none 0 0,.slice none 0 0,.slice none 0 0,.slice none 0 0]
theorem NAt.agg {w:World} {F:Nat→Prop} {v:Value} {n:Nd} (h:NAt w F v n):∃k b s aa an ac wa wn wc ra rn rc ka kn kc,v= .agg #[.int .i64 k,.bool b,.string (BA s),.slice aa an ac,.slice wa wn wc,.slice ra rn rc,.slice ka kn kc]:=by
 obtain⟨aa,an,ac,wa,wn,wc,ra,rn,rc,ka,kn,kc,e,_⟩:=h.opens
 exact⟨_,_,_,aa,an,ac,wa,wn,wc,ra,rn,rc,ka,kn,kc,e⟩
abbrev st7 (w:World) (b:Nat) (v0 v1 v2 v3 v4 v5 v6:Value):World:=((((((w.setCell ⟨b,0,none⟩ v0).setCell ⟨b,1,none⟩ v1).setCell ⟨b,2,none⟩ v2).setCell ⟨b,3,none⟩ v3).setCell ⟨b,4,none⟩ v4).setCell ⟨b,5,none⟩ v5).setCell ⟨b,6,none⟩ v6
theorem NBx.s0 {w:World} {b:Nat} {c0 c1 c2 c3 c4 c5 c6:Value} (h:NBx w b #[c0,c1,c2,c3,c4,c5,c6]) (v:Value):NBx (w.setCell ⟨b,0,none⟩ v) b #[v,c1,c2,c3,c4,c5,c6]:=by
 have h1:=heap_set h 0 v
 unfold NBx
 simpa using h1
theorem NBx.s1 {w:World} {b:Nat} {c0 c1 c2 c3 c4 c5 c6:Value} (h:NBx w b #[c0,c1,c2,c3,c4,c5,c6]) (v:Value):NBx (w.setCell ⟨b,1,none⟩ v) b #[c0,v,c2,c3,c4,c5,c6]:=by
 have h1:=heap_set h 1 v
 unfold NBx
 simpa using h1
theorem NBx.s2 {w:World} {b:Nat} {c0 c1 c2 c3 c4 c5 c6:Value} (h:NBx w b #[c0,c1,c2,c3,c4,c5,c6]) (v:Value):NBx (w.setCell ⟨b,2,none⟩ v) b #[c0,c1,v,c3,c4,c5,c6]:=by
 have h1:=heap_set h 2 v
 unfold NBx
 simpa using h1
theorem NBx.s3 {w:World} {b:Nat} {c0 c1 c2 c3 c4 c5 c6:Value} (h:NBx w b #[c0,c1,c2,c3,c4,c5,c6]) (v:Value):NBx (w.setCell ⟨b,3,none⟩ v) b #[c0,c1,c2,v,c4,c5,c6]:=by
 have h1:=heap_set h 3 v
 unfold NBx
 simpa using h1
theorem NBx.s4 {w:World} {b:Nat} {c0 c1 c2 c3 c4 c5 c6:Value} (h:NBx w b #[c0,c1,c2,c3,c4,c5,c6]) (v:Value):NBx (w.setCell ⟨b,4,none⟩ v) b #[c0,c1,c2,c3,v,c5,c6]:=by
 have h1:=heap_set h 4 v
 unfold NBx
 simpa using h1
theorem NBx.s5 {w:World} {b:Nat} {c0 c1 c2 c3 c4 c5 c6:Value} (h:NBx w b #[c0,c1,c2,c3,c4,c5,c6]) (v:Value):NBx (w.setCell ⟨b,5,none⟩ v) b #[c0,c1,c2,c3,c4,v,c6]:=by
 have h1:=heap_set h 5 v
 unfold NBx
 simpa using h1
theorem NBx.s6 {w:World} {b:Nat} {c0 c1 c2 c3 c4 c5 c6:Value} (h:NBx w b #[c0,c1,c2,c3,c4,c5,c6]) (v:Value):NBx (w.setCell ⟨b,6,none⟩ v) b #[c0,c1,c2,c3,c4,c5,v]:=by
 have h1:=heap_set h 6 v
 unfold NBx
 simpa using h1
theorem bS {w:World} {b:Nat} {c0 c1 c2 c3 c4 c5 c6:Value} (h:NBx w b #[c0,c1,c2,c3,c4,c5,c6]) (v0 v1 v2 v3 v4 v5 v6:Value):NBx (st7 w b v0 v1 v2 v3 v4 v5 v6) b #[v0,v1,v2,v3,v4,v5,v6]:=
 ((((((h.s0 v0).s1 v1).s2 v2).s3 v3).s4 v4).s5 v5).s6 v6
theorem bu {S:Nat→Prop} {w0 w:World} {b:Nat} (h:Kept S w0 w) (hb:b<w0.heap.size→S b) (v0 v1 v2 v3 v4 v5 v6:Value):Kept S w0 (st7 w b v0 v1 v2 v3 v4 v5 v6):=
 ((((((h.set b 0 hb v0).set b 1 hb v1).set b 2 hb v2).set b 3 hb v3).set b 4 hb v4).set b 5 hb v5).set b 6 hb v6
theorem cp {T:TT} {w wz w9:World} {g d:Nat} {x:Rd9} {v:Value} {nd:Nd} (hns:x.ns=[nd]) (hv:NAt wz (fun b=>w.heap.size+1≤b) v nd) (hp:RP T wz g d x.p) (hk:Kept (fun i=>i=g) w wz) (k9:Kept (fun i=>i=w.heap.size) wz w9) (hg:g<w.heap.size) (ht:∀i,blk T.v i→i<g):
  eR T w g d x (.returned v) w9:=by
 obtain⟨a,h1,h2⟩:=hp
 refine⟨v,nd,hns,rfl,(hv.kept k9 (fun b hb e=>by have e':b=w.heap.size:=e;have hb':w.heap.size+1≤b:=hb;omega)).mono (fun b _ hb=>Nat.le_of_succ_le hb),⟨a,h1,h2.kept k9 (fun e=>by omega) (fun i hi e=>by have:=ht i hi;have e':i=w.heap.size:=e;omega)⟩,hk.trans k9 (fun i hi e=>by have e':i=w.heap.size:=e;omega)⟩
theorem xX (n:Nat) (HL:Hid (CJ 27 uU .list n)):CJ 107 eR .block (n+1):=by
 intro T w g d p x hx hp hE hgn ht
 rw[run] at hx
 obtain⟨y,hy,hX⟩:=Jh.1 hx
 have HXN:Hid (x.ns=y.ns):=jd (by rw[←hX])
 have HXP:Hid (x.p=if y.st then y.p else bm y.p 5):=jd (by rw[←hX])
 obtain⟨W0,hW0⟩:∃W0,w.alloc (.cells zN 27)=W0:=⟨_,rfl⟩
 have hs0:W0.heap.size=w.heap.size+1:=by rw[←hW0,World.size_alloc]
 have KA:Hid (Kept (fun _=>False) w W0):=jd (by rw[←hW0];exact(Ja _ w).alloc _)
 have PA:Hid (NBx W0 w.heap.size zN):=jd (by rw[←hW0];exact heap_alloc w _)
 have HW0:=jd hW0
 have HR:=jd (fD T W0 g d p (hp.au KA.o))
 have hgl:=hp.lt
 have HY:=jd hy;have HE:=jd hE;have HGN:=jd hgn;have HTB:=jd ht
 clear hx hp hE hgn ht hW0 hy hX
 go_enter Tryz.func107,Tryz.ntmps107
 go_wp2_with fail
 rw[HW0.o]
 refine HR.o.mono ?_
 rintro e w1 ⟨rfl,r1,k1⟩
 have R1:=jd r1;have K1:=jd k1
 have P1:=jd (k1.heap PA.o (fun e=>by have e':w.heap.size=g:=e;omega))
 have HC:=jd (HL.o T w1 g d _ y HY.o r1 ((HE.o.au KA.o).dz k1 HGN.o) HGN.o HTB.o)
 have hz1:=k1.size
 have HZ1:Hid (w.heap.size+1≤w1.heap.size):=jd (by omega)
 clear r1 k1
 go_wp2_with fail
 refine HC.o.mono ?_
 rintro e w2 ⟨v,nd,hns,rfl,hv,r2,k2⟩
 have R2:=jd r2;have K2:=jd k2;have HNS:=jd hns
 have hz2:=k2.size
 obtain⟨vk,vb,vs,aa,an,ac,wa,wn,wc,ra,rn,rc,ka,kn,kc,rfl⟩:=hv.agg
 have HV:=jd hv
 obtain⟨st,hst⟩:∃st,y.st=st:=⟨_,rfl⟩
 have HST:=jd hst
 rw[hst]
 clear hv r2 k2 hns hst
 have PR2:NBx w2 w.heap.size zN:=K2.o.heap P1.o (fun e=>by have e':w.heap.size=g:=e;omega)
 obtain⟨⟨c0,c1,c2,c3,c4,c5,c6⟩,f0,f1,f2,f3,f4,f5,f6⟩:=NBx.cells PR2
 have hlt2:w.heap.size<w2.heap.size:=av PR2
 cases st with
 |true=>
  have K7:Hid (Kept (fun i=>i=w.heap.size) w2 (st7 w2 w.heap.size (.int .i64 vk) (.bool vb) (.string (BA vs)) (.slice aa an ac) (.slice wa wn wc) (.slice ra rn rc) (.slice ka kn kc))):=jd (bu (Ja (fun i=>i=w.heap.size) w2) (fun _=>rfl) _ _ _ _ _ _ _)
  have B7:=jd (bS PR2 (.int .i64 vk) (.bool vb) (.string (BA vs)) (.slice aa an ac) (.slice wa wn wc) (.slice ra rn rc) (.slice ka kn kc))
  go_wp2_with fail
  have hres:=((Ja (fun _=>False) (st7 w2 w.heap.size (.int .i64 vk) (.bool vb) (.string (BA vs)) (.slice aa an ac) (.slice wa wn wc) (.slice ra rn rc) (.slice ka kn kc))).alloc (.cells #[.int .i64 vk,.bool vb,.string (BA vs),.slice aa an ac,.slice wa wn wc,.slice ra rn rc,.slice ka kn kc] 27)).heap B7.o (fun h=>h)
  refine bodyPost_ret (v:= .agg #[.int .i64 vk,.bool vb,.string (BA vs),.slice aa an ac,.slice wa wn wc,.slice ra rn rc,.slice ka kn kc]) ?_ rfl ?_
  ·exact results_cell_row rfl _ _ w.heap.size 27 _ (0,0) _ (by rfl) hres Tryz.underlying27 rfl (by kernel_rfl)
  exact cp (HXN.o.trans HNS.o) (HV.o.mono (fun b _ hb=>by have h1:=HZ1.o;have hb':w1.heap.size≤b:=hb;omega)) (by rw[HXP.o,HST.o];exact R2.o) (((KA.o.mono (S':=fun i=>i=g) (fun _ _ h=>h.elim)).trans K1.o (fun _ _ h=>h)).trans K2.o (fun _ _ h=>h)) (K7.o.alloc _) hgl HTB.o
 |false=>
  have HF:=jd (fun wx (kx:Kept (fun _=>False) w2 wx)=>dV T wx g d y.p (R2.o.au kx) 5)
  go_wp2_with fail
  refine(HF.o _ ((Ja _ w2).alloc _)).mono ?_
  rintro e w4 ⟨rfl,r4,k4⟩
  have R4:=jd r4
  have K24:Hid (Kept (fun i=>i=g) w2 w4):=jd ((((Ja (fun _=>False) w2).alloc _).mono (S':=fun i=>i=g) (fun _ _ h=>h.elim)).trans k4 (fun _ _ h=>h))
  have hgw:=R2.o.lt
  have P4:NBx w4 w2.heap.size #[.int .i64 vk,.bool vb,.string (BA vs),.slice aa an ac,.slice wa wn wc,.slice ra rn rc,.slice ka kn kc]:=k4.heap (heap_alloc w2 _) (fun e=>by have e':w2.heap.size=g:=e;omega)
  have PR4:NBx w4 w.heap.size zN:=K24.o.heap PR2 (fun e=>by have e':w.heap.size=g:=e;omega)
  clear c0 c1 c2 c3 c4 c5 c6 f0 f1 f2 f3 f4 f5 f6 r4 k4
  obtain⟨⟨c0,c1,c2,c3,c4,c5,c6⟩,f0,f1,f2,f3,f4,f5,f6⟩:=NBx.cells PR4
  obtain⟨⟨e0,e1,e2,e3,e4,e5,e6⟩,-⟩:=NBx.cells P4
  have hlt4:w.heap.size<w4.heap.size:=av PR4
  have K7:Hid (Kept (fun i=>i=w.heap.size) w4 (st7 w4 w.heap.size (.int .i64 vk) (.bool vb) (.string (BA vs)) (.slice aa an ac) (.slice wa wn wc) (.slice ra rn rc) (.slice ka kn kc))):=jd (bu (Ja (fun i=>i=w.heap.size) w4) (fun _=>rfl) _ _ _ _ _ _ _)
  have B7:=jd (bS PR4 (.int .i64 vk) (.bool vb) (.string (BA vs)) (.slice aa an ac) (.slice wa wn wc) (.slice ra rn rc) (.slice ka kn kc))
  have HV4:=jd (HV.o.kept K24.o (fun b hb e=>by have e':b=g:=e;have hb':w1.heap.size≤b:=hb;have:=HZ1.o;omega))
  go_wp2_with fail
  refine bodyPost_ret (v:= .agg #[.int .i64 vk,.bool vb,.string (BA vs),.slice aa an ac,.slice wa wn wc,.slice ra rn rc,.slice ka kn kc]) ?_ rfl ?_
  ·exact results_cell_row rfl _ _ w.heap.size 27 _ (0,0) _ (by rfl) B7.o Tryz.underlying27 rfl (by kernel_rfl)
  exact cp (HXN.o.trans HNS.o) (HV4.o.mono (fun b _ hb=>by have h1:=HZ1.o;have hb':w1.heap.size≤b:=hb;omega)) (by rw[HXP.o,HST.o];exact R4.o) ((((KA.o.mono (S':=fun i=>i=g) (fun _ _ h=>h.elim)).trans K1.o (fun _ _ h=>h)).trans K2.o (fun _ _ h=>h)).trans K24.o (fun _ _ h=>h)) K7.o hgl HTB.o
theorem AQ (n:Nat) (HL:Hid (CJ 107 eR .block n)):CJ 109 eR .body (n+1):=by
 intro T w g d p x hx hp hE hgn ht
 rw[run] at hx
 obtain⟨y,hy,hX⟩:=Jh.1 hx
 have HXN:Hid (x.ns=y.ns):=jd (by rw[←hX])
 have HXP:Hid (x.p=ay bp y.p):=jd (by rw[←hX])
 obtain⟨W0,hW0⟩:∃W0,w.alloc (.cells zN 27)=W0:=⟨_,rfl⟩
 have hs0:W0.heap.size=w.heap.size+1:=by rw[←hW0,World.size_alloc]
 have KA:Hid (Kept (fun _=>False) w W0):=jd (by rw[←hW0];exact(Ja _ w).alloc _)
 have PA:Hid (NBx W0 w.heap.size zN):=jd (by rw[←hW0];exact heap_alloc w _)
 have HW0:=jd hW0
 have HR:=jd (fW T W0 g d p (hp.au KA.o) (hE.au KA.o) rDo (by decide))
 have hgl:=hp.lt
 have HY:=jd hy;have HE:=jd hE;have HGN:=jd hgn;have HTB:=jd ht
 clear hx hp hE hgn ht hW0 hy hX
 go_enter Tryz.func109,Tryz.ntmps109
 go_wp2_with fail
 rw[HW0.o]
 refine HR.o.mono ?_
 rintro e w1 ⟨rfl,r1,k1⟩
 have R1:=jd r1;have K1:=jd k1
 have P1:=jd (k1.heap PA.o (fun e=>by have e':w.heap.size=g:=e;omega))
 have HC:=jd (HL.o T w1 g d _ y HY.o r1 ((HE.o.au KA.o).dz k1 HGN.o) HGN.o HTB.o)
 have hz1:=k1.size
 have HZ1:Hid (w.heap.size+1≤w1.heap.size):=jd (by omega)
 clear r1 k1
 go_wp2_with fail
 refine HC.o.mono ?_
 rintro e w2 ⟨v,nd,hns,rfl,hv,r2,k2⟩
 have R2:=jd r2;have K2:=jd k2;have HNS:=jd hns
 have hz2:=k2.size
 obtain⟨vk,vb,vs,aa,an,ac,wa,wn,wc,ra,rn,rc,ka,kn,kc,rfl⟩:=hv.agg
 have HV:=jd hv
 have PR2:NBx w2 w.heap.size zN:=K2.o.heap P1.o (fun e=>by have e':w.heap.size=g:=e;omega)
 have hlt2:w.heap.size<w2.heap.size:=av PR2
 have HPR2:=jd PR2
 have HF:=jd (fun wx (kx:Kept (fun _=>False) w2 wx)=>fW T wx g d y.p (R2.o.au kx) ((((HE.o.au KA.o).dz K1.o HGN.o).dz k2 HGN.o).au kx) bp (by decide))
 clear hv r2 k2 hns PR2
 go_wp2_with fail
 refine(HF.o _ ((Ja _ w2).alloc _)).mono ?_
 rintro e w4 ⟨rfl,r4,k4⟩
 have R4:=jd r4
 have K24:Hid (Kept (fun i=>i=g) w2 w4):=jd ((((Ja (fun _=>False) w2).alloc _).mono (S':=fun i=>i=g) (fun _ _ h=>h.elim)).trans k4 (fun _ _ h=>h))
 have hgw:=R2.o.lt
 have P4:NBx w4 w2.heap.size #[.int .i64 vk,.bool vb,.string (BA vs),.slice aa an ac,.slice wa wn wc,.slice ra rn rc,.slice ka kn kc]:=k4.heap (heap_alloc w2 _) (fun e=>by have e':w2.heap.size=g:=e;omega)
 have PR4:NBx w4 w.heap.size zN:=K24.o.heap HPR2.o (fun e=>by have e':w.heap.size=g:=e;omega)
 clear r4 k4
 obtain⟨⟨c0,c1,c2,c3,c4,c5,c6⟩,f0,f1,f2,f3,f4,f5,f6⟩:=NBx.cells PR4
 obtain⟨⟨e0,e1,e2,e3,e4,e5,e6⟩,-⟩:=NBx.cells P4
 have hlt4:w.heap.size<w4.heap.size:=av PR4
 have K7:Hid (Kept (fun i=>i=w.heap.size) w4 (st7 w4 w.heap.size (.int .i64 vk) (.bool vb) (.string (BA vs)) (.slice aa an ac) (.slice wa wn wc) (.slice ra rn rc) (.slice ka kn kc))):=jd (bu (Ja (fun i=>i=w.heap.size) w4) (fun _=>rfl) _ _ _ _ _ _ _)
 have B7:=jd (bS PR4 (.int .i64 vk) (.bool vb) (.string (BA vs)) (.slice aa an ac) (.slice wa wn wc) (.slice ra rn rc) (.slice ka kn kc))
 have HV4:=jd (HV.o.kept K24.o (fun b hb e=>by have e':b=g:=e;have hb':w1.heap.size≤b:=hb;have:=HZ1.o;omega))
 go_wp2_with fail
 refine bodyPost_ret (v:= .agg #[.int .i64 vk,.bool vb,.string (BA vs),.slice aa an ac,.slice wa wn wc,.slice ra rn rc,.slice ka kn kc]) ?_ rfl ?_
 ·exact results_cell_row rfl _ _ w.heap.size 27 _ (0,0) _ (by rfl) B7.o Tryz.underlying27 rfl (by kernel_rfl)
 exact cp (HXN.o.trans HNS.o) (HV4.o.mono (fun b _ hb=>by have h1:=HZ1.o;have hb':w1.heap.size≤b:=hb;omega)) (by rw[HXP.o];exact R4.o) ((((KA.o.mono (S':=fun i=>i=g) (fun _ _ h=>h.elim)).trans K1.o (fun _ _ h=>h)).trans K2.o (fun _ _ h=>h)).trans K24.o (fun _ _ h=>h)) K7.o hgl HTB.o
theorem AD {w:World} {F:Nat→Prop} {bb:Nat} {cs:Array Value} {nd:Nd} (h:w.heap[bb]? =some (.cells cs 27 (0,0))) (hv:NAt w F (.agg cs) nd) (hF:F bb):bJ w F (.slice (some ⟨bb,0,none⟩) 1 1) [nd]:=by
 refine⟨[(nd,.agg cs)],rfl,?_,fun b hb=>?_,fun x hx=>by rw[Jk.1 hx];exact hv⟩
 ·have hl:(NC (nd,.agg cs)).length=7:=hv.vc
  refine⟨by simpa using hl,_,_,rfl,Jb _,by unfold maxLen;decide,fun j u hj=>⟨bb,0,rfl,?_⟩⟩
  rw[Nat.zero_add,aB h j]
  simpa[NC,VC] using hj
 ·have e:b=bb:=gI hb
  rw[e]
  exact⟨hF,av h⟩
theorem yG (n:Nat) (HL:Hid (CJ 107 eR .block n)):CJ 103 eG .group (n+1):=by
 intro T w g d p x hx hp hE hgn ht
 rw[run] at hx
 obtain⟨y,hy,hX⟩:=Jh.1 hx
 have HXN:Hid (x.ns=[ndK 10 y.ns]):=jd (by rw[←hX])
 have HXP:Hid (x.p=ay cx y.p):=jd (by rw[←hX])
 obtain⟨W0,hW0⟩:∃W0,w.alloc (.cells zN 27)=W0:=⟨_,rfl⟩
 have hs0:W0.heap.size=w.heap.size+1:=by rw[←hW0,World.size_alloc]
 have KA:Hid (Kept (fun _=>False) w W0):=jd (by rw[←hW0];exact(Ja _ w).alloc _)
 have PA:Hid (NBx W0 w.heap.size zN):=jd (by rw[←hW0];exact heap_alloc w _)
 have HW0:=jd hW0
 have HC:=jd (HL.o T W0 g d p y hy (hp.au KA.o) (hE.au KA.o) hgn ht)
 have HZ1:Hid (w.heap.size+1≤W0.heap.size):=jd (by omega)
 have hgl:=hp.lt
 have HY:=jd hy;have HE:=jd hE;have HGN:=jd hgn;have HTB:=jd ht
 clear hx hp hE hgn ht hW0 hy hX
 go_enter Tryz.func103,Tryz.ntmps103
 go_wp2_with fail
 rw[HW0.o]
 refine HC.o.mono ?_
 rintro e w2 ⟨v,nd,hns,rfl,hv,r2,k2⟩
 have R2:=jd r2;have K2:=jd k2;have HNS:=jd hns
 have hz2:=k2.size
 obtain⟨vk,vb,vs,aa,an,ac,wa,wn,wc,ra,rn,rc,ka,kn,kc,rfl⟩:=hv.agg
 have HV:=jd hv
 have PR2:NBx w2 w.heap.size zN:=K2.o.heap PA.o (fun e=>by have e':w.heap.size=g:=e;omega)
 have hlt2:w.heap.size<w2.heap.size:=av PR2
 have HPR2:=jd PR2
 have HF:=jd (fun wx (kx:Kept (fun _=>False) w2 wx)=>fW T wx g d y.p (R2.o.au kx) (((HE.o.au KA.o).dz k2 HGN.o).au kx) cx (by decide))
 clear hv r2 k2 hns PR2
 go_wp2_with fail
 obtain⟨W3,hW3⟩:∃W3,w2.alloc (.cells #[.int .i64 vk,.bool vb,.string (BA vs),.slice aa an ac,.slice wa wn wc,.slice ra rn rc,.slice ka kn kc] 27)=W3:=⟨_,rfl⟩
 have hs3:W3.heap.size=w2.heap.size+1:=by rw[←hW3,World.size_alloc]
 have K3:Hid (Kept (fun _=>False) w2 W3):=jd (by rw[←hW3];exact(Ja _ w2).alloc _)
 have L3:Hid (W3.heap[w2.heap.size]? =some (.cells #[.int .i64 vk,.bool vb,.string (BA vs),.slice aa an ac,.slice wa wn wc,.slice ra rn rc,.slice ka kn kc] 27 (0,0))):=jd (by rw[←hW3];exact heap_alloc w2 _)
 rw[hW3]
 refine(HF.o _ (K3.o.alloc _)).mono ?_
 rintro e w4 ⟨rfl,r4,k4⟩
 have R4:=jd r4
 have K34:Hid (Kept (fun i=>i=g) W3 w4):=jd ((((Ja (fun _=>False) W3).alloc _).mono (S':=fun i=>i=g) (fun _ _ h=>h.elim)).trans k4 (fun _ _ h=>h))
 have K24:Hid (Kept (fun i=>i=g) w2 w4):=jd ((K3.o.mono (S':=fun i=>i=g) (fun _ _ h=>h.elim)).trans K34.o (fun _ _ h=>h))
 have hgw:=R2.o.lt
 have L4:=K34.o.heap L3.o (fun e=>by have e':w2.heap.size=g:=e;omega)
 have P4:NBx w4 (w2.heap.size+1) #[.int .i64 10,.bool false,.string ⟨#[]⟩,.slice none 0 0,.slice none 0 0,.slice none 0 0,.slice (some ⟨w2.heap.size,0,none⟩) 1 1]:=by
  rw[←hs3]
  exact k4.heap (heap_alloc W3 _) (fun e=>by have e':W3.heap.size=g:=e;omega)
 have PR4:NBx w4 w.heap.size zN:=K24.o.heap HPR2.o (fun e=>by have e':w.heap.size=g:=e;omega)
 have HL4:=jd L4
 clear r4 k4 hW3
 obtain⟨⟨c0,c1,c2,c3,c4,c5,c6⟩,f0,f1,f2,f3,f4,f5,f6⟩:=NBx.cells PR4
 obtain⟨⟨e0,e1,e2,e3,e4,e5,e6⟩,-⟩:=NBx.cells P4
 have hlt4:w.heap.size<w4.heap.size:=av PR4
 have hne:w.heap.size≠w2.heap.size+1:=by omega
 have K7:Hid (Kept (fun i=>i=w.heap.size) w4 (st7 w4 w.heap.size (.int .i64 10) (.bool false) (.string ⟨#[]⟩) (.slice none 0 0) (.slice none 0 0) (.slice none 0 0) (.slice (some ⟨w2.heap.size,0,none⟩) 1 1))):=jd (bu (Ja (fun i=>i=w.heap.size) w4) (fun _=>rfl) _ _ _ _ _ _ _)
 have B7:=jd (bS PR4 (.int .i64 10) (.bool false) (.string ⟨#[]⟩) (.slice none 0 0) (.slice none 0 0) (.slice none 0 0) (.slice (some ⟨w2.heap.size,0,none⟩) 1 1))
 have HV4:Hid (NAt w4 (fun b=>w.heap.size+1≤b) (.agg #[.int .i64 10,.bool false,.string ⟨#[]⟩,.slice none 0 0,.slice none 0 0,.slice none 0 0,.slice (some ⟨w2.heap.size,0,none⟩) 1 1]) (ndK 10 [nd])):=jd (by
  have hv4:NAt w4 (fun b=>w.heap.size+1≤b) (.agg #[.int .i64 vk,.bool vb,.string (BA vs),.slice aa an ac,.slice wa wn wc,.slice ra rn rc,.slice ka kn kc]) nd:=(HV.o.mono (fun b _ hb=>lt9 HZ1.o hb)).kept K24.o (fun b hb e=>by have e':b=g:=e;have hb':w.heap.size+1≤b:=hb;omega)
  exact NAt.shut (n:=ndK 10 [nd]) (bT.nil _ _) (bT.nil _ _) (bT.nil _ _) (AD HL4.o hv4 (by show w.heap.size+1≤w2.heap.size;omega)))
 go_wp2_with fail
 refine bodyPost_ret (v:= .agg #[.int .i64 10,.bool false,.string ⟨#[]⟩,.slice none 0 0,.slice none 0 0,.slice none 0 0,.slice (some ⟨w2.heap.size,0,none⟩) 1 1]) ?_ rfl ?_
 ·exact results_cell_row rfl _ _ w.heap.size 27 _ (0,0) _ (by rfl) B7.o Tryz.underlying27 rfl (by kernel_rfl)
 refine hZ ?_ (fun nd h=>by rw[HXN.o] at h;cases h;rfl)
 exact cp (by rw[HXN.o,HNS.o]) HV4.o (by rw[HXP.o];exact R4.o) (((KA.o.mono (S':=fun i=>i=g) (fun _ _ h=>h.elim)).trans K2.o (fun _ _ h=>h)).trans K24.o (fun _ _ h=>h)) K7.o hgl HTB.o
