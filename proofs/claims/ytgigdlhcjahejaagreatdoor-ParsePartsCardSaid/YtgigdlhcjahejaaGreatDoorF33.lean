import Derived.Test.YtgigdlhcjahejaaGreatDoorF32
import Derived.Test.YtgigdlhcjahejaaGreatDoorF27
import Derived.Maps.OwnSet
set_option linter.all false
set_option maxHeartbeats 400000000
namespace Go.Proofs.YtgigdlhcjahejaaGreatDoor
open Go Go.RowKit Go.Lw
set_option maxRecDepth 100000
attribute [local go_sem] aA
structure NR (w:World) (lo b:Nat) (F:Nat→Prop) (k:Int) (ng:Bool) (nm:LB) (va vw vr vk:Value) (al:List (LB×LP)) (ws:List LP) (rs:List (Int×LP)) (ks:List Nd):Prop where
 box:NBx w b #[.int .i64 k,.bool ng,.string (BA nm),va,vw,vr,vk]
 ra:qH w F va al
 rw:mI w F vw ws
 rr:ORs w F vr rs
 rk:bJ w F vk ks
 f:∀i,F i→lo≤i∧i<w.heap.size∧i≠b∧¬blk vr i
 br:∀i,blk vr i→lo≤i∧i≠b∧True
 lob:lo≤b
section
variable {w w':World} {lo b:Nat} {F S:Nat→Prop} {k:Int} {ng:Bool} {nm:LB} {va vw vr vk:Value} {al:List (LB×LP)} {ws:List LP} {rs:List (Int×LP)} {ks:List Nd}
theorem NR.kept (h : NR w lo b F k ng nm va vw vr vk al ws rs ks) (hk : Kept S w w') (hS : ∀ i, lo ≤ i → ¬ S i) : NR w' lo b F k ng nm va vw vr vk al ws rs ks :=
  ⟨hk.heap h.box (hS b h.lob), h.ra.kept hk (fun i hi => hS i (h.f i hi).1), h.rw.kept hk (fun i hi => hS i (h.f i hi).1), h.rr.kept iZ hk (fun i hi => hS i (h.f i hi).1) (fun i hi => hS i (h.br i hi).1), h.rk.kept hk (fun i hi => hS i (h.f i hi).1),
   fun i hi => have h1 := h.f i hi; ⟨h1.1, Jv h1.2.1 hk.size, h1.2.2⟩, h.br, h.lob⟩
theorem NR.lt (h:NR w lo b F k ng nm va vw vr vk al ws rs ks):b<w.heap.size:=av h.box
theorem NR.at (h:NR w lo b F k ng nm va vw vr vk al ws rs ks):NAt w (fun i=>lo≤i) (.agg #[.int .i64 k,.bool ng,.string (BA nm),va,vw,vr,vk]) (.mk k ng nm al ws rs ks):=
 NAt.shut (n:= .mk k ng nm al ws rs ks) (h.ra.mono (fun i _ hi=>(h.f i hi).1)) (h.rw.mono (fun i _ hi=>(h.f i hi).1)) (j5 h.rr (fun i hi=>(h.f i hi).1) (fun i hi=>(h.br i hi).1)) (h.rk.mono (fun i _ hi=>(h.f i hi).1))
theorem NR.ui (h:NR w lo b F k ng nm va vw vr vk al ws rs ks) {w8 w9:World} {v' u:Value} {x:Int×LP} {G:Nat→Prop} {ps:List ((Int×LP)×Value)} (hl:ps.map Prod.fst=rs) (hps:∀y∈ps,wa3 w F y.2 y.1)
  (hk:Kept S w w8) (hS:∀i,lo≤i→¬S i) (hu:wa3 w8 G u x) (hG:∀i,G i→w.heap.size≤i)
  (ho:w9.ownsRow 0 64 2 v' (rs.length+1) (ps.flatMap RC++RC (x,u))) (hg:w8.grownBy w9 vr.ownBlock) (hf:fQ w8 vr v'):
  NR (w9.setCell ⟨b,5,none⟩ v') lo b (fun i=>F i∨(w.heap.size≤i∧i<w8.heap.size)) k ng nm va vw v' vk al ws (rs++[x]) ks∧Kept (fun i=>S i∨lo≤i) w (w9.setCell ⟨b,5,none⟩ v'):=by
 have hb:=h.lt
 have hz:=hk.size
 have k9:Kept (fun i=>blk vr i) w8 w9:=(Ja _ w8).grown hg (fun i e _=>e)
 have k10:Kept (fun i=>blk vr i∨i=b) w8 (w9.setCell ⟨b,5,none⟩ v'):=(k9.mono (fun _ _ h=>.inl h)).set b 5 (fun _=>.inr rfl) _
 have h8:=h.kept hk hS
 have hz9:=k9.size
 have kS:Kept (fun i=>i=b) w9 (w9.setCell ⟨b,5,none⟩ v'):=(Ja (fun i=>i=b) w9).set b 5 (fun _=>rfl) _
 have hv':∀i,blk v' i→lo≤i∧i≠b:=fun i hi=>by
  rcases hf i hi with e|e
  ·exact⟨(h.br i e).1,(h.br i e).2.1⟩
  ·have:=h.lob;exact⟨by omega,by omega⟩
 have l_rr:=h.rr.lt
 have hF:∀i,(F i∨(w.heap.size≤i∧i<w8.heap.size))→lo≤i∧i<w8.heap.size∧i≠b∧¬blk vr i:=fun i hi=>by
  rcases hi with hi|hi
  ·have h1:=h.f i hi
   exact⟨h1.1,by omega,h1.2.2⟩
  ·have:=h.lob
   exact⟨by omega,hi.2,by omega,fun e=>by have:=l_rr i e;omega⟩
 have hFv:∀i,(F i∨(w.heap.size≤i∧i<w8.heap.size))→¬blk v' i:=fun i hi e=>by
  have h1:=hF i hi
  rcases hf i e with e|e
  ·exact h1.2.2.2 e
  ·omega
 have hst:∀i,F i→¬(blk vr i∨i=b):=fun i hi e=>by have h1:=h.f i hi;rcases e with e|e;exact h1.2.2.2 e;exact h1.2.2.1 e
 refine⟨⟨?_,?_,?_,?_,?_,fun i hi=>?_,fun i hi=>⟨(hv' i hi).1,(hv' i hi).2,trivial⟩,h.lob⟩,?_⟩
 ·have hb9:NBx w9 b #[.int .i64 k,.bool ng,.string (BA nm),va,vw,vr,vk]:=k9.heap h8.box (fun e=>(h.br b e).2.1 rfl)
  exact heap_set hb9 5 v'
 ·exact(h8.ra.kept k10 hst).mono (fun i _ hi=>.inl hi)
 ·exact(h8.rw.kept k10 hst).mono (fun i _ hi=>.inl hi)
 ·refine jj hl (bH kS ho (fun i hi e=>(hv' i hi).2 e)) (fun y hy=>?_) ?_
  ·exact iZ.mono (iZ.kept (iZ.kept (hps y hy) hk (fun i hi=>hS i (h.f i hi).1)) k10 hst) (fun i _ hi=>.inl hi)
  ·exact iZ.mono (iZ.kept (F:=fun i=>w.heap.size≤i∧i<w8.heap.size) (iZ.mono hu (fun i hi hg=>⟨hG i hg,hi⟩)) k10 (fun i hi (e:blk vr i∨i=b)=>by have h1:=hF i (.inr hi);rcases e with e|e;exact h1.2.2.2 e;exact h1.2.2.1 e)) (fun i _ hi=>.inr hi)
 ·exact(h8.rk.kept k10 hst).mono (fun i _ hi=>.inl hi)
 ·have h1:=hF i hi
  have h3:w8.heap.size≤(w9.setCell ⟨b,5,none⟩ v').heap.size:=k10.size
  exact⟨h1.1,Jv h1.2.1 h3,h1.2.2.1,hFv i hi⟩
 ·exact(hk.mono (S':=fun i=>S i∨lo≤i) (fun _ _ h=>.inl h)).trans k10 (fun i hi (e:blk vr i∨i=b)=>by rcases e with e|e;exact .inr (h.br i e).1;exact .inr (by rw[e];exact h.lob))
end
def pL (T:TT) (w:World) (g d lo b:Nat) (k:Int) (ng:Bool) (nm:LB) (va vw vk:Value) (al:List (LB×LP)) (ws:List LP) (rs:List (Int×LP)) (ks:List Nd) (p:Ps) (x:Ending) (w':World):Prop:=
 x= .returned (.bool (bf p).isSome)∧(∃vr' F',NR w' lo b F' k ng nm va vw vr' vk al ws (rs++((bf p).map (·.1)).toList) ks)∧RP T w' g d (((bf p).map (·.2)).getD p)∧Kept (fun i=>i=g∨lo≤i) w w'
theorem rh (T:TT) (w:World) (g d lo b:Nat) (F:Nat→Prop) (k:Int) (ng:Bool) (nm:LB) (va vw vr vk:Value) (al:List (LB×LP)) (ws:List LP) (rs:List (Int×LP)) (ks:List Nd) (p:Ps)
  (h:RP T w g d p) (hE:dm w) (hN:NR w lo b F k ng nm va vw vr vk al ws rs ks) (hg:g<lo) (ht:∀i,blk T.v i→i<lo) (hr9:rs.length≤100000) (hgn:GNe g):
  Calls Tryz.prog 93 #[.pointer (some ⟨g,0,none⟩),.pointer (some ⟨b,0,none⟩)] w (pL T w g d lo b k ng nm va vw vk al ws rs ks p):=by
 have HK:=jd (cX T w g d p h)
 have HP:=jd h;have HE:=jd hE;have HN:=jd hN;have HG:=jd hg;have HTB:=jd ht
 have hlob:=hN.lob
 by_cases hk:ag p<7
 ·have hrd:bf p=none:=by unfold bf;rw[Jt hk]
  have HRD:=jd hrd
  have d1:decide ((ag p:Int)<7)=true:=Jc (by omega)
  have d2:decide (ag p<7)=true:=Jc hk
  obtain⟨kp,hkp⟩:∃kp,ag p=kp:=⟨_,rfl⟩
  rw[hkp] at d1 d2 HK
  clear hk hkp hrd h hE hN ht
  go_enter Tryz.func93,Tryz.ntmps93
  go_wp2_with fail
  refine HK.o.mono ?_
  rintro x w1 ⟨rfl,k1⟩
  have K1:=jd k1
  clear k1
  go_wp2_with fail
  go_ret
  unfold pL
  rw[HRD.o]
  exact⟨rfl,⟨vr,F,by simpa using HN.o.kept K1.o (fun _ _ h=>h)⟩,HP.o.au K1.o,K1.o.mono (fun _ _ h=>h.elim)⟩
 ·obtain⟨at_,hd,hr⟩:=h
  obtain⟨r,e⟩:=p
  cases r with
  |nil=>exact absurd (by decide:(0:Nat)<7) hk
  |cons t r=>
   obtain⟨ha,ht0,hd2⟩:=dc hd
   have hs:=hr.short
   have HR0:=jd hr;have HD2:=jd hd2;have HA:=jd ha
   have q1:at_≤2048:=by omega
   obtain⟨p,hp⟩:∃p,(⟨t::r,e⟩:Ps)=p:=⟨_,rfl⟩
   rw[hp] at hk HP HK⊢
   have htl:aJ p=⟨r,e⟩:=by rw[←hp];rfl
   have d1:decide ((ag p:Int)<7)=false:=Jd (by omega)
   have d2:decide (ag p<7)=false:=Jd hk
   have hrd:bf p=some (((ag p:Int),(aP ⟨r,e⟩).1),(aP ⟨r,e⟩).2):=by unfold bf;rw[Js hk,htl]
   obtain⟨kp,hkp⟩:∃kp,ag p=kp:=⟨_,rfl⟩
   rw[hkp] at d1 d2 HK hrd
   obtain⟨wl,hwl⟩:∃wl,(aP ⟨r,e⟩).1=wl:=⟨_,rfl⟩
   obtain⟨p1,hp1⟩:∃p1,(aP ⟨r,e⟩).2=p1:=⟨_,rfl⟩
   have HWP:=jd (fun wx (hx:RP T wx g d ⟨r,e⟩) (ex:dm wx)=>lJ T wx g d ⟨r,e⟩ hx ex)
   rw[hwl,hp1] at HWP hrd
   have HRD:=jd hrd
   clear hk hd hr hp hkp hrd ha ht0 hd2 htl hwl hp1 hs
   go_enter Tryz.func93,Tryz.ntmps93
   go_wp2_with fail
   refine HK.o.mono ?_
   rintro x w1 ⟨rfl,k1⟩
   have K1:=jd k1
   have hr1:=HR0.o.au k1
   obtain⟨⟨c0,c1,c2,c3⟩,f1,f2,f3⟩:=hr1.cells
   have hlt:=hr1.lt
   have HR1:=jd hr1
   have KS:Hid (Kept (fun i=>i=g) w1 (w1.setCell ⟨g,1,none⟩ (.int .i64 ((at_:Int)+1)))):=jd ((Ja (fun i=>i=g) w1).set g 1 (fun _=>rfl) _)
   have RS:Hid (RP T (w1.setCell ⟨g,1,none⟩ (.int .i64 ((at_:Int)+1))) g d ⟨r,e⟩):=jd ⟨at_+1,HD2.o,HR1.o.setAt HA.o⟩
   clear hr1 k1
   go_wp2_with fail
   obtain⟨wr,hwr⟩:∃wr,w1.setCell ⟨g,1,none⟩ (.int .i64 ((at_:Int)+1))=wr:=⟨_,rfl⟩
   rw[hwr] at KS RS
   have KW:Hid (Kept (fun i=>i=g) w wr):=jd ((K1.o.mono (S':=fun i=>i=g) (fun _ _ h=>h.elim)).trans KS.o (fun _ _ h=>h))
   have hnr:=HN.o.kept KW.o (fun i hi e=>by have e':i=g:=e;omega)
   obtain⟨ra,rcp,rfl,hrl9⟩:=hnr.rr.slice
   obtain⟨m,hm⟩:∃m,rs.length=m:=⟨_,rfl⟩
   have hbg:b≠g:=by omega
   have hgz:g<wr.heap.size:=RS.o.lt
   have hnr':=hnr
   obtain⟨ps,hps,hown,hel⟩:=hnr'.rr
   have HM:=jd hm
   rw[hm] at hown hr9 hnr
   have HOWN:=jd hown
   have HNR:=jd hnr;have HPS:=jd hps;have HEL:=jd hel
   have HER:Hid (dm wr):=jd (HE.o.dz KW.o hgn)
   have hSS:∀i,wr.heap.size≤i→¬duS (fun i=>i=g) (blk (.slice ra m rcp)) i:=fun i hi e=>by
    rcases e with e|e
    ·have e':i=g:=e;omega
    ·have:=df HOWN.o i e;omega
   have hb1:¬(b=g):=hbg
   have hPr:∀(v:Value) (wx wy:World),Kept (fun i=>i=g) wx wy→(∃F',NR wx lo b F' k ng nm va vw v vk al ws (rs++[((kp:Int),wl)]) ks)→∃F',NR wy lo b F' k ng nm va vw v vk al ws (rs++[((kp:Int),wl)]) ks:=fun v wx wy hk ⟨F',h⟩=>⟨F',h.kept hk (fun i hi e=>by have e':i=g:=e;omega)⟩
   rw[hwr]
   clear hwr hnr hnr' hps hown hel c0 c1 c2 c3 f1 f2 f3 hm
   refine cS 13 7 10 (fun i=>i=g) (blk (.slice ra m rcp)) (RdI wr T g d p1 lo b #[.int .i64 k,.bool ng,.string (BA nm),va,vw,.slice ra m rcp,vk]) (jV (fun i=>i=g) b 5 hb1 (fun v w=>∃F',NR w lo b F' k ng nm va vw v vk al ws (rs++[((kp:Int),wl)]) ks) hPr) [rV (.pointer (some ⟨b,0,none⟩)),rV (.pointer (some ⟨b,0,none⟩)),rV (.pointer (some ⟨b,0,none⟩)),rV (.pointer (some ⟨b,5,none⟩)),rV (.slice ra m rcp),rV (.int .i64 (kp:Int)),rV (.pointer (some ⟨g,0,none⟩)),rEl ix (duS (fun i=>i=g) (blk (.slice ra m rcp))) (fun i=>wr.heap.size≤i) hSS wl,rBu ix (fun u=>.agg #[.int .i64 (kp:Int),u]) (duS (fun i=>i=g) (blk (.slice ra m rcp))) (fun i=>wr.heap.size≤i) hSS wl,tS ix (fun x:LP×Value=>[.int .i64 (kp:Int),x.2]) 64 (duS (fun i=>i=g) (blk (.slice ra m rcp))) (fun i=>wr.heap.size≤i) hSS wl,rV (.bool true),rV (.pointer (some ⟨b,0,none⟩)),rV (.pointer (some ⟨b,5,none⟩))] (by kernel_rfl) (by kernel_rfl) ?_ ?_ ?_
   case refine_1=>exact RdI.start HNR.o.box
   case refine_2=>
    refine eZ (by decide) (fun s a' w' hI hag hf K hK=>?_) ?_
    ·have s1:=hag.same 1 (by decide)
     clear hag
     go_wp2_with fail
     exact hK _ _ hI (Ja _ _) rfl
    iterate 6
     refine dY (by decide) (by kernel_rfl) (fun s hs1 a' w' hI hag hf K hK=>?_) ?_
     ·obtain⟨⟨_,h0,rfl⟩,-⟩:=hf
      have s0:=hag.same 0 (by decide)
      have s1:=hag.same 1 (by decide)
      have s5:=hag.same 5 (by decide)
      clear hag
      obtain⟨⟨y0,y1,y2,y3,y4,y5,y6⟩,-⟩:=NBx.cells hI.box
      go_wp2_with fail
      exact hK _ _ hI (Ja _ _) rfl
    refine jK (by decide) (fun a' w' hI hag hf K hK=>?_) ?_
    ·obtain⟨⟨_,h6,rfl⟩,-⟩:ah _ _ a' w' [6]:=hf
     clear hag
     have HI:=jd hI
     have hk0:=hI.k0 rfl
     clear hI
     go_wp2_with fail
     refine(HWP.o _ (RS.o.au hk0) (HER.o.au hk0)).mono ?_
     rintro x w4 ⟨v,rfl,hw4,hr4,hk4⟩
     go_wp2_with fail
     exact hK _ _ (HI.o.call hk4 hr4 hbg) hk4 (hw4.mono (fun i _ hi=>lt9 hk0.size hi))
    refine dY (by decide) (by kernel_rfl) (fun s hs1 a' w' hI hag hf K hK=>?_) ?_
    ·obtain⟨⟨_,h5,rfl⟩,⟨v7,h7,e7⟩,-⟩:ah _ _ a' w' [5,7]:=hf
     clear hag
     have hw7:WAt w' (fun i=>wr.heap.size≤i) v7 wl:=e7
     obtain⟨ua,un,uc,rfl⟩:=hw7.slice
     go_wp2_with fail
     exact hK _ _ hI (Ja _ _) ⟨_,rfl,hw7⟩
    refine dY (by decide) (by kernel_rfl) (fun s hs1 a' w' hI hag hf K hK=>?_) ?_
    ·obtain⟨⟨v8,h8,e8⟩,-⟩:ah _ _ a' w' [8]:=hf
     clear hag
     obtain⟨u,rfl,hu⟩:∃u,v8= .agg #[.int .i64 (kp:Int),u]∧WAt w' (fun i=>wr.heap.size≤i) u wl:=e8
     obtain⟨ua,un,uc,rfl⟩:=hu.slice
     have hz:=hI.k.size
     go_wp2_with fail
     exact hK _ _ (hI.au ((Ja _ _).alloc _)) ((Ja _ _).alloc _) ⟨_,_,rfl,hz,heap_alloc _ _,hu.kept ((Ja _ _).alloc _) (fun _ _ h=>h)⟩
    refine jS (fun a' w' hI hag hf K hK=>?_) ?_
    ·obtain⟨⟨_,h4,rfl⟩,⟨v9,h9,e9⟩,-⟩:ah _ _ a' w' [4,9,7]:=hf
     clear hag
     obtain⟨bb,u,rfl,hbb,hbh,hu⟩:∃bb u,v9= .slice (some ⟨bb,0,none⟩) 1 1∧wr.heap.size≤bb∧w'.heap[bb]? =some (.cells #[.int .i64 (kp:Int),u] 64 (0,0))∧WAt w' (fun i=>wr.heap.size≤i) u wl:=e9
     have hk1:=hI.k1 (Jb _)
     refine bg rfl _ _ _ rfl ERs (.slice ra m rcp) m (ps.flatMap RC) (by simp[Act.eval,h4]) (bH hk1 HOWN.o (fun i hi e=>(HNR.o.br i hi).2.1 ?_)) _ 1 (RC (((kp:Int),wl),u)) (by simp[Act.eval,h9]) (fs (C:=RC) hbh rfl) (fun y hy=>?_) (by unfold maxLen;omega) (by omega) (fun ad9 cap9 w9 ho9 hg9 hf9=>?_)
     ·exact absurd e (by have:=(HNR.o.br i hi).1;intro e';have e2:i=g:=e';omega)
     ·simp only[RC,Jl,List.not_mem_nil,or_false] at hy
      rcases hy with rfl|rfl
      ·rfl
      ·exact nA hu
     have hk9:Kept (blk (.slice ra m rcp)) w' w9:=(Ja _ _).grown hg9 (fun i e _=>e)
     have ho9':w9.ownsRow 0 64 2 (.slice ad9 (m+1) cap9) (rs.length+1) (ps.flatMap RC++RC (((kp:Int),wl),u)):=by rw[HM.o];exact ho9
     have hpush:=(HNR.o.ui (S:=fun i=>i=g) HPS.o HEL.o hk1 (fun i hi e=>by have e':i=g:=e;omega) (x:=((kp:Int),wl)) (u:=u) (G:=fun i=>wr.heap.size≤i) hu (fun i hi=>hi) ho9' hg9 hf9).1
     exact hK _ _ (hI.app hk9 (fun i hi=>⟨(HNR.o.br i hi).1,(HNR.o.br i hi).2.1⟩) hg HTB.o) hk9 ⟨_,hpush⟩
    refine eZ (by decide) (fun s a' w' hI hag hf K hK=>?_) ?_
    ·obtain⟨⟨_,h0,rfl⟩,-⟩:ah _ _ a' w' [0,1,2,3,4,5,6,7,8,9,10]:=hf
     clear hag
     go_wp2_with fail
     exact hK _ _ hI (Ja _ _) rfl
    refine eZ (by decide) (fun s a' w' hI hag hf K hK=>?_) ?_
    ·obtain⟨⟨_,h11,rfl⟩,-⟩:ah _ _ a' w' [11,0,1,2,3,4,5,6,7,8,9,10]:=hf
     clear hag
     go_wp2_with fail
     exact hK _ _ hI (Ja _ _) rfl
    exact trivial
   case refine_3=>
    intro vs wz hI hvs
    have q7:=hvs 7 _ _ rfl rfl
    have q8:=hvs 8 _ _ rfl rfl
    have q9:=hvs 9 _ _ rfl rfl
    have q10:(jV (fun i=>i=g) b 5 hb1 (fun v w=>∃F',NR w lo b F' k ng nm va vw v vk al ws (rs++[((kp:Int),wl)]) ks) hPr).1 (vs 10) wz:=hvs 10 _ _ rfl rfl
    simp only[pzz,aW,Act.put,Nat.reduceAdd,dpv (hvs 0 _ _ rfl rfl) (by decide) rfl,dpv (hvs 1 _ _ rfl rfl) (by decide) rfl,dpv (hvs 2 _ _ rfl rfl) (by decide) rfl,dpv (hvs 3 _ _ rfl rfl) (by decide) rfl,dpv (hvs 4 _ _ rfl rfl) (by decide) rfl,dpv (hvs 5 _ _ rfl rfl) (by decide) rfl,dpv (hvs 6 _ _ rfl rfl) (by decide) rfl,dpv (hvs 11 _ _ rfl rfl) (by decide) rfl,dpv (hvs 12 _ _ rfl rfl) (by decide) rfl]
    clear hvs
    generalize vs 7=x7 at*
    generalize vs 8=x8 at*
    generalize vs 9=x9 at*
    generalize vs 10=x10 at*
    have HI:=jd hI
    obtain⟨F',hnb⟩:∃F',NR (wz.setCell ⟨b,5,none⟩ x10) lo b F' k ng nm va vw x10 vk al ws (rs++[((kp:Int),wl)]) ks:=q10
    obtain⟨za,zn,zc,rfl⟩:∃a n c,x10= .slice a n c:=by obtain⟨a,c,e,_⟩:=hnb.rr.slice;exact⟨a,_,c,e⟩
    have HNB:=jd hnb
    obtain⟨⟨y0,y1,y2,y3,y4,y5,y6⟩,z0,z1,z2,z3,z4,z5,z6⟩:=NBx.cells hI.box
    have hblt:b<wz.heap.size:=av hI.box
    clear hI q7 q8 q9 hnb
    go_wp2_with fail
    go_ret
    unfold pL
    rw[HRD.o]
    refine⟨rfl,⟨_,F',HNB.o⟩,?_,?_⟩
    ·obtain⟨a,h1,h2⟩:=HI.o.p (by decide)
     have kS:Kept (fun i=>i=b) wz (wz.setCell ⟨b,5,none⟩ (.slice za zn zc)):=(Ja (fun i=>i=b) wz).set b 5 (fun _=>rfl) _
     exact⟨a,h1,h2.kept kS (fun e=>hbg e.symm) (fun i hi e=>by have e':i=b:=e;have:=HTB.o i hi;omega)⟩
    ·exact((KW.o.mono (S':=fun i=>i=g∨lo≤i) (fun _ _ h=>.inl h)).trans HI.o.k (fun _ _ h=>h)).set b 5 (fun _=>.inr hlob) _
def Eo:List (LB×Value):=[(dO,.func (.func 103) #[] #[]),(fw,.func (.func 102) #[] #[]),(cZ,.func (.func 101) #[] #[]),(dX,.func (.func 100) #[] #[]),(rIf,.func (.func 99) #[] #[])]
theorem qM (w:World):Calls Tryz.prog 92 #[] w fun x w'=>∃b,x= .returned (.map (some b))∧SMap w w' Tryz.prog 9 b 5 Eo:=by
 have hmm:=@run_makeMap Tryz.prog
 have HM:=jd (SMap.made w w Tryz.prog 9 (Ja _ w))
 go_enter Tryz.func92,Tryz.ntmps92
 go_wp2_with (refine iI rfl _ _ _ _ (.inl rfl) 9 129 Tryz.underlying9 Tryz.underlying131 _ _ _ rfl HM.o (by unfold maxLen;omega) _ rfl (by unfold maxLen;simp) _ rfl ?_;clear HM;intro w9 hm9 hg9;have HM:=jd hm9;clear hm9 hg9)
 go_ret
 exact⟨_,rfl,HM.o⟩
theorem AM {W0 w:World} {b n:Nat} {l:List (LB×Value)} (h:SMap W0 w Tryz.prog 9 b n l) (s:LB) (hs:s.length≤maxLen):
  ∃v,(Instr.lookup 131 (.map (some b)) (.string (BA s)) true).run Tryz.prog w= .ok (.tuple #[v,.bool (dJ l s).isSome]) w∧∀u,dJ l s=some u→v=u:=by
 obtain⟨⟨D,h1,h2⟩,h3,h4⟩:=h
 have hkey:keyOf Tryz.prog 9 (.string (BA s))=some (.string s):=WideMaps.keyOf_string_mk Tryz.underlying9 (by rw[aq];exact hs)
 obtain⟨z,hz⟩:∃z,(zeroValue 129).run Tryz.prog w= .ok z w:=⟨_,rfl⟩
 obtain⟨v,ps,hrun,hv⟩:=h1.look_ok (Maps.string_keyed Tryz.underlying9) Tryz.underlying131 hz (zd:= .held z) (zp:=[]) rfl hkey
 have hh:Maps.has D (.string s)=(dJ l s).isSome:=by
  cases e:dJ l s with
  |none=>exact Maps.has_false_of_atKey (fun z=>by rw[h2,e];rfl)
  |some u=>exact Maps.has_true_of_atKey (fun z=>by rw[h2,e];rfl)
 refine⟨v,by rw[hrun,hh],fun u hu=>?_⟩
 rw[h2,hu] at hv
 cases hv;rfl
theorem zf (s:LB):(dJ Eo s).isSome=iG s:=by
 unfold iG Eo dJ dJ dJ dJ dJ dJ
 by_cases h1:s=dO
 ·rw[h1];rfl
 ·by_cases h2:s=fw
  ·rw[h2];rfl
  ·by_cases h3:s=cZ
   ·rw[h3];rfl
   ·by_cases h4:s=dX
    ·rw[h4];rfl
    ·by_cases h5:s=rIf
     ·rw[h5];rfl
     ·have n1:=Ne.symm h1;have n2:=Ne.symm h2;have n3:=Ne.symm h3;have n4:=Ne.symm h4;have n5:=Ne.symm h5
      simp only[n1,n2,n3,n4,n5,if_false,Option.isSome_none,List.contains_cons,List.contains_nil]
      simp[h1,h2,h3,h4,h5]
def FY (n:Nat):Prop:=∀s,iG s=true→∃f,dJ Eo s=some (.func (.func f) #[] #[])∧Go.Proofs.Enters Tryz.prog f∧CJ f eG (fun d p=>.read d s p) n
theorem zE (n:Nat) (h1:CJ 99 eG (fun d p=>.branches d [] p) n) (h2:CJ 100 eG (fun d p=>.loop d 7 p) n) (h3:CJ 101 eG (fun d p=>.loop d 8 p) n) (h4:CJ 102 eG .each n) (h5:CJ 103 eG .group n):FY (n+1):=by
 intro s hs
 have hs':s∈[rIf,dX,cZ,fw,dO]:=by unfold iG at hs;exact List.contains_iff_mem.1 hs
 simp only[Jl,List.not_mem_nil,or_false] at hs'
 rcases hs' with rfl|rfl|rfl|rfl|rfl
 ·exact⟨_,rfl,Go.Proofs.enters_of Tryz.func99 (by kernel_rfl) rfl,fun T w g d p x hx=>h1 T w g d p x hx⟩
 ·exact⟨_,rfl,Go.Proofs.enters_of Tryz.func100 (by kernel_rfl) rfl,fun T w g d p x hx=>h2 T w g d p x hx⟩
 ·exact⟨_,rfl,Go.Proofs.enters_of Tryz.func101 (by kernel_rfl) rfl,fun T w g d p x hx=>h3 T w g d p x hx⟩
 ·exact⟨_,rfl,Go.Proofs.enters_of Tryz.func102 (by kernel_rfl) rfl,fun T w g d p x hx=>h4 T w g d p x hx⟩
 ·exact⟨_,rfl,Go.Proofs.enters_of Tryz.func103 (by kernel_rfl) rfl,fun T w g d p x hx=>h5 T w g d p x hx⟩
