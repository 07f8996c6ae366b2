import Derived.Test.YtgigdlhcjahejaaGreatDoorF28
import Derived.Deep.DeepCutAuto
import Derived.Deep.CutBlock
set_option linter.all false
set_option maxHeartbeats 400000000
namespace Go.Proofs.YtgigdlhcjahejaaGreatDoor
open Go Go.RowKit Go.Lw
set_option maxRecDepth 100000
attribute [local go_sem] aA
def bD (p:Ps):LB×Ps:=match p.r with
 |[]=>([],bm p 5)
 |t::r=>if t.kind=1∧dh t.text=true then(t.text,⟨r,p.e⟩) else([],bm p 5)
def bN (q:Ps):List LP×Ps:=bs (q.r.length+1) q
def dP (q:Ps):Ps:=if(aL q).1=true then(aL q).2 else bm q 5
theorem ev (p:Ps):bL p=((bD p).1,(bN (ay rIn (aD (bD p).2))).1,aD (dP (bN (ay rIn (aD (bD p).2))).2)):=rfl
theorem oJ:∀(n:Nat) (p:Ps),p.len<n→bs (n+1) p=bs n p
 |0,p,h=>by omega
 |n+1,p,h=>by
  conv=>lhs;unfold bs
  conv=>rhs;unfold bs
  split
  ·rename_i h1
   have:=fb h1
   rw[oJ n _ (by omega)]
  ·rfl
theorem xh (n k:Nat) (p:Ps) (h:p.len<n):bs (n+k) p=bs n p:=by
 induction k with
 |zero=>rfl
 |succ k ih=>rw[←Nat.add_assoc,oJ _ p (by omega),ih]
theorem yW {q:Ps} (h:ag q=1):bN q=((aP q).1::(bN (aP q).2).1,(bN (aP q).2).2):=by
 have h1:(aP q).2.r.length<q.r.length:=fb h
 obtain⟨k,hk⟩:∃k,q.r.length=((aP q).2.r.length+1)+k:=⟨q.r.length -((aP q).2.r.length+1),by omega⟩
 conv=>lhs;unfold bN;unfold bs
 rw[Jt h]
 unfold bN
 rw[hk,xh _ _ _ (Nat.lt_succ_self _)]
theorem Bj {q:Ps} (h:ag q≠1):bN q=([],q):=by
 unfold bN;unfold bs
 rw[Js h]
theorem qT {q:Ps} (h:(aL q).1=false):(aL q).2=q:=by
 unfold aL at h⊢
 split
 ·rename_i h1;rw[Jt h1] at h;cases h
 ·rfl
def EaI (T:TT) (w:World) (g d:Nat) (nm:LB) (WS:List LP) (Q2:Ps) (gk:Nat) (wx:World):Prop:=
 ∃(acc:List LP) (q:Ps) (F:Nat→Prop) (vw:Value),NB wx (w.heap.size+1) (w.heap.size+1) F 9 false nm (.slice none 0 0) vw (.slice none 0 0) (.slice none 0 0) [] acc [] []∧RP T wx g d q∧Kept (fun i=>i=g) w wx∧NBx wx w.heap.size zN∧gk=q.r.length∧acc.length+q.r.length≤2048∧acc++(bN q).1=WS∧(bN q).2=Q2
theorem Cq {T:TT} {w w5 W9:World} {g d:Nat} {x:Rd9} {p9:Ps} {nm:LB} {ws:List LP} {nd:Nd} {F:Nat→Prop} {vw:Value} {cs:Array Value} (hx:x.ns=[.mk 9 false nm [] ws [] [nd]]) (hxp:x.p=p9)
  (hn:NB w5 (w.heap.size+1) (w.heap.size+1) F 9 false nm (.slice none 0 0) vw (.slice none 0 0) (.slice none 0 0) [] ws [] []) (hv:NAt w5 (fun i=>w.heap.size+2≤i) (.agg cs) nd) (hr:RP T w5 g d p9) (hk:Kept (fun i=>i=g) w w5)
  (k9:Kept (fun i=>i=w.heap.size+1∨i=w.heap.size) w5 W9) (h9:W9.heap[w5.heap.size]? =some (.cells cs 27 (0,0))) (hg:g<w.heap.size) (ht:∀i,blk T.v i→i<g):
  eR T w g d x (.returned (.agg #[.int .i64 9,.bool false,.string (BA nm),.slice none 0 0,vw,.slice none 0 0,.slice (some ⟨w5.heap.size,0,none⟩) 1 1])) W9:=by
 have hlt:=hn.lt
 have hw:mI W9 (fun i=>w.heap.size≤i) vw ws:=(j5 (G:=fun i=>w.heap.size+2≤i) hn.rw (fun i hi=>by have h1:=(hn.f i hi).1;have h2:=(hn.f i hi).2.2.1;omega) (fun i hi=>by have h1:=(hn.bw i hi).1;have h2:=(hn.bw i hi).2.1;omega)|>.kept k9 (fun i hi e=>by have hi':w.heap.size+2≤i:=hi;rcases e with e|e<;>omega)).mono (fun i _ hi=>by have hi':w.heap.size+2≤i:=hi;omega)
 refine⟨_,_,hx,rfl,NAt.shut (n:= .mk 9 false nm [] ws [] [nd]) (bT.nil _ _) hw (bT.nil _ _) (AD h9 ((hv.kept k9 (fun i hi e=>by have hi':w.heap.size+2≤i:=hi;rcases e with e|e<;>omega)).mono (fun i _ hi=>by have hi':w.heap.size+2≤i:=hi;omega)) (by show w.heap.size≤w5.heap.size;omega)),?_,hk.trans k9 (fun i hi e=>by rcases e with e|e<;>omega)⟩
 obtain⟨a,h1,h2⟩:=hr
 rw[hxp]
 exact⟨a,h1,h2.kept k9 (fun e=>by rcases e with e|e<;>omega) (fun i hi e=>by have:=ht i hi;rcases e with e|e<;>omega)⟩
theorem A6 (n:Nat) (HB:Hid (CJ 109 eR .body n)):CJ 102 eG .each (n+1):=by
 intro T w g d p x hx hp hE hgn ht
 rw[run] at hx
 obtain⟨y,hy,hX⟩:=Jh.1 hx
 obtain⟨nd,hn1⟩:=(cJ _ _ _ hy).1 trivial
 obtain⟨nm,hnm⟩:∃nm,(bD p).1=nm:=⟨_,rfl⟩
 obtain⟨q0,hq0⟩:∃q0,(bD p).2=q0:=⟨_,rfl⟩
 obtain⟨q1,hq1⟩:∃q1,ay rIn (aD q0)=q1:=⟨_,rfl⟩
 obtain⟨WS,hWS⟩:∃WS,(bN q1).1=WS:=⟨_,rfl⟩
 obtain⟨Q2,hQ2⟩:∃Q2,(bN q1).2=Q2:=⟨_,rfl⟩
 obtain⟨p8,hp8⟩:∃p8,aD (dP Q2)=p8:=⟨_,rfl⟩
 obtain⟨p9,hp9⟩:∃p9,y.p=p9:=⟨_,rfl⟩
 have HXN:Hid (x.ns=[.mk 9 false nm [] WS [] [nd]]):=jd (by rw[←hX,hn1,ev];show[_]=_;rw[hnm,hq0,hq1,hWS])
 have HXP:Hid (x.p=p9):=jd (by rw[←hX,←hp9])
 have hy':run n (.body d p8)=some y:=by
  have h1:(bL p).2.2=p8:=by rw[ev];show aD (dP _)=_;rw[hq0,hq1,hQ2,hp8]
  rw[←h1];exact hy
 have HNM:=jd hnm;have HQ0:=jd hq0;have HQ1:=jd hq1;have HWS:=jd hWS;have HQ2:=jd hQ2;have HP8:=jd hp8
 have hpl:=hp.len
 have HPL:=jd hpl
 obtain⟨W0,hW0⟩:∃W0,w.alloc (.cells zN 27)=W0:=⟨_,rfl⟩
 have hs0:W0.heap.size=w.heap.size+1:=by rw[←hW0,World.size_alloc]
 have KA:Hid (Kept (fun _=>False) w W0):=jd (by rw[←hW0];exact(Ja _ w).alloc _)
 have PA:Hid (NBx W0 w.heap.size zN):=jd (by rw[←hW0];exact heap_alloc w _)
 have HW0:=jd hW0
 have hgl:=hp.lt
 have HE:=jd hE;have HGN:=jd hgn;have HTB:=jd ht
 have HP0:=jd (hp.au KA.o);have HE0:=jd (hE.au KA.o)
 have HS0:=jd hs0
 have HBC:=jd (fun(wx:World) (hr:RP T wx g d p8) (he:bW wx)=>(HB.o T wx g d p8 y hy' hr he HGN.o HTB.o).mono (fun e w' h=>fN hn1 hp9 h))
 have hHP:=hp
 have HHP:=jd hHP
 clear hx hp hE hgn ht hW0 hy hX hy' hn1 hnm hq0 hq1 hWS hQ2 hp8 hp9 hpl hHP
 go_enter Tryz.func102,Tryz.ntmps102
 go_wp2_with fail
 rw[HW0.o]
 obtain⟨W1,hW1⟩:∃W1,W0.alloc (.cells #[.int .i64 9,.bool false,.string ⟨#[]⟩,.slice none 0 0,.slice none 0 0,.slice none 0 0,.slice none 0 0] 27)=W1:=⟨_,rfl⟩
 have K1:Hid (Kept (fun _=>False) W0 W1):=jd (by rw[←hW1];exact(Ja _ W0).alloc _)
 have B1:Hid (NBx W1 (w.heap.size+1) #[.int .i64 9,.bool false,.string (BA []),.slice none 0 0,.slice none 0 0,.slice none 0 0,.slice none 0 0]):=jd (by rw[←hs0,←hW1];exact heap_alloc W0 _)
 rw[hW1]
 try rw[hs0]
 clear hW1 hs0
 have HGL:Hid (g<w.heap.size+1):=jd (by omega)
 have HPW:Hid (RP T W1 g d p):=jd (HP0.o.au K1.o)
 have HKA0:Hid (Kept (fun i=>i=g) w W1):=jd ((KA.o.trans K1.o (fun _ _ h=>h)).mono (fun _ _ h=>h.elim))
 have HPR0:Hid (NBx W1 w.heap.size zN):=jd (K1.o.heap PA.o (fun h=>h))
 go_cut [21] (fun s21 wx=>∃bb:Bool,s21= .bool bb∧Kept (fun _=>False) W1 wx∧(bb=true→∃t r e,p=⟨t::r,e⟩∧t.kind=1∧dh t.text=true)∧(bb=false→bD p=([],bm p 5)))
 case first=>
  by_cases hk:ag p=1
  ·obtain⟨at_,hd,hr⟩:=HPW.o
   obtain⟨r,e⟩:=p
   cases r with
   |nil=>cases hk
   |cons t r=>
    obtain⟨ha,ht0,hd2⟩:=dc hd
    have hs:=hr.short;have hle:=hr.le
    have htl:=(hr.toks t (List.mem_of_getElem? ht0)).2
    obtain⟨tx,htx⟩:∃tx,t.text=tx:=⟨_,rfl⟩
    obtain⟨N,hN⟩:∃N,T.L.length=N:=⟨_,rfl⟩
    rw[hN] at hs hle ha
    rw[htx] at htl
    have HN:=jd hN
    have HR:=jd hr
    obtain⟨b,off,e1,t0,t1,tl⟩:=jl hr.tok ht0
    rw[htx] at t1
    have HAD:=jd e1;have HT1:=jd t1
    have hlt:=hr.lt
    obtain⟨nb,hnb⟩:∃nb,dh tx=nb:=⟨_,rfl⟩
    have HNBM:=jd hnb
    have HX:Hid ((nb=true→∃t' r' e',(⟨t::r,e⟩:Ps)=⟨t'::r',e'⟩∧t'.kind=1∧dh t'.text=true)∧(nb=false→bD ⟨t::r,e⟩=([],bm ⟨t::r,e⟩ 5))):=jd ⟨fun h=>⟨t,r,e,rfl,hk,by rw[htx,hnb,h]⟩,fun h=>by
     show(if t.kind=1∧dh t.text=true then(t.text,_) else _)=_
     rw[Js (fun e=>by rw[htx,hnb,h] at e;exact absurd e.2 (by decide))]⟩
    obtain⟨p,hp⟩:∃p,(⟨t::r,e⟩:Ps)=p:=⟨_,rfl⟩
    have hk9:ag p=1:=by rw[←hp];exact hk
    rw[hp] at HPW HX
    have HKP:=jd hk9;have HPE:=jd hp
    clear hd hr ht0 hd2 hk htx hp hk9 hN hnb e1 t0 t1 HHP HP0 HPL HNM HQ0
    refine bG 17 [stV (.pointer (some ⟨g,0,none⟩)),stV (.int .i64 ((1:Nat):Int)),stV (.bool true),stV (.bool true),stV (.pointer (some ⟨g,0,none⟩)),stV (.pointer (some ⟨g,0,none⟩)),stV (.pointer (some ⟨g,0,none⟩)),stV (.slice (some ⟨b,off,none⟩) N T.c),stV (.pointer (some ⟨g,0,none⟩)),stV (.pointer (some ⟨g,0,none⟩)),stV (.pointer (some ⟨g,1,none⟩)),stV (.int .i64 (at_:Int)),stV (.pointer (some ⟨b,off+at_*3,none⟩)),stV (.pointer (some ⟨b,off+at_*3+1,none⟩)),stV (.string (BA tx)),stV (.bool nb),stV (.bool nb)] (by kernel_rfl) (by kernel_rfl) ?_ ?_
    ·refine ai (fun a' w' hI hag hf K hK=>?_) ?_
     ·have s0:=hag.same 0 (by decide)
      clear hag
      go_wp2_with fail
      exact hK _ _ hI (Ja _ _) rfl
     refine ai (fun a' w' hI hag hf K hK=>?_) ?_
     ·obtain⟨⟨_,h0,rfl⟩,-⟩:ah _ _ a' w' [0]:=hf
      clear hag
      go_wp2_with fail
      refine(cX T _ g d p (HPW.o.au hI)).mono ?_
      rintro e wn ⟨rfl,hkn⟩
      rw[HKP.o]
      go_wp2_with fail
      exact hK _ _ (hI.trans hkn (fun _ _ h=>h)) hkn rfl
     iterate 13
      refine ai (fun a' w' hI hag hf K hK=>?_) ?_
      ·obtain⟨⟨_,h0,rfl⟩,⟨_,h1,rfl⟩,⟨_,h2,rfl⟩,-⟩:=hf
       have s0:=hag.same 0 (by decide)
       clear hag
       have RX:=HR.o.au hI
       obtain⟨⟨c0,c1,c2,c3⟩,-⟩:=RX.cells
       rw[HN.o] at c0
       clear RX
       rw[HAD.o] at c0
       have RX:=HR.o.au hI
       obtain⟨⟨c0,c1,c2,c3⟩,-⟩:=RX.cells
       rw[HN.o] at c0
       clear RX
       have tt:=hI.cell HT1.o (fun h=>h)
       go_wp2_with fail
       exact hK _ _ hI (Ja _ _) rfl
     refine ai (fun a' w' hI hag hf K hK=>?_) ?_
     ·obtain⟨⟨_,h14,rfl⟩,⟨_,h3,rfl⟩,-⟩:ah _ _ a' w' [14,3]:=hf
      clear hag
      go_wp2_with fail
      refine(gA _ tx (by omega)).mono ?_
      rintro e wn ⟨rfl,hwn⟩
      obtain rfl:=hwn.symm
      rw[HNBM.o]
      go_wp2_with fail
      exact hK _ _ hI (Ja _ _) rfl
     refine ai (fun a' w' hI hag hf K hK=>?_) ?_
     ·obtain⟨⟨_,h0,rfl⟩,⟨_,h1,rfl⟩,-⟩:=hf
      clear hag
      go_wp2_with fail
      exact hK _ _ hI (Ja _ _) rfl
     exact trivial
    ·intro vs wz hI hvs
     simp only[pzz,aW,Act.put,Nat.reduceAdd,spv (hvs 0 _ _ rfl rfl) rfl,spv (hvs 1 _ _ rfl rfl) rfl,spv (hvs 2 _ _ rfl rfl) rfl,spv (hvs 3 _ _ rfl rfl) rfl,spv (hvs 4 _ _ rfl rfl) rfl,spv (hvs 5 _ _ rfl rfl) rfl,spv (hvs 6 _ _ rfl rfl) rfl,spv (hvs 7 _ _ rfl rfl) rfl,spv (hvs 8 _ _ rfl rfl) rfl,spv (hvs 9 _ _ rfl rfl) rfl,spv (hvs 10 _ _ rfl rfl) rfl,spv (hvs 11 _ _ rfl rfl) rfl,spv (hvs 12 _ _ rfl rfl) rfl,spv (hvs 13 _ _ rfl rfl) rfl,spv (hvs 14 _ _ rfl rfl) rfl,spv (hvs 15 _ _ rfl rfl) rfl,spv (hvs 16 _ _ rfl rfl) rfl]
     clear hvs
     have KZ:=jd hI
     clear hI
     go_wp2_with fail
     go_meet
     exact⟨nb,rfl,KZ.o,(by rw[HPE.o];exact HX.o.1),(by rw[HPE.o];exact HX.o.2)⟩
  ·have HX:Hid (bD p=([],bm p 5)):=jd (by
    obtain⟨r,e⟩:=p
    cases r with
    |nil=>rfl
    |cons t r=>show(if t.kind=1∧_ then _ else _)=_;rw[Js (fun e=>hk e.1)])
   obtain⟨kp,hkp⟩:∃kp,ag p=kp:=⟨_,rfl⟩
   have HKP:=jd hkp
   have d1:((kp:Int)==1)=false:=by apply Jq.2;omega
   have d2:(kp==1)=false:=by apply Jq.2;omega
   clear hk hkp
   refine bG 17 [stV (.pointer (some ⟨g,0,none⟩)),stV (.int .i64 (kp:Int)),stV (.bool false),stV (.bool false),stV undef,stV undef,stV undef,stV undef,stV undef,stV undef,stV undef,stV undef,stV undef,stV undef,stV undef,stV undef,stV (.bool false)] (by kernel_rfl) (by kernel_rfl) ?_ ?_
   ·refine ai (fun a' w' hI hag hf K hK=>?_) ?_
    ·have s0:=hag.same 0 (by decide)
     clear hag
     go_wp2_with fail
     exact hK _ _ hI (Ja _ _) rfl
    refine ai (fun a' w' hI hag hf K hK=>?_) ?_
    ·obtain⟨⟨_,h0,rfl⟩,-⟩:ah _ _ a' w' [0]:=hf
     clear hag
     go_wp2_with fail
     refine(cX T _ g d p (HPW.o.au hI)).mono ?_
     rintro e wn ⟨rfl,hkn⟩
     rw[HKP.o]
     go_wp2_with fail
     exact hK _ _ (hI.trans hkn (fun _ _ h=>h)) hkn rfl
    iterate 15
     refine ai (fun a' w' hI hag hf K hK=>?_) ?_
     ·obtain⟨⟨_,h0,rfl⟩,⟨_,h1,rfl⟩,⟨_,h2,rfl⟩,-⟩:=hf
      have s0:=hag.same 0 (by decide)
      clear hag
      go_wp2_with fail
      exact hK _ _ hI (Ja _ _) rfl
    exact trivial
   ·intro vs wz hI hvs
    simp only[pzz,aW,Act.put,Nat.reduceAdd,spv (hvs 0 _ _ rfl rfl) rfl,spv (hvs 1 _ _ rfl rfl) rfl,spv (hvs 2 _ _ rfl rfl) rfl,spv (hvs 3 _ _ rfl rfl) rfl,spv (hvs 4 _ _ rfl rfl) rfl,spv (hvs 5 _ _ rfl rfl) rfl,spv (hvs 6 _ _ rfl rfl) rfl,spv (hvs 7 _ _ rfl rfl) rfl,spv (hvs 8 _ _ rfl rfl) rfl,spv (hvs 9 _ _ rfl rfl) rfl,spv (hvs 10 _ _ rfl rfl) rfl,spv (hvs 11 _ _ rfl rfl) rfl,spv (hvs 12 _ _ rfl rfl) rfl,spv (hvs 13 _ _ rfl rfl) rfl,spv (hvs 14 _ _ rfl rfl) rfl,spv (hvs 15 _ _ rfl rfl) rfl,spv (hvs 16 _ _ rfl rfl) rfl]
    clear hvs
    have KZ:=jd hI
    clear hI d1 d2
    go_wp2_with fail
    go_meet
    exact⟨false,rfl,KZ.o,(fun e=>by cases e),fun _=>HX.o⟩
 case rest=>
  obtain⟨bb,rfl,kz,hbt,hbf⟩:=hcut
  have KZ:=jd kz;have HBT:=jd hbt;have HBF:=jd hbf
  clear kz hbt hbf
  obtain⟨wz,hwz⟩:∃wz,wc=wz:=⟨_,rfl⟩
  subst hwz
  go_upto_if 21 with fail
  go_cut [] (fun wx=>RP T wx g d q0∧Kept (fun i=>i=g) w wx∧NBx wx w.heap.size zN∧NB wx (w.heap.size+1) (w.heap.size+1) (fun _=>False) 9 false nm (.slice none 0 0) (.slice none 0 0) (.slice none 0 0) (.slice none 0 0) [] [] [] [])
  case first=>
   cases bb with
   |false=>
    have HF5:Hid (q0=bm p 5):=jd (by rw[←HQ0.o,HBF.o rfl])
    have HF6:Hid (nm=[]):=jd (by rw[←HNM.o,HBF.o rfl])
    clear HBT HBF
    have HFA:=jd (dV T wc g d p (HPW.o.au KZ.o) 5)
    go_wp2_with fail
    refine HFA.o.mono ?_
    rintro e wA ⟨rfl,rA,kA⟩
    have HRPA:Hid (RP T wA g d q0):=jd (by rw[HF5.o];exact rA)
    have K1A:Hid (Kept (fun i=>i=g) W1 wA):=jd ((KZ.o.mono (S':=fun i=>i=g) (fun _ _ h=>h.elim)).trans kA (fun _ _ h=>h))
    have HKA:Hid (Kept (fun i=>i=g) w wA):=jd (HKA0.o.trans K1A.o (fun _ _ h=>h))
    have HPRA:Hid (NBx wA w.heap.size zN):=jd (K1A.o.heap HPR0.o (fun e=>by have e':w.heap.size=g:=e;omega))
    have HNBA:Hid (NB wA (w.heap.size+1) (w.heap.size+1) (fun _=>False) 9 false nm (.slice none 0 0) (.slice none 0 0) (.slice none 0 0) (.slice none 0 0) [] [] [] []):=jd (by rw[HF6.o];exact NB.init _ _ _ _ _ _ (K1A.o.heap B1.o (fun e=>by have e':w.heap.size+1=g:=e;omega)) (Jb _))
    clear rA kA HFA KZ K1A HPW HKA0 HPR0 K1 B1 KA PA HP0 HE0
    go_wp2_with fail
    go_meet
    exact⟨HRPA.o,HKA.o,HPRA.o,HNBA.o⟩
   |true=>
    obtain⟨t,r,e,rfl,hk,hnb⟩:=HBT.o rfl
    obtain⟨at_,hd,hr⟩:=HPW.o.au KZ.o
    obtain⟨ha,ht0,hd2⟩:=dc hd
    have hs:=hr.short;have hle:=hr.le
    have htl:=(hr.toks t (List.mem_of_getElem? ht0)).2
    obtain⟨tx,htx⟩:∃tx,t.text=tx:=⟨_,rfl⟩
    obtain⟨N,hN⟩:∃N,T.L.length=N:=⟨_,rfl⟩
    rw[hN] at hs hle ha
    rw[htx] at htl
    have HN:=jd hN
    have HR:=jd hr
    obtain⟨b,off,e1,t0,t1,tl⟩:=jl hr.tok ht0
    rw[htx] at t1
    have HAD:=jd e1;have HT1:=jd t1
    have hlt:=hr.lt
    rw[htx] at hnb
    have HEQ:Hid (bD ⟨t::r,e⟩=(tx,⟨r,e⟩)):=jd (by
     show(if t.kind=1∧dh t.text=true then(t.text,_) else _)=_
     rw[Jt ⟨hk,by rw[htx];exact hnb⟩,htx])
    have HF5:Hid (q0=aJ ⟨t::r,e⟩):=jd (by rw[←HQ0.o,HEQ.o];rfl)
    have HF6:Hid (nm=tx):=jd (by rw[←HNM.o,HEQ.o])
    have HPZ:=jd (HPW.o.au KZ.o)
    obtain⟨p,hp⟩:∃p,(⟨t::r,e⟩:Ps)=p:=⟨_,rfl⟩
    have hk9:ag p≠0:=by rw[←hp];show t.kind≠0;rw[hk];decide
    rw[hp] at HPW HPZ HF5
    have HKP:=jd hk9
    have B2:=jd (KZ.o.heap B1.o (fun h=>h))
    have HPR2:=jd (KZ.o.heap HPR0.o (fun h=>h))
    have HKZ:Hid (Kept (fun i=>i=g) w wc):=jd (HKA0.o.trans KZ.o (fun _ _ h=>h.elim))
    clear hd hr ht0 hd2 hk htx hp hk9 hN hnb e1 t0 t1 HHP HP0 HPL HNM HQ0 HEQ HBT HBF B1 HPR0 HKA0 KA PA HE0 K1
    go_wp2_with fail
    refine bG 12 [stV (.pointer (some ⟨g,0,none⟩)),stV (.pointer (some ⟨g,0,none⟩)),stV (.pointer (some ⟨g,0,none⟩)),stV (.slice (some ⟨b,off,none⟩) N T.c),stV (.pointer (some ⟨g,0,none⟩)),stV (.pointer (some ⟨g,0,none⟩)),stV (.pointer (some ⟨g,1,none⟩)),stV (.int .i64 (at_:Int)),stV (.pointer (some ⟨b,off+at_*3,none⟩)),stV (.pointer (some ⟨b,off+at_*3+1,none⟩)),stV (.string (BA tx)),stV (.pointer (some ⟨w.heap.size+1,2,none⟩))] (by kernel_rfl) (by kernel_rfl) ?_ ?_
    ·iterate 12
      refine ai (fun a' w' hI hag hf K hK=>?_) ?_
      ·obtain⟨⟨_,h0,rfl⟩,⟨_,h1,rfl⟩,⟨_,h2,rfl⟩,⟨_,h3,rfl⟩,⟨_,h4,rfl⟩,⟨_,h5,rfl⟩,⟨_,h6,rfl⟩,⟨_,h7,rfl⟩,⟨_,h8,rfl⟩,⟨_,h9,rfl⟩,⟨_,h10,rfl⟩,-⟩:=hf
       have s0:=hag.same 0 (by decide)
       have s3:=hag.same 3 (by decide)
       clear hag
       have RX:=HR.o.au hI
       obtain⟨⟨c0,c1,c2,c3⟩,-⟩:=RX.cells
       rw[HN.o] at c0
       clear RX
       rw[HAD.o] at c0
       have RX:=HR.o.au hI
       obtain⟨⟨c0,c1,c2,c3⟩,-⟩:=RX.cells
       rw[HN.o] at c0
       clear RX
       have tt:=hI.cell HT1.o (fun h=>h)
       go_wp2_with fail
       exact hK _ _ hI (Ja _ _) rfl
     exact trivial
    ·intro vs wq hI hvs
     simp only[pzz,aW,Act.put,Nat.reduceAdd,spv (hvs 0 _ _ rfl rfl) rfl,spv (hvs 1 _ _ rfl rfl) rfl,spv (hvs 2 _ _ rfl rfl) rfl,spv (hvs 3 _ _ rfl rfl) rfl,spv (hvs 4 _ _ rfl rfl) rfl,spv (hvs 5 _ _ rfl rfl) rfl,spv (hvs 6 _ _ rfl rfl) rfl,spv (hvs 7 _ _ rfl rfl) rfl,spv (hvs 8 _ _ rfl rfl) rfl,spv (hvs 9 _ _ rfl rfl) rfl,spv (hvs 10 _ _ rfl rfl) rfl,spv (hvs 11 _ _ rfl rfl) rfl]
     clear hvs
     have KQ:=jd hI
     have HPQ:=jd (HPZ.o.au hI)
     have B3:Hid (NBx wq (w.heap.size+1) #[.int .i64 9,.bool false,.string (BA []),.slice none 0 0,.slice none 0 0,.slice none 0 0,.slice none 0 0]):=jd (hI.heap B2.o (fun h=>h))
     have HPR3:Hid (NBx wq w.heap.size zN):=jd (hI.heap HPR2.o (fun h=>h))
     have HKQ:Hid (Kept (fun i=>i=g) w wq):=jd (HKZ.o.trans hI (fun _ _ h=>h.elim))
     clear hI
     obtain⟨⟨y0,y1,y2,y3,y4,y5,y6⟩,z0,z1,z2,z3,z4,z5,z6⟩:=NBx.cells B3.o
     have hblt:w.heap.size+1<wq.heap.size:=av B3.o
     have B4:=jd (B3.o.s2 (.string (BA tx)))
     have KS:Hid (Kept (fun i=>i=w.heap.size+1) wq (wq.setCell ⟨w.heap.size+1,2,none⟩ (.string (BA tx)))):=jd ((Ja (fun i=>i=w.heap.size+1) wq).set (w.heap.size+1) 2 (fun _=>rfl) _)
     have HPS:Hid (RP T (wq.setCell ⟨w.heap.size+1,2,none⟩ (.string (BA tx))) g d p):=jd (by
      obtain⟨a,h1,h2⟩:=HPQ.o
      exact⟨a,h1,h2.kept KS.o (fun e=>by have e':g=w.heap.size+1:=e;omega) (fun i hi e=>by have e':i=w.heap.size+1:=e;have:=HTB.o i hi;omega)⟩)
     obtain⟨at2,a1,a2,a3,a4,RS,KS2⟩:=HPS.o.next HKP.o
     go_wp2_with fail
     obtain⟨wA,hwA⟩:∃wA,(wq.setCell ⟨w.heap.size+1,2,none⟩ (.string (BA tx))).setCell ⟨g,1,none⟩ (.int .i64 ((at2:Int)+1))=wA:=⟨_,rfl⟩
     rw[hwA] at RS KS2⊢
     go_meet
     exact⟨by rw[HF5.o];exact RS.o,(HKQ.o.trans KS.o (fun i hi e=>by have e':i=w.heap.size+1:=e;omega)).trans KS2.o (fun _ _ h=>h),KS2.o.heap (KS.o.heap HPR3.o (fun e=>by have e':w.heap.size=w.heap.size+1:=e;omega)) (fun e=>by have e':w.heap.size=g:=e;omega),by rw[HF6.o];exact NB.init _ _ _ _ _ _ (KS2.o.heap B4.o (fun e=>by have e':w.heap.size+1=g:=e;omega)) (Jb _)⟩
  case rest=>
   obtain⟨h1,h2,h3,h4⟩:=hcut
   have HRPA:=jd h1;have HKA:=jd h2;have HPRA:=jd h3;have HNBA:=jd h4
   clear h1 h2 h3 h4 KZ HBT HBF HPW HKA0 HPR0 K1 B1 KA PA HP0 HE0 HHP
   obtain⟨wA,hwA⟩:∃wA,wc=wA:=⟨_,rfl⟩
   subst hwA
   go_wp2_with fail
   have HEA:Hid (bW wc):=jd (HE.o.dz HKA.o HGN.o)
   have HRE:=jd (fD T wc g d q0 HRPA.o)
   refine HRE.o.mono ?_
   rintro e wB ⟨rfl,rB,kB⟩
   have HMU:=jd (fW T wB g d (aD q0) rB (HEA.o.dz kB HGN.o) rIn (by decide))
   rw[HQ1.o] at HMU
   have KB:=jd kB
   clear rB kB HRE
   go_wp2_with fail
   refine HMU.o.mono ?_
   rintro e wC ⟨rfl,rC,kC⟩
   have KAC:Hid (Kept (fun i=>i=g) wc wC):=jd (KB.o.trans kC (fun _ _ h=>h))
   have HRPC:=jd rC
   clear rC kC KB HMU
   have HNBC:=jd (HNBA.o.kept KAC.o (fun i hi e=>by have e':i=g:=e;have:=HGL.o;omega))
   have HKC:Hid (Kept (fun i=>i=g) w wC):=jd (HKA.o.trans KAC.o (fun _ _ h=>h))
   have HPRC:Hid (NBx wC w.heap.size zN):=jd (KAC.o.heap HPRA.o (fun e=>by have e':w.heap.size=g:=e;omega))
   obtain⟨M,hM⟩:∃M,q1.r.length=M:=⟨_,rfl⟩
   have HM:=jd hM
   clear hM HNBA HRPA HKA HPRA HEA KAC
   go_wp2_with fail
   go_loopg [49] M (fun gk s49 wx=>EaI T w g d nm WS Q2 gk wx)
   case atStart=>
    exact⟨[],q1,_,_,HNBC.o,HRPC.o,HKC.o,HPRC.o,HM.o.symm,by have:=HRPC.o.len;simp;exact this,HWS.o,HQ2.o⟩
   case round=>
    clear HNBC HRPC HKC HPRC
    obtain⟨acc,q,Fq,vw,hnb,hrp,hkw,hpr,hgk,hlen,hws,hq2⟩:=hrel
    have HNB0:=jd hnb;have HRP0:=jd hrp;have HKW:=jd hkw;have HPR:=jd hpr;have HGK:=jd hgk;have HLEN:=jd hlen;have HWS2:=jd hws;have HQQ:=jd hq2
    have HKD:=jd (cX T wr g d q hrp)
    clear hnb hrp hkw hpr hgk hlen hws hq2
    by_cases hk:ag q=1
    ·have HWY:=jd (yW hk)
     have HWL:=jd (fb hk)
     have d1:((ag q:Int)==1)=true:=by rw[hk];rfl
     have d2:(ag q==1)=true:=by rw[hk];rfl
     obtain⟨kq,hkq⟩:∃kq,ag q=kq:=⟨_,rfl⟩
     rw[hkq] at d1 d2 HKD
     obtain⟨wl,hwl⟩:∃wl,(aP q).1=wl:=⟨_,rfl⟩
     obtain⟨q',hq'⟩:∃q',(aP q).2=q':=⟨_,rfl⟩
     rw[hq'] at HWL
     rw[hwl,hq'] at HWY
     have HW1:Hid (∀wx,RP T wx g d q→dm wx→Calls Tryz.prog 98 #[.pointer (some ⟨g,0,none⟩)] wx (zU T wx g d wl q')):=jd (fun wx h1 h2=>by rw[←hwl,←hq'];exact lJ T wx g d q h1 h2)
     clear hk hkq hwl hq'
     go_wp2_with fail
     refine HKD.o.mono ?_
     rintro e wD ⟨rfl,kD⟩
     have HNB:=jd (HNB0.o.kept kD (fun _ _ h=>h))
     have HRP:=jd (HRP0.o.au kD)
     have HKD2:Hid (Kept (fun i=>i=g) w wD):=jd (HKW.o.trans kD (fun _ _ h=>h.elim))
     have HPRD:Hid (NBx wD w.heap.size zN):=jd (kD.heap HPR.o (fun h=>h))
     have HED:Hid (bW wD):=jd (HE.o.dz HKD2.o HGN.o)
     have HML:Hid (acc.length≤5000):=jd (by have:=HLEN.o;omega)
     have HWP:Hid (∀wx,Kept (fun _=>False) wD wx→Calls Tryz.prog 98 #[.pointer (some ⟨g,0,none⟩)] wx (zU T wx g d wl q')):=jd (fun wx hk=>HW1.o wx (HRP.o.au hk) (HED.o.word.au hk))
     clear kD HNB0 HRP0 HKW HPR HKD HW1
     go_wp2_with fail
     have hnra:=HNB.o
     obtain⟨raa,rcpa,hsla,hrla⟩:=hnra.rw.slice
     obtain⟨ma,hma⟩:∃m,(acc).length=m:=⟨_,rfl⟩
     rw[hma] at hsla hrla
     subst hsla
     have hloba:=HNB.o.lob
     have hgla:=HGL.o
     have hbga:(w.heap.size+1)≠g:=by omega
     obtain⟨psa,hpsa,howna,hela⟩:=hnra.rw
     have HMa:=jd hma
     rw[hma] at howna
     have HOWNa:=jd howna;have HPSa:=jd hpsa;have HELa:=jd hela
     have hmla:ma≤5000:=by have h9:=HML.o;omega
     have hSSa:∀i,wD.heap.size≤i→¬duS (fun i=>i=g) (blk (.slice raa ma rcpa)) i:=fun i hi e=>by
      rcases e with e|e
      ·have e':i=g:=e;have:=HNB.o.lt;have:=HRP.o.lt;omega
      ·have:=df HOWNa.o i e;omega
     have hb1a:¬((w.heap.size+1)=g):=hbga
     have hPra:∀(v:Value) (wx wy:World),Kept (fun i=>i=g) wx wy→(∃F',NB wx (w.heap.size+1) (w.heap.size+1) F' 9 false nm (.slice none 0 0) v (.slice none 0 0) (.slice none 0 0) [] (acc++[wl]) [] [])→∃F',NB wy (w.heap.size+1) (w.heap.size+1) F' 9 false nm (.slice none 0 0) v (.slice none 0 0) (.slice none 0 0) [] (acc++[wl]) [] []:=fun v wx wy hk ⟨F',h⟩=>⟨F',h.kept hk (fun i hi e=>by have e':i=g:=e;have:=HGL.o;omega)⟩
     clear hnra hpsa howna hela hma
     refine cS 7 3 5 (fun i=>i=g) (blk (.slice raa ma rcpa)) (RdI wD T g d q' (w.heap.size+1) (w.heap.size+1) #[.int .i64 9,.bool false,.string (BA nm),(.slice none 0 0),(.slice raa ma rcpa),(.slice none 0 0),(.slice none 0 0)]) (jV (fun i=>i=g) (w.heap.size+1) 4 hb1a (fun v wq=>∃F',NB wq (w.heap.size+1) (w.heap.size+1) F' 9 false nm (.slice none 0 0) v (.slice none 0 0) (.slice none 0 0) [] (acc++[wl]) [] []) hPra) [rV (.pointer (some ⟨(w.heap.size+1),4,none⟩)),rV (.slice raa ma rcpa),rV (.pointer (some ⟨g,0,none⟩)),rEl ix (duS (fun i=>i=g) (blk (.slice raa ma rcpa))) (fun i=>wD.heap.size≤i) hSSa wl,tS ix WC 59 (duS (fun i=>i=g) (blk (.slice raa ma rcpa))) (fun i=>wD.heap.size≤i) hSSa wl,rV (.bool true),rV (.pointer (some ⟨(w.heap.size+1),4,none⟩))] (by kernel_rfl) (by kernel_rfl) ?_ ?_ ?_
     case refine_1=>exact RdI.start HNB.o.box
     case refine_2=>
      iterate 3
       refine dY (by decide) (by kernel_rfl) (fun s hs1 a' w' hI hag hf K hK=>?_) ?_
       ·obtain⟨⟨_,h0,rfl⟩,-⟩:=hf
        have s0:=hag.same 0 (by decide)
        have s3:=hag.same 3 (by decide)
        clear hag
        obtain⟨⟨y0,y1,y2,y3,y4,y5,y6⟩,-⟩:=NBx.cells hI.box
        go_wp2_with fail
        exact hK _ _ hI (Ja _ _) rfl
      refine jK (by decide) (fun a' w' hI hag hf K hK=>?_) ?_
      ·obtain⟨⟨_,h2,rfl⟩,-⟩:ah _ _ a' w' [2]:=hf
       clear hag
       have HI:=jd hI
       have hk0:=hI.k0 rfl
       clear hI
       go_wp2_with fail
       refine(HWP.o _ hk0).mono ?_
       rintro x w4 ⟨v,rfl,hw4,hr4,hk4⟩
       go_wp2_with fail
       exact hK _ _ (HI.o.call hk4 hr4 hbga) hk4 (hw4.mono (fun i _ hi=>lt9 hk0.size hi))
      refine dY (by decide) (by kernel_rfl) (fun s hs1 a' w' hI hag hf K hK=>?_) ?_
      ·obtain⟨⟨v3,h3,e3⟩,-⟩:ah _ _ a' w' [3]:=hf
       clear hag
       have hw7:WAt w' (fun i=>wD.heap.size≤i) v3 wl:=e3
       obtain⟨ua,un,uc,rfl⟩:=hw7.slice
       have hz:=hI.k.size
       go_wp2_with fail
       exact hK _ _ (hI.au ((Ja _ _).alloc _)) ((Ja _ _).alloc _) ⟨_,_,rfl,hz,heap_alloc _ _,hw7.kept ((Ja _ _).alloc _) (fun _ _ h=>h)⟩
      refine jS (fun a' w' hI hag hf K hK=>?_) ?_
      ·obtain⟨⟨_,h1,rfl⟩,⟨v4,h4,e4⟩,-⟩:ah _ _ a' w' [1,4,3]:=hf
       clear hag
       obtain⟨bb,u,rfl,hbb,hbh,hu⟩:∃bb u,v4= .slice (some ⟨bb,0,none⟩) 1 1∧wD.heap.size≤bb∧w'.heap[bb]? =some (.cells (WC (wl,u)).toArray 59 (0,0))∧WAt w' (fun i=>wD.heap.size≤i) u wl:=e4
       have hk1:=hI.k1 (Jb _)
       refine bg rfl _ _ _ rfl EWs (.slice raa ma rcpa) ma (psa.flatMap WC) (by simp[Act.eval,h1]) (bH hk1 HOWNa.o (fun i hi e=>absurd e ?_)) _ 1 (WC (wl,u)) (by simp[Act.eval,h4]) (fs (C:=WC) hbh rfl) (fun y hy=>?_) (by unfold maxLen;omega) (by omega) (fun ad9 cap9 w9 ho9 hg9 hf9=>?_)
       ·have h9:=(HNB.o.bw i hi).1;have:=HGL.o;intro e';have e2:i=g:=e';omega
       ·rw[Jk.1 hy];exact nA hu
       have hk9:Kept (blk (.slice raa ma rcpa)) w' w9:=(Ja _ _).grown hg9 (fun i e _=>e)
       have ho9':w9.ownsRow 0 59 1 (.slice ad9 (ma+1) cap9) ((acc).length+1) (psa.flatMap WC++WC (wl,u)):=by rw[HMa.o];exact ho9
       have hpush:=(HNB.o.As (S:=fun i=>i=g) HPSa.o HELa.o hk1 (fun i hi e=>by have e':i=g:=e;have:=HGL.o;omega) (x:=wl) (u:=u) (G:=fun i=>wD.heap.size≤i) hu (fun i hi=>hi) ho9' hg9 hf9).1
       exact hK _ _ (hI.app hk9 (fun i hi=>⟨(HNB.o.bw i hi).1,(HNB.o.bw i hi).2.1⟩) HGL.o (fun i hi=>Nat.lt_trans (HTB.o i hi) HGL.o)) hk9 ⟨_,hpush⟩
      refine eZ (by decide) (fun s a' w' hI hag hf K hK=>?_) ?_
      ·have s3:=hag.same 3 (by decide)
       clear hag
       go_wp2_with fail
       exact hK _ _ hI (Ja _ _) rfl
      exact trivial
     case refine_3=>
      intro vs wz hI hvs
      have q3:=hvs 3 _ _ rfl rfl
      have q4:=hvs 4 _ _ rfl rfl
      have q5:(jV (fun i=>i=g) (w.heap.size+1) 4 hb1a (fun v wq=>∃F',NB wq (w.heap.size+1) (w.heap.size+1) F' 9 false nm (.slice none 0 0) v (.slice none 0 0) (.slice none 0 0) [] (acc++[wl]) [] []) hPra).1 (vs 5) wz:=hvs 5 _ _ rfl rfl
      simp only[pzz,aW,Act.put,Nat.reduceAdd,dpv (hvs 0 _ _ rfl rfl) (by decide) rfl,dpv (hvs 1 _ _ rfl rfl) (by decide) rfl,dpv (hvs 2 _ _ rfl rfl) (by decide) rfl,dpv (hvs 6 _ _ rfl rfl) (by decide) rfl]
      clear hvs
      generalize vs 3=x3 at*
      generalize vs 4=x4 at*
      generalize vs 5=x5 at*
      have HIa:=jd hI
      obtain⟨Fa,hnb⟩:∃F',NB (wz.setCell ⟨(w.heap.size+1),4,none⟩ x5) (w.heap.size+1) (w.heap.size+1) F' 9 false nm (.slice none 0 0) x5 (.slice none 0 0) (.slice none 0 0) [] (acc++[wl]) [] []:=q5
      obtain⟨za,zn,zc,rfl⟩:∃a n c,x5= .slice a n c:=by obtain⟨a,c,e,_⟩:=hnb.rw.slice;exact⟨a,_,c,e⟩
      obtain⟨⟨y0,y1,y2,y3,y4,y5,y6⟩,z0,z1,z2,z3,z4,z5,z6⟩:=NBx.cells hI.box
      have hblta:(w.heap.size+1)<wz.heap.size:=av hI.box
      have HNBa:=jd hnb
      have HRPa:Hid (RP T (wz.setCell ⟨(w.heap.size+1),4,none⟩ (.slice za zn zc)) g d q'):=jd (by
       obtain⟨a,h1,h2⟩:=HIa.o.p (by decide)
       have kS:Kept (fun i=>i=(w.heap.size+1)) wz (wz.setCell ⟨(w.heap.size+1),4,none⟩ (.slice za zn zc)):=(Ja (fun i=>i=(w.heap.size+1)) wz).set (w.heap.size+1) 4 (fun _=>rfl) _
       exact⟨a,h1,h2.kept kS (fun e=>hbga e.symm) (fun i hi e=>by have e':i=(w.heap.size+1):=e;have:=HTB.o i hi;omega)⟩)
      have HKWa:Hid (Kept (fun i=>i=g∨(w.heap.size+1)≤i) wD (wz.setCell ⟨(w.heap.size+1),4,none⟩ (.slice za zn zc))):=jd (HIa.o.k.set (w.heap.size+1) 4 (fun _=>.inr hloba) _)
      clear hI q3 q4 hnb
      go_wp2_with fail
      obtain⟨wE,hwE⟩:∃W,wz.setCell ⟨(w.heap.size+1),4,none⟩ (.slice za zn zc)=W:=⟨_,rfl⟩
      rw[hwE] at HNBa HRPa HKWa⊢
      clear y0 y1 y2 y3 y4 y5 y6 z0 z1 z2 z3 z4 z5 z6 hwE HIa hblta
      go_roundg (q'.r.length)
      case measure=>have h1:q'.r.length<q.r.length:=HWL.o;have h2:=HGK.o;omega
      case rel=>
       exact⟨acc++[wl],q',Fa,_,HNBa.o,HRPa.o,HKD2.o.trans HKWa.o (fun i hi e=>by rcases e with e|e<;>first|exact e|(exfalso;omega)),HKWa.o.heap HPRD.o (fun e=>by rcases e with e|e<;>first|omega|(have e':w.heap.size=g:=e;omega)),rfl,by have h1:q'.r.length<q.r.length:=HWL.o;have h2:=HLEN.o;simp only[Jf,Jg,Jn];omega,by have h1:=HWS2.o;rw[HWY.o] at h1;rw[Jj];exact h1,by have h1:=HQQ.o;rw[HWY.o] at h1;exact h1⟩
    ·have HWY:=jd (Bj hk)
     have HACC:Hid (acc=WS):=jd (by have h1:=HWS2.o;rw[HWY.o] at h1;simpa using h1)
     have HQE:Hid (q=Q2):=jd (by have h1:=HQQ.o;rw[HWY.o] at h1;exact h1)
     rw[HACC.o] at HNB0
     rw[HQE.o] at HRP0
     have d1:((ag q:Int)==1)=false:=by apply Jq.2;omega
     have d2:(ag q==1)=false:=by apply Jq.2;exact hk
     obtain⟨kq,hkq⟩:∃kq,ag q=kq:=⟨_,rfl⟩
     rw[hkq] at d1 d2 HKD
     clear hk hkq HWY HACC HQE HWS2 HQQ HLEN HGK
     go_wp2_with fail
     refine HKD.o.mono ?_
     rintro e wD ⟨rfl,kD⟩
     have KD:=jd kD
     have HST:=jd (sH T wD g d Q2 (HRP0.o.au kD))
     clear kD HKD
     go_wp2_with fail
     refine HST.o.mono ?_
     rintro e wE ⟨rfl,rE,kE⟩
     have HRPE:=jd rE
     have KWE:Hid (Kept (fun i=>i=g) wr wE):=jd ((KD.o.mono (S':=fun i=>i=g) (fun _ _ h=>h.elim)).trans kE (fun _ _ h=>h))
     clear rE kE KD HST
     go_upto_if 59 with fail
     go_cut [] (fun wx=>RP T wx g d (dP Q2)∧Kept (fun i=>i=g) wr wx)
     case first=>
      cases hst:(aL Q2).1 with
      |true=>
       have HX:Hid (RP T wE g d (dP Q2)):=jd (by unfold dP;rw[Jt hst];exact HRPE.o)
       clear hst HRPE
       go_wp2_with fail
       go_meet
       exact⟨HX.o,KWE.o⟩
      |false=>
       have HS8:Hid (dP Q2=bm Q2 5):=jd (by unfold dP;rw[Js (by rw[hst];decide)])
       have HFA:=jd (dV T wE g d Q2 (qT hst▸HRPE.o) 5)
       clear hst HRPE
       go_wp2_with fail
       refine HFA.o.mono ?_
       rintro e wF ⟨rfl,rF,kF⟩
       have HX:Hid (RP T wF g d (dP Q2)):=jd (by rw[HS8.o];exact rF)
       have KWF:Hid (Kept (fun i=>i=g) wr wF):=jd (KWE.o.trans kF (fun _ _ h=>h))
       clear rF kF KWE HFA HS8
       go_wp2_with fail
       go_meet
       exact⟨HX.o,KWF.o⟩
     case rest=>
      clear HRPE KWE
      have HRPF:=jd hcut.1;have KWF:=jd hcut.2
      clear hcut
      obtain⟨wF,hwF⟩:∃wF,wc=wF:=⟨_,rfl⟩
      subst hwF
      go_wp2_with fail
      have HRE:=jd (fD T wc g d (dP Q2) HRPF.o)
      rw[HP8.o] at HRE
      refine HRE.o.mono ?_
      rintro e wG ⟨rfl,rG,kG⟩
      have KWG:Hid (Kept (fun i=>i=g) wr wG):=jd (KWF.o.trans kG (fun _ _ h=>h))
      have HKG:Hid (Kept (fun i=>i=g) w wG):=jd (HKW.o.trans KWG.o (fun _ _ h=>h))
      have HBD:=jd (HBC.o wG rG (HE.o.dz HKG.o HGN.o))
      clear rG kG KWF HRE HRPF
      go_wp2_with fail
      refine HBD.o.mono ?_
      rintro e w5 ⟨v,rfl,hv,r5,k5⟩
      have KW5:Hid (Kept (fun i=>i=g) wr w5):=jd (KWG.o.trans k5 (fun _ _ h=>h))
      have HK5:Hid (Kept (fun i=>i=g) w w5):=jd (HKG.o.trans k5 (fun _ _ h=>h))
      have HNB5:=jd (HNB0.o.kept KW5.o (fun i hi e=>by have e':i=g:=e;have:=HGL.o;omega))
      have PR5:Hid (NBx w5 w.heap.size zN):=jd (KW5.o.heap HPR.o (fun e=>by have e':w.heap.size=g:=e;omega))
      have HRP5:=jd r5
      have hlob:=HNB0.o.lt
      have hzG:=KWG.o.size
      obtain⟨vk,vb,vs,aa,an,ac,wa,wn,wcp,ra,rn,rc,ka,kn,kc,rfl⟩:=hv.agg
      have HV5:=jd (hv.mono (G:=fun i=>w.heap.size+2≤i) (fun i _ hi=>by have hi':wG.heap.size≤i:=hi;omega))
      obtain⟨ta,tc,htt,_⟩:=HNB5.o.rw.slice
      obtain⟨tn,htn⟩:∃tn,WS.length=tn:=⟨_,rfl⟩
      rw[htn] at htt
      subst htt
      clear hv r5 k5 htn KWG HKG HBD KW5 hlob hzG
      obtain⟨⟨c0,c1,c2,c3,c4,c5,c6⟩,f0,f1,f2,f3,f4,f5,f6⟩:=NBx.cells PR5.o
      obtain⟨⟨e0,e1,e2,e3,e4,e5,e6⟩,k0,k1,k2,k3,k4,k5,k6⟩:=NBx.cells HNB5.o.box
      have hltN:w.heap.size<w5.heap.size:=av PR5.o
      have hltB:w.heap.size+1<w5.heap.size:=HNB5.o.lt
      go_wp2_with fail
      have HB9:Hid (NBx (w5.setCell ⟨w.heap.size+1,6,none⟩ (.slice (some ⟨w5.heap.size,0,none⟩) 1 1)) w.heap.size zN):=jd (((Ja (fun i=>i=w.heap.size+1) w5).set (w.heap.size+1) 6 (fun _=>rfl) _).heap PR5.o (fun e=>by have e':w.heap.size=w.heap.size+1:=e;omega))
      have B7:=jd (bS HB9.o (.int .i64 9) (.bool false) (.string (BA nm)) (.slice none 0 0) (.slice ta tn tc) (.slice none 0 0) (.slice (some ⟨w5.heap.size,0,none⟩) 1 1))
      have K9:Hid (Kept (fun i=>i=w.heap.size+1∨i=w.heap.size) w5 (st7 (w5.setCell ⟨w.heap.size+1,6,none⟩ (.slice (some ⟨w5.heap.size,0,none⟩) 1 1)) w.heap.size (.int .i64 9) (.bool false) (.string (BA nm)) (.slice none 0 0) (.slice ta tn tc) (.slice none 0 0) (.slice (some ⟨w5.heap.size,0,none⟩) 1 1))):=
       jd (bu ((Ja (fun i=>i=w.heap.size+1∨i=w.heap.size) w5).set (w.heap.size+1) 6 (fun _=>.inl rfl) _) (fun _=>.inr rfl) _ _ _ _ _ _ _)
      have H9:=jd (heap_alloc (st7 (w5.setCell ⟨w.heap.size+1,6,none⟩ (.slice (some ⟨w5.heap.size,0,none⟩) 1 1)) w.heap.size (.int .i64 9) (.bool false) (.string (BA nm)) (.slice none 0 0) (.slice ta tn tc) (.slice none 0 0) (.slice (some ⟨w5.heap.size,0,none⟩) 1 1)) (.cells #[.int .i64 vk,.bool vb,.string (BA vs),.slice aa an ac,.slice wa wn wcp,.slice ra rn rc,.slice ka kn kc] 27))
      have hres:=((Ja (fun _=>False) (st7 (w5.setCell ⟨w.heap.size+1,6,none⟩ (.slice (some ⟨w5.heap.size,0,none⟩) 1 1)) w.heap.size (.int .i64 9) (.bool false) (.string (BA nm)) (.slice none 0 0) (.slice ta tn tc) (.slice none 0 0) (.slice (some ⟨w5.heap.size,0,none⟩) 1 1))).alloc (.cells #[.int .i64 vk,.bool vb,.string (BA vs),.slice aa an ac,.slice wa wn wcp,.slice ra rn rc,.slice ka kn kc] 27)).heap B7.o (fun h=>h)
      refine bodyPost_ret (v:= .agg #[.int .i64 9,.bool false,.string (BA nm),.slice none 0 0,.slice ta tn tc,.slice none 0 0,.slice (some ⟨w5.heap.size,0,none⟩) 1 1]) ?_ rfl ?_
      ·exact results_cell_row rfl _ _ w.heap.size 27 _ (0,0) _ (by rfl) hres Tryz.underlying27 rfl (by kernel_rfl)
      refine hZ ?_ (fun nd h=>by rw[HXN.o] at h;cases h;rfl)
      exact Cq HXN.o HXP.o HNB5.o HV5.o HRP5.o HK5.o (K9.o.alloc _) (by have h:=H9.o;simpa[World.setCell] using h) hgl HTB.o
