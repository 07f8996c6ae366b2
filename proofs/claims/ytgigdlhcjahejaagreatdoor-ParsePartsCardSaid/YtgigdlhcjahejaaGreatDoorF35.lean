import Derived.Test.YtgigdlhcjahejaaGreatDoorF34
import Derived.Deep.DeepCutAuto
import Derived.Deep.CutBlock
set_option linter.all false
set_option maxHeartbeats 400000000
namespace Go.Proofs.YtgigdlhcjahejaaGreatDoor
open Go Go.RowKit Go.Lw
set_option maxRecDepth 100000
attribute [local go_sem] aA
def de (m:Sm) (p:Ps):Sm×Ps:=aG (p.r.length+1) m p
theorem tJ {m:Sm} {p:Ps} (h:aR m p=none):de m p=(m,p):=by
 unfold de;unfold aG
 rw[h]
theorem gX {m:Sm} {p:Ps} {x:Sm×Ps} (h:aR m p=some x):de m p=de x.1 x.2:=by
 have h1:x.2.r.length<p.r.length:=ej h
 conv=>lhs;unfold de;unfold aG
 rw[h]
 unfold de
 obtain⟨k,hk⟩:∃k,p.r.length=(x.2.r.length+1)+k:=⟨p.r.length -(x.2.r.length+1),by omega⟩
 show aG p.r.length x.1 x.2=_
 rw[hk,tY _ _ _ _ (Nat.lt_succ_self _)]
theorem qv (p:Ps):aS p=(.mk 1 false [] (de ⟨[],[],[]⟩ p).1.al (de ⟨[],[],[]⟩ p).1.ws (de ⟨[],[],[]⟩ p).1.rs [],if(de ⟨[],[],[]⟩ p).2.r.length=p.r.length then bm (de ⟨[],[],[]⟩ p).2 5 else(de ⟨[],[],[]⟩ p).2):=rfl
theorem vf {m:Sm} {p p':Ps} {x:Int×LP} (h:bf p=some (x,p')):aR m p=some (⟨m.al,m.ws,m.rs++[x]⟩,p'):=by
 unfold aR;rw[h]
theorem xE {m:Sm} {p:Ps} (h:bf p=none) (hk:ag p≠1):aR m p=none:=by
 obtain⟨r,e⟩:=p
 unfold aR
 rw[h]
 cases r with
 |nil=>rfl
 |cons t r=>have hk2:¬t.kind=1:=hk;show(if t.kind=1 then _ else _)=_;rw[Js hk2]
theorem qG {p:Ps} (hk:ag p=1):bf p=none:=by
 unfold bf;rw[hk];rfl
theorem wJ {m:Sm} {t:Tk} {r:List Tk} {e:Nat} {a:LB×LP} (hk:t.kind=1) (hw:m.ws=[]) (ha:bE t.text=some a):aR m ⟨t::r,e⟩=some (⟨m.al++[a],m.ws,m.rs⟩,⟨r,e⟩):=by
 unfold aR
 rw[qG (p:=⟨t::r,e⟩) hk]
 show(if t.kind=1 then(if m.ws.isEmpty=true∧_ then _ else _) else _)=_
 rw[Jt hk,Jt ⟨by rw[hw];rfl,by rw[ha];rfl⟩,ha];rfl
theorem uZ {m:Sm} {t:Tk} {r:List Tk} {e:Nat} (hk:t.kind=1) (hw:m.ws=[]) (hal:m.al=[]) (ha:bE t.text=none) (hr:gB t.text=true):aR m ⟨t::r,e⟩=some (m,bm ⟨t::r,e⟩ 5):=by
 unfold aR
 rw[qG (p:=⟨t::r,e⟩) hk]
 show(if t.kind=1 then(if m.ws.isEmpty=true∧_ then _ else if m.ws.isEmpty=true∧m.al.isEmpty=true∧_ then _ else _) else _)=_
 rw[Jt hk,Js (by rw[ha];simp),Jt ⟨by rw[hw];rfl,by rw[hal];rfl,hr⟩]
theorem uL {m:Sm} {t:Tk} {r:List Tk} {e:Nat} (hk:t.kind=1) (h1:¬(m.ws=[]∧(bE t.text).isSome=true)) (h2:¬(m.ws=[]∧m.al=[]∧gB t.text=true)):aR m ⟨t::r,e⟩=some (⟨m.al,m.ws++[(aP ⟨t::r,e⟩).1],m.rs⟩,(aP ⟨t::r,e⟩).2):=by
 unfold aR
 rw[qG (p:=⟨t::r,e⟩) hk]
 show(if t.kind=1 then(if m.ws.isEmpty=true∧_ then _ else if m.ws.isEmpty=true∧m.al.isEmpty=true∧_ then _ else _) else _)=_
 rw[Jt hk,Js (fun e=>h1 ⟨List.isEmpty_iff.1 e.1,e.2⟩),Js (fun e=>h2 ⟨List.isEmpty_iff.1 e.1,List.isEmpty_iff.1 e.2.1,e.2.2⟩)]
theorem GM {T:TT} {wA w9:World} {g d lo j:Nat} {q:Ps} {va v:Value} (h:RP T wA g d q) (k:Kept (blk va) wA w9) (hv:∀i,blk va i→lo≤i) (hg:g<lo) (ht:∀i,blk T.v i→i<g):RP T (w9.setCell ⟨lo,j,none⟩ v) g d q:=by
 obtain⟨a,h1,h2⟩:=h
 have k2:Kept (fun i=>lo≤i) wA (w9.setCell ⟨lo,j,none⟩ v):=(k.mono (fun i _ hi=>hv i hi)).set lo j (fun _=>Jb _) _
 exact⟨a,h1,h2.kept k2 (fun e=>by omega) (fun i hi e=>by have:=ht i hi;omega)⟩
def SiI (T:TT) (w:World) (g d:Nat) (R:Sm×Ps) (gk:Nat) (wx:World):Prop:=
 ∃(al:List (LB×LP)) (ws:List LP) (rs:List (Int×LP)) (q:Ps) (F:Nat→Prop) (va vw vr:Value),NB wx (w.heap.size+1) (w.heap.size+1) F 1 false [] va vw vr (.slice none 0 0) al ws rs []∧RP T wx g d q∧Kept (fun i=>i=g) w wx∧NBx wx w.heap.size zN∧gk=q.r.length∧al.length+ws.length+rs.length+q.r.length≤2048∧de ⟨al,ws,rs⟩ q=R
def SiC (T:TT) (w:World) (g d:Nat) (R:Sm×Ps) (gk:Nat) (t:Bool) (wx:World):Prop:=
 ∃(al:List (LB×LP)) (ws:List LP) (rs:List (Int×LP)) (q:Ps) (F:Nat→Prop) (va vw vr:Value),NB wx (w.heap.size+1) (w.heap.size+1) F 1 false [] va vw vr (.slice none 0 0) al ws rs []∧RP T wx g d q∧Kept (fun i=>i=g) w wx∧NBx wx w.heap.size zN∧(al.length+ws.length+rs.length+q.r.length≤2048∧q.r.length≤gk)∧(t=true→ag q≠1→q.r.length<gk)∧(t=false→bf q=none∧ag q≠1)∧de ⟨al,ws,rs⟩ q=R
theorem Eh {w w':World} {s:LB} {x:Ending} (h:ek w s x w'):∃nm v b,x= .returned (.tuple #[.string (BA nm),v,.bool b])∧(b=true→∃l,bE s=some (nm,l)∧WAt w' (fun b=>w.heap.size≤b) v l)∧(b=false→bE s=none):=by
 unfold ek at h
 split at h
 ·rename_i nm l ha
  obtain⟨v,hx,hv⟩:=h
  exact⟨nm,v,true,hx,fun _=>⟨l,ha,hv⟩,fun e=>by cases e⟩
 ·rename_i ha
  exact⟨[],_,false,h,(fun e=>by cases e),fun _=>ha⟩
theorem RP.from {T:TT} {w:World} {g d:Nat} {p:Ps} (h:RP T w g d p):∃at_:Nat,w.cell? ⟨g,1,none⟩=some (.int .i64 (at_:Int))∧at_+p.r.length=T.L.length∧at_≤2048∧g<w.heap.size:=by
 obtain⟨at_,hd,hr⟩:=h
 have h1:=hr.cells.1.2.1
 have h2:=hr.le
 have h3:=hr.short
 refine⟨at_,h1,?_,by omega,hr.lt⟩
 rw[←hd,Jo];omega
theorem xg:Gt:=by
 intro T w g d p hp hE hgn ht
 obtain⟨R,hR⟩:∃R,de ⟨[],[],[]⟩ p=R:=⟨_,rfl⟩
 have HRR:=jd hR
 obtain⟨nd,hnd⟩:∃nd,(aS p).1=nd:=⟨_,rfl⟩
 obtain⟨p9,hp9⟩:∃p9,(aS p).2=p9:=⟨_,rfl⟩
 have HND:Hid (nd= .mk 1 false [] R.1.al R.1.ws R.1.rs []):=jd (by rw[←hnd,qv,hR])
 have HP9:Hid (p9=if R.2.r.length=p.r.length then bm R.2 5 else R.2):=jd (by rw[←hp9,qv,hR])
 obtain⟨xx,hxx⟩:∃x:Rd9,x=⟨[nd],false,p9⟩:=⟨_,rfl⟩
 have HXN:Hid (xx.ns=[nd]):=jd (by rw[hxx])
 have HXP:Hid (xx.p=p9):=jd (by rw[hxx])
 rw[hnd,hp9]
 obtain⟨M,hM⟩:∃M,p.r.length=M:=⟨_,rfl⟩
 have HM:=jd hM
 have hpl:=hp.len
 have HPL:=jd hpl
 obtain⟨W0,hW0⟩:∃W0,w.alloc (.cells zN 27)=W0:=⟨_,rfl⟩
 have hs0:W0.heap.size=w.heap.size+1:=by rw[←hW0,World.size_alloc]
 have KA:Hid (Kept (fun _=>False) w W0):=jd (by rw[←hW0];exact(Ja _ w).alloc _)
 have PA:Hid (NBx W0 w.heap.size zN):=jd (by rw[←hW0];exact heap_alloc w _)
 have HW0:=jd hW0
 have hgl:=hp.lt
 have HE:=jd hE;have HGN:=jd hgn;have HTB:=jd ht
 have HP0:=jd (hp.au KA.o);have HE0:=jd (hE.au KA.o)
 have HS0:=jd hs0
 have hgn':=hgn
 clear hR hnd hp9 hxx hp hE hgn ht hW0 hpl hM
 go_enter Tryz.func91,Tryz.ntmps91
 obtain⟨W1,hW1⟩:∃W1,W0.alloc (.cells #[.int .i64 1,.bool false,.string ⟨#[]⟩,.slice none 0 0,.slice none 0 0,.slice none 0 0,.slice none 0 0] 27)=W1:=⟨_,rfl⟩
 have K1:Hid (Kept (fun _=>False) W0 W1):=jd (by rw[←hW1];exact(Ja _ W0).alloc _)
 have B1:Hid (NBx W1 (w.heap.size+1) #[.int .i64 1,.bool false,.string (BA []),.slice none 0 0,.slice none 0 0,.slice none 0 0,.slice none 0 0]):=jd (by rw[←hs0,←hW1];exact heap_alloc W0 _)
 have HRPW:Hid (RP T W1 g d p):=jd (HP0.o.au K1.o)
 have HW1:=jd hW1
 obtain⟨at0,a1,a2,a3,a4⟩:∃at_:Nat,w.cell? ⟨g,1,none⟩=some (.int .i64 (at_:Int))∧at_+M=T.L.length∧at_≤2048∧g<w.heap.size:=by
  obtain⟨a,b1,b2,b3,b4⟩:=HP0.o.from
  have hc:w.cell? ⟨g,1,none⟩=some (.int .i64 (a:Int)):=by
   have h:=(KA.o.block g hgl (fun h=>h))
   rw[←b1]
   exact(World.cell?_of_block h).symm
  exact⟨a,hc,by rw[←HM.o];exact b2,b3,hgl⟩
 have HA2:=jd a2
 clear hW1 hs0 a2
 go_wp2_with fail
 rw[HW0.o,HW1.o]
 have HGL:Hid (g<w.heap.size+1):=jd (by omega)
 have HKA0:Hid (Kept (fun i=>i=g) w W1):=jd ((KA.o.trans K1.o (fun _ _ h=>h)).mono (fun _ _ h=>h.elim))
 have HPR0:Hid (NBx W1 w.heap.size zN):=jd (K1.o.heap PA.o (fun h=>h))
 clear a1 HP0 HE0 K1 PA KA HW0 HW1
 go_loopg [14] M (fun gk s14 wx=>SiI T w g d R gk wx)
 case atStart=>
  exact⟨[],[],[],p,_,_,_,_,NB.init _ _ _ _ _ _ B1.o (Jb _),HRPW.o,HKA0.o,HPR0.o,HM.o.symm,by have:=HPL.o;simp;omega,HRR.o⟩
 case round=>
  clear B1 HRPW HKA0 HPR0 HRR
  obtain⟨al,ws,rs,q,Fq,va,vw,vr,hnb,hrp,hkw,hpr,hgk,hlen,hst⟩:=hrel
  have HNB0:=jd hnb;have HRP0:=jd hrp;have HKW:=jd hkw;have HPR:=jd hpr;have HGK:=jd hgk;have HLEN:=jd hlen;have HST:=jd hst
  have hrd:=rZ T wr g d (w.heap.size+1) (w.heap.size+1) Fq 1 false [] va vw vr (.slice none 0 0) al ws rs [] q hrp (HE.o.dz hkw HGN.o).word hnb HGL.o (fun i hi=>Nat.lt_trans (HTB.o i hi) HGL.o) (by omega) hgn'
  have HRD:=jd hrd
  clear hnb hrp hkw hpr hgk hlen hst hrd
  go_upto_region 3 with fail
  go_cut [20] (fun s20 wx=>∃t:Bool,s20= .bool t∧SiC T w g d R gk t wx)
  case first=>
   cases hrq:bf q with
   |some z=>
    obtain⟨z,q1⟩:=z
    have HST1:Hid (de ⟨al,ws,rs++[z]⟩ q1=R):=jd (by rw[←HST.o,gX (vf hrq)])
    have hql:q1.r.length<q.r.length:=dK hrq
    have HQL:=jd hql
    have HRQ:=jd hrq
    clear hrq hql HST
    go_wp2_with fail
    refine HRD.o.mono ?_
    rintro e wX ⟨he,⟨vr1,F1,hnb⟩,rX,kX⟩
    rw[HRQ.o] at he hnb rX
    have he':e= .returned (.bool true):=he
    subst he'
    have HX:Hid (SiC T w g d R gk true wX):=jd ⟨al,ws,rs++[z],q1,F1,va,vw,vr1,(by have h:=hnb;simpa using h),rX,HKW.o.trans kX (fun i hi e=>by rcases e with e|e<;>first|exact e|(exfalso;omega)),kX.heap HPR.o (fun e=>by rcases e with e|e<;>first|omega|(have e':w.heap.size=g:=e;omega)),(by have h1:=HLEN.o;have h2:=HQL.o;have h3:=HGK.o;rw[Jf];simp;omega),(fun _ _=>by have h2:=HQL.o;have h3:=HGK.o;omega),(fun e=>by cases e),HST1.o⟩
    clear hnb rX kX HRD HRQ HNB0 HRP0 HKW HPR HLEN HQL HGK
    go_wp2_with fail
    go_meet
    exact⟨true,rfl,HX.o⟩
   |none=>
    have HRQ:=jd hrq
    clear hrq
    go_wp2_with fail
    refine HRD.o.mono ?_
    rintro e wX0 ⟨he,⟨vr1,F1,hnb⟩,rX,kX⟩
    rw[HRQ.o] at he hnb rX
    have he':e= .returned (.bool false):=he
    subst he'
    obtain⟨t,ht⟩:∃t,(ag q==1)=t:=⟨_,rfl⟩
    have d1:((ag q:Int)==1)=t:=by rw[←ht,Bool.eq_iff_iff,beq_iff_eq,beq_iff_eq];omega
    have HX:Hid (∀wx,Kept (fun _=>False) wX0 wx→SiC T w g d R gk t wx):=jd (fun wx hk=>⟨al,ws,rs,q,F1,va,vw,vr1,(by have h:=hnb.kept hk (fun _ _ h=>h);simpa using h),rX.au hk,(HKW.o.trans kX (fun i hi e=>by rcases e with e|e<;>first|exact e|(exfalso;omega))).trans hk (fun _ _ h=>h.elim),hk.heap (kX.heap HPR.o (fun e=>by rcases e with e|e<;>first|omega|(have e':w.heap.size=g:=e;omega))) (fun h=>h),⟨HLEN.o,by have:=HGK.o;omega⟩,(fun e hk1=>by rw[e,beq_iff_eq] at ht;exact absurd ht hk1),(fun e=>⟨HRQ.o,by rw[e,Jq] at ht;exact ht⟩),HST.o⟩)
    have HKD0:=jd (cX T wX0 g d q rX)
    obtain⟨kq,hkq⟩:∃kq,ag q=kq:=⟨_,rfl⟩
    rw[hkq] at d1 HKD0
    clear hnb rX kX HRD HNB0 HRP0 HKW HPR hkq ht HST HGK HLEN HRQ
    go_wp2_with fail
    refine HKD0.o.mono ?_
    rintro e wX ⟨rfl,kX⟩
    have KX:=jd kX
    clear kX HKD0
    go_wp2_with fail
    go_meet
    exact⟨t,rfl,HX.o _ KX.o⟩
  case rest=>
   clear HRD HNB0 HRP0 HKW HPR HGK HLEN HST
   obtain⟨t,rfl,al,ws,rs,q,F1,va,vw,vr1,hnb,hrp,hkw,hpr,hlen,hmo,hno,hst⟩:=hcut
   have HNBX:=jd hnb;have HRPX:=jd hrp;have HKX:=jd hkw;have HPRX:=jd hpr;have HLEN1:=jd hlen;have HST1:=jd hst;have HMO:=jd hmo;have HNO:=jd hno
   clear hnb hrp hkw hpr hlen hst hmo hno
   cases t with
   |true=>
    have HKD:=jd (cX T wc g d q HRPX.o)
    by_cases hk1:ag q=1
    ·skip
     have d1:((ag q:Int) !=1)=false:=by rw[hk1];rfl
     have d2:(ag q !=1)=false:=by rw[hk1];rfl
     have hkne:ag q≠0:=by rw[hk1];decide
     have HKNE:=jd hkne
     obtain⟨at_,hd,hr⟩:=HRPX.o
     obtain⟨r,e⟩:=q
     cases r with
     |nil=>cases hk1
     |cons t r=>
      obtain⟨ha,ht0,hd2⟩:=dc hd
      have hkt:t.kind=1:=hk1
      have hs:=hr.short;have hle:=hr.le
      have hlt:=hr.lt
      have HR0:=jd hr
      have htl:=(hr.toks t (List.mem_of_getElem? ht0)).2
      obtain⟨tx,htx⟩:∃tx,t.text=tx:=⟨_,rfl⟩
      have HTX:=jd htx
      have HKT:=jd hkt
      have HTN:=jd ht0
      rw[htx] at htl
      have HWL:Hid ((aP ⟨t::r,e⟩).2.r.length<(⟨t::r,e⟩:Ps).r.length):=jd (fb hk1)
      have HWD:=jd (fun(wx:World) (hx:RP T wx g d ⟨t::r,e⟩) (ex:dm wx)=>lJ T wx g d ⟨t::r,e⟩ hx ex)
      obtain⟨wl,hwl⟩:∃wl,(aP ⟨t::r,e⟩).1=wl:=⟨_,rfl⟩
      obtain⟨qw,hqw⟩:∃qw,(aP ⟨t::r,e⟩).2=qw:=⟨_,rfl⟩
      have HWLQ:Hid ((aP ⟨t::r,e⟩).1=wl∧(aP ⟨t::r,e⟩).2=qw):=jd ⟨hwl,hqw⟩
      rw[hwl,hqw] at HWD
      rw[hqw] at HWL
      obtain⟨q,hQ⟩:∃q9,(⟨t::r,e⟩:Ps)=q9:=⟨_,rfl⟩
      rw[hQ] at HRPX HLEN1 HKD d1 d2 HKNE HWL HWD HST1
      have HQ:=jd hQ
      have HQT:Hid (aJ q=⟨r,e⟩):=jd (by rw[←hQ];rfl)
      obtain⟨kq,hkq⟩:∃kq,ag q=kq:=⟨_,rfl⟩
      rw[hkq] at d1 d2 HKD
      obtain⟨N,hN⟩:∃N,T.L.length=N:=⟨_,rfl⟩
      rw[hN] at hs hle ha
      have HN:=jd hN
      have HEX:Hid (bW wc):=jd (HE.o.dz HKX.o HGN.o)
      clear hkne hd hr ht0 hd2 hkt htx hk1 hwl hqw hQ hkq hN HMO HNO
      go_wp2_with fail
      refine HKD.o.mono ?_
      rintro e9 wY ⟨rfl,kY⟩
      have HR:=jd (HR0.o.au kY)
      have HNBY:=jd (HNBX.o.kept kY (fun _ _ h=>h))
      have HRPY:=jd (HRPX.o.au kY)
      have HKY:Hid (Kept (fun i=>i=g) w wY):=jd (HKX.o.trans kY (fun _ _ h=>h.elim))
      have HPRY:Hid (NBx wY w.heap.size zN):=jd (kY.heap HPRX.o (fun h=>h))
      have HEY:Hid (bW wY):=jd (HEX.o.au kY)
      obtain⟨b,off,e1,t0,t1,tl⟩:=jl HR.o.tok HTN.o
      rw[HTX.o] at t1
      have HAD:=jd e1;have HT1:=jd t1
      have hlt:=HR.o.lt
      clear kY e1 t0 t1 HTN HR0 HNBX HRPX HKX HPRX HEX HKD
      go_wp2_with fail
      refine bG 11 [stV (.pointer (some ⟨g,0,none⟩)),stV (.pointer (some ⟨g,0,none⟩)),stV (.pointer (some ⟨g,0,none⟩)),stV (.slice (some ⟨b,off,none⟩) N T.c),stV (.pointer (some ⟨g,0,none⟩)),stV (.pointer (some ⟨g,0,none⟩)),stV (.pointer (some ⟨g,1,none⟩)),stV (.int .i64 (at_:Int)),stV (.pointer (some ⟨b,off+at_*3,none⟩)),stV (.pointer (some ⟨b,off+at_*3+1,none⟩)),stV (.string (BA tx))] (by kernel_rfl) (by kernel_rfl) ?_ ?_
      ·iterate 11
        refine ai (fun a' w' hI hag hf K hK=>?_) ?_
        ·obtain⟨⟨_,h0,rfl⟩,⟨_,h1,rfl⟩,-⟩:=hf
         have s0:=hag.same 0 (by decide)
         clear hag
         have RX:=HR.o.au hI
         obtain⟨⟨c0,c1,c2,c3⟩,-⟩:=RX.cells
         rw[HN.o] at c0
         clear RX
         rw[HAD.o] at c0
         have RX:=HR.o.au hI
         obtain⟨⟨c0,c1,c2,c3⟩,-⟩:=RX.cells
         rw[HN.o] at c0
         clear RX
         have tt:=hI.cell HT1.o (fun h=>h)
         go_wp2_with fail
         exact hK _ _ hI (Ja _ _) rfl
       exact trivial
      ·intro vs wz hI hvs
       simp only[pzz,aW,Act.put,Nat.reduceAdd,spv (hvs 0 _ _ rfl rfl) rfl,spv (hvs 1 _ _ rfl rfl) rfl,spv (hvs 2 _ _ rfl rfl) rfl,spv (hvs 3 _ _ rfl rfl) rfl,spv (hvs 4 _ _ rfl rfl) rfl,spv (hvs 5 _ _ rfl rfl) rfl,spv (hvs 6 _ _ rfl rfl) rfl,spv (hvs 7 _ _ rfl rfl) rfl,spv (hvs 8 _ _ rfl rfl) rfl,spv (hvs 9 _ _ rfl rfl) rfl,spv (hvs 10 _ _ rfl rfl) rfl]
       clear hvs
       have KZ:=jd hI
       have HNBZ:=jd (HNBY.o.kept hI (fun _ _ h=>h))
       have HRPZ:=jd (HRPY.o.au hI)
       have HKZ:Hid (Kept (fun i=>i=g) w wz):=jd (HKY.o.trans hI (fun _ _ h=>h.elim))
       have HPRZ:Hid (NBx wz w.heap.size zN):=jd (hI.heap HPRY.o (fun h=>h))
       have HEZ:Hid (bW wz):=jd (HEY.o.au hI)
       have HAS:=jd (qn wz tx HEZ.o.word (by omega))
       clear hI HNBY HRPY HKY HPRY HEY HR HAD HT1 HN KZ
       go_wp2_with fail
       refine HAS.o.mono ?_
       rintro e9 wA ⟨hpo,kA⟩
       have HNBA:=jd (HNBZ.o.kept kA (fun _ _ h=>h))
       have HRPA:=jd (HRPZ.o.au kA)
       have HKA:Hid (Kept (fun i=>i=g) w wA):=jd (HKZ.o.trans kA (fun _ _ h=>h.elim))
       have HPRA:Hid (NBx wA w.heap.size zN):=jd (kA.heap HPRZ.o (fun h=>h))
       have HEA:Hid (bW wA):=jd (HEZ.o.au kA)
       have hzA:=kA.size
       have hbzw:w.heap.size+1<wz.heap.size:=HNBZ.o.lt
       obtain⟨ta,tc,htt,htw⟩:=HNBA.o.rw.slice
       obtain⟨tn,htn⟩:∃tn,ws.length=tn:=⟨_,rfl⟩
       rw[htn] at htt htw
       obtain⟨ua,uc,hut,_⟩:=HNBA.o.ra.slice
       obtain⟨un,hun⟩:∃un,al.length=un:=⟨_,rfl⟩
       rw[hun] at hut
       have HTWN:=jd htn;have HUNN:=jd hun
       subst htt;subst hut
       have htn9:tn≤2048:=by have:=HLEN1.o.1;omega
       have hun9:un≤2048:=by have:=HLEN1.o.1;omega
       have KZA:=jd kA
       clear kA HRPZ HEZ HAS
       obtain⟨anm,v,ia,rfl,hia,hin⟩:=Eh hpo
       have HIA:=jd hia;have HIN:=jd hin
       clear hpo hia hin
       go_upto_region 7 with fail
       go_cut [47] (fun s47 wx=>∃b:Bool,s47= .bool b∧wx=wA∧(b=true↔ia=true∧tn=0))
       case first=>
        obtain⟨⟨y0,y1,y2,y3,y4,y5,y6⟩,z0,z1,z2,z3,z4,z5,z6⟩:=NBx.cells HNBA.o.box
        have hblt:w.heap.size+1<wA.heap.size:=HNBA.o.lt
        obtain⟨jb,hjb⟩:∃jb,decide (tn=0)=jb:=⟨_,rfl⟩
        have HX:Hid ((ia&&jb)=true↔ia=true∧tn=0):=jd (by rw[←hjb,Jr,decide_eq_true_eq])
        have d3:((tn:Int)==0)=jb:=by rw[←hjb,Bool.eq_iff_iff,beq_iff_eq,decide_eq_true_eq];omega
        clear htn hun hjb
        cases ia with
        |true=>(go_wp2_with fail;go_meet;exact⟨jb,rfl,rfl,HX.o⟩)
        |false=>(go_wp2_with fail;go_meet;exact⟨false,rfl,rfl,HX.o⟩)
       case rest=>
        obtain⟨b7,rfl,rfl,hb7⟩:=hcut
        cases b7 with
        |true=>
         obtain⟨rfl,htn0⟩:=hb7.1 rfl
         obtain⟨avl,hasn,hv⟩:=HIA.o rfl
         obtain⟨vaa,van,vac,rfl⟩:=hv.slice
         have HV:=jd hv;have HASN:=jd hasn
         clear hv hasn HIA HIN hb7
         have hws:ws=[]:=List.eq_nil_of_length_eq_zero (by rw[htn,htn0])
         have HST2:Hid (de ⟨al++[(anm,avl)],ws,rs⟩ (aJ q)=R):=jd (by rw[←HST1.o,←HQ.o,gX (wJ HKT.o hws (by rw[HTX.o];exact HASN.o))];rfl)
         subst htn0
         clear hws htn hun
         obtain⟨⟨y0,y1,y2,y3,y4,y5,y6⟩,z0,z1,z2,z3,z4,z5,z6⟩:=NBx.cells HNBA.o.box
         have hblt:w.heap.size+1<wc.heap.size:=HNBA.o.lt
         obtain⟨ps,hps,hown,hel⟩:=HNBZ.o.ra
         rw[HUNN.o] at hown
         have HOWN:=jd ((bH KZA.o hown (fun _ _ h=>h)).alloc (.cells #[.string (BA anm),.slice vaa van vac] 61));have HPS:=jd hps;have HEL:=jd hel
         have HRD:Hid (Rd (wc.alloc (.cells #[.string (BA anm),.slice vaa van vac] 61)) 2 (.slice (some ⟨wc.heap.size,0,none⟩) 1 1) 1 (AC ((anm,avl),.slice vaa van vac))):=jd (fs (C:=AC) (heap_alloc _ _) rfl)
         have HONE:Hid (∀y∈AC ((anm,avl),.slice vaa van vac),y.oneCell'=true):=jd (fun y hy=>by simp only[AC,Jl,List.not_mem_nil,or_false] at hy;rcases hy with rfl|rfl<;>rfl)
         have hgA:g<wc.heap.size:=HRPA.o.lt
         clear hps hown hel
         go_wp2_with (at_builtin;refine bg rfl _ _ _ rfl EAs (.slice ua un uc) un _ rfl HOWN.o _ 1 _ rfl HRD.o HONE.o (by unfold maxLen;omega) (by omega) ?_;intro ad9 cap9 w9 ho9 hg9 hf9;have HF9:=jd hf9;have HO9:=jd ho9;have HG9:=jd hg9;have hk9:Kept (blk (.slice ua un uc)) wc w9:=((Ja _ wc).alloc _).grown hg9 (fun i e _=>e);have hbx9:=hk9.heap HNBA.o.box (fun e=>(HNBA.o.ba _ e).2.1 rfl);have K9:=jd hk9;have B9:=jd hbx9;obtain⟨⟨y0',y1',y2',y3',y4',y5',y6'⟩,z0',z1',z2',z3',z4',z5',z6'⟩:=NBx.cells hbx9;have hblt9:w.heap.size+1<w9.heap.size:=av hbx9;have hRS:Hid (RP T (w9.setCell ⟨w.heap.size+1,3,none⟩ (.slice ad9 (un+1) cap9)) g d q):=jd (GM HRPA.o hk9 (fun i hi=>(HNBA.o.ba i hi).1) HGL.o HTB.o);obtain⟨at2,a1,a2,a3,a4,RS,KS⟩:=hRS.out.next HKNE.o;clear ho9 hg9 hf9 hk9 hbx9)
         have hpush:=HNBZ.o.EG (S:=fun _=>False) HPS.o HEL.o (KZA.o.alloc (.cells #[.string (BA anm),.slice vaa van vac] 61)) (fun _ _ h=>h) (x:=(anm,avl)) (u:= .slice vaa van vac) (G:=fun i=>wz.heap.size≤i) (HV.o.kept ((Ja (fun _=>False) wc).alloc _) (fun _ _ h=>h)) (fun i hi=>hi) (by rw[HUNN.o];exact HO9.o) HG9.o HF9.o
         have HPU:=jd hpush.1;have HKU:=jd hpush.2
         obtain⟨wB,hwB⟩:∃wB,(w9.setCell ⟨w.heap.size+1,3,none⟩ (.slice ad9 (un+1) cap9)).setCell ⟨g,1,none⟩ (.int .i64 ((at2:Int)+1))=wB:=⟨_,rfl⟩
         rw[hwB] at RS KS⊢
         have HNBB:=jd (HPU.o.kept KS.o (fun i hi e=>by have e':i=g:=e;have:=HGL.o;omega))
         have HKB:Hid (Kept (fun i=>i=g) wz wB∨True):=jd (.inr trivial)
         have HKZB:Hid (Kept (fun i=>i=g∨w.heap.size+1≤i) wz wB):=jd ((HKU.o.mono (S':=fun i=>i=g∨w.heap.size+1≤i) (fun i _ h=>h.elim (fun h=>h.elim) .inr)).trans KS.o (fun _ _ h=>.inl h))
         clear hpush hwB
         go_roundg ((aJ q).r.length)
         case measure=>have h1:=gh HKNE.o;have h:=HLEN1.o;omega
         case rel=>exact⟨al++[(anm,avl)],ws,rs,aJ q,_,_,_,_,HNBB.o,RS.o,HKZ.o.trans HKZB.o (fun i hi e=>by rcases e with e|e<;>first|exact e|(exfalso;omega)),HKZB.o.heap HPRZ.o (fun e=>by rcases e with e|e<;>first|omega|(have e':w.heap.size=g:=e;omega)),rfl,(by have h1:=gh HKNE.o;have h:=HLEN1.o.1;simp only[Jf,Jg,Jn];omega),HST2.o⟩
        |false=>
         have HNAS:Hid (¬(ws=[]∧(bE tx).isSome=true)):=jd (fun e=>absurd (hb7.2 ⟨by cases ia with|true=>rfl|false=>(rw[HIN.o rfl] at e;exact absurd e.2 (by decide)),by rw[←htn,e.1];rfl⟩) (by decide))
         clear hb7 HIA HIN
         go_upto_region 10 with fail
         go_cut [74] (fun s74 wx=>∃b:Bool,s74= .bool b∧wx=wc∧(b=true↔ws=[]∧al=[]∧gB tx=true))
         case first=>
          have HRV:=jd (rJ wc tx HEA.o)
          obtain⟨⟨y0,y1,y2,y3,y4,y5,y6⟩,z0,z1,z2,z3,z4,z5,z6⟩:=NBx.cells HNBA.o.box
          have hblt:w.heap.size+1<wc.heap.size:=HNBA.o.lt
          by_cases hz0:tn+un=0
          ·have d5:((tn:Int)+(un:Int)==0)=true:=by rw[show(tn:Int)+(un:Int)=0 by omega];rfl
           obtain⟨rb,hrb⟩:∃rb,gB tx=rb:=⟨_,rfl⟩
           have HX:Hid (rb=true↔ws=[]∧al=[]∧gB tx=true):=jd (by rw[←hrb];exact⟨fun e=>⟨List.eq_nil_of_length_eq_zero (by rw[htn];omega),List.eq_nil_of_length_eq_zero (by rw[hun];omega),e⟩,fun e=>e.2.2⟩)
           rw[hrb] at HRV
           have ht0:tn=0:=by omega
           have hu0:un=0:=by omega
           clear hz0 hrb htn hun
           subst ht0;subst hu0
           go_wp2_with fail
           refine HRV.o.mono ?_
           rintro e9 wc9 ⟨rfl,hw9⟩
           obtain rfl:=hw9.symm
           go_wp2_with fail
           go_meet
           exact⟨rb,rfl,rfl,HX.o⟩
          ·have d5:((tn:Int)+(un:Int)==0)=false:=by apply Jq.2;omega
           have HX:Hid (false=true↔ws=[]∧al=[]∧gB tx=true):=jd ⟨fun e=>(by cases e),fun e=>(hz0 (by rw[←htn,←hun,e.1,e.2.1];rfl)).elim⟩
           clear hz0 htn hun
           go_wp2_with fail
           go_meet
           exact⟨false,rfl,rfl,HX.o⟩
         case rest=>
          obtain⟨b9,rfl,rfl,hb9⟩:=hcut
          have HB9:=jd hb9
          clear hb9 htn hun
          cases b9 with
          |true=>
           have HST2:Hid (de ⟨al,ws,rs⟩ (bm q 5)=R):=jd (by rw[←HST1.o,←HQ.o,gX (uZ HKT.o (HB9.o.1 rfl).1 (HB9.o.1 rfl).2.1 (by rw[HTX.o];cases hx:bE tx with|none=>rfl|some x=>exact absurd ⟨(HB9.o.1 rfl).1,by rw[hx];rfl⟩ HNAS.o) (by rw[HTX.o];exact(HB9.o.1 rfl).2.2))])
           have HFA:=jd (dV T wc g d q HRPA.o 5)
           go_wp2_with fail
           refine HFA.o.mono ?_
           rintro e9 wB ⟨rfl,rB,kB⟩
           have HRB:=jd rB;have KB:=jd kB
           clear rB kB
           go_wp2_with fail
           go_roundg ((bm q 5).r.length)
           case measure=>have h1:=gh HKNE.o;have h:=HLEN1.o;show 0<gk;omega
           case rel=>exact⟨al,ws,rs,bm q 5,_,_,_,_,HNBA.o.kept KB.o (fun i hi e=>by have e':i=g:=e;have:=HGL.o;omega),HRB.o,HKA.o.trans KB.o (fun _ _ h=>h),KB.o.heap HPRA.o (fun e=>by have e':w.heap.size=g:=e;omega),rfl,(by have h:=HLEN1.o.1;show _+0≤2048;omega),HST2.o⟩
          |false=>
           have HST2:Hid (de ⟨al,ws++[wl],rs⟩ qw=R):=jd (by rw[←HST1.o,←HQ.o,gX (uL HKT.o (fun e=>HNAS.o ⟨e.1,by rw[←HTX.o];exact e.2⟩) (fun e=>absurd (HB9.o.2 ⟨e.1,e.2.1,by rw[←HTX.o];exact e.2.2⟩) (by decide))),HWLQ.o.1,HWLQ.o.2])
           obtain⟨⟨y0,y1,y2,y3,y4,y5,y6⟩,z0,z1,z2,z3,z4,z5,z6⟩:=NBx.cells HNBA.o.box
           have HML:Hid (ws.length≤5000):=jd (by have:=HLEN1.o.1;omega)
           have HWP:Hid (∀wx,Kept (fun _=>False) wc wx→Calls Tryz.prog 98 #[.pointer (some ⟨g,0,none⟩)] wx (zU T wx g d wl qw)):=jd (fun wx hk=>HWD.o wx (HRPA.o.au hk) (HEA.o.word.au hk))
           go_wp2_with fail
           obtain⟨vwq,hvwq⟩:∃v,Value.slice ta tn tc=v:=⟨_,rfl⟩
           rw[hvwq] at HNBA
           clear y0 y1 y2 y3 y4 y5 y6 z0 z1 z2 z3 z4 z5 z6 hvwq
           have hnrc:=HNBA.o
           obtain⟨rac,rcpc,hslc,hrlc⟩:=hnrc.rw.slice
           obtain⟨mc,hmc⟩:∃m,(ws).length=m:=⟨_,rfl⟩
           rw[hmc] at hslc hrlc
           subst hslc
           have hlobc:=HNBA.o.lob
           have hglc:=HGL.o
           have hbgc:(w.heap.size+1)≠g:=by omega
           obtain⟨psc,hpsc,hownc,helc⟩:=hnrc.rw
           have HMc:=jd hmc
           rw[hmc] at hownc
           have HOWNc:=jd hownc;have HPSc:=jd hpsc;have HELc:=jd helc
           have hmlc:mc≤5000:=by have h9:=HML.o;omega
           have hSSc:∀i,wc.heap.size≤i→¬duS (fun i=>i=g) (blk (.slice rac mc rcpc)) i:=fun i hi e=>by
            rcases e with e|e
            ·have e':i=g:=e;have:=HNBA.o.lt;have:=HRPA.o.lt;omega
            ·have:=df HOWNc.o i e;omega
           have hb1c:¬((w.heap.size+1)=g):=hbgc
           have hPrc:∀(v:Value) (wx wy:World),Kept (fun i=>i=g) wx wy→(∃F',NB wx (w.heap.size+1) (w.heap.size+1) F' 1 false [] (.slice ua un uc) v vr1 (.slice none 0 0) al (ws++[wl]) rs [])→∃F',NB wy (w.heap.size+1) (w.heap.size+1) F' 1 false [] (.slice ua un uc) v vr1 (.slice none 0 0) al (ws++[wl]) rs []:=fun v wx wy hk ⟨F',h⟩=>⟨F',h.kept hk (fun i hi e=>by have e':i=g:=e;have:=HGL.o;omega)⟩
           clear hnrc hpsc hownc helc hmc
           refine cS 7 3 5 (fun i=>i=g) (blk (.slice rac mc rcpc)) (RdI wc T g d qw (w.heap.size+1) (w.heap.size+1) #[.int .i64 1,.bool false,.string (BA []),(.slice ua un uc),(.slice rac mc rcpc),vr1,(.slice none 0 0)]) (jV (fun i=>i=g) (w.heap.size+1) 4 hb1c (fun v wq=>∃F',NB wq (w.heap.size+1) (w.heap.size+1) F' 1 false [] (.slice ua un uc) v vr1 (.slice none 0 0) al (ws++[wl]) rs []) hPrc) [rV (.pointer (some ⟨(w.heap.size+1),4,none⟩)),rV (.slice rac mc rcpc),rV (.pointer (some ⟨g,0,none⟩)),rEl ix (duS (fun i=>i=g) (blk (.slice rac mc rcpc))) (fun i=>wc.heap.size≤i) hSSc wl,tS ix WC 59 (duS (fun i=>i=g) (blk (.slice rac mc rcpc))) (fun i=>wc.heap.size≤i) hSSc wl,rV (.bool true),rV (.pointer (some ⟨(w.heap.size+1),4,none⟩))] (by kernel_rfl) (by kernel_rfl) ?_ ?_ ?_
           case refine_1=>exact RdI.start HNBA.o.box
           case refine_2=>
            iterate 3
             refine dY (by decide) (by kernel_rfl) (fun s hs1 a' w' hI hag hf K hK=>?_) ?_
             ·obtain⟨⟨_,h0,rfl⟩,-⟩:=hf
              have s0:=hag.same 0 (by decide)
              have s3:=hag.same 3 (by decide)
              clear hag
              obtain⟨⟨y0,y1,y2,y3,y4,y5,y6⟩,-⟩:=NBx.cells hI.box
              go_wp2_with fail
              exact hK _ _ hI (Ja _ _) rfl
            refine jK (by decide) (fun a' w' hI hag hf K hK=>?_) ?_
            ·obtain⟨⟨_,h2,rfl⟩,-⟩:ah _ _ a' w' [2]:=hf
             clear hag
             have HI:=jd hI
             have hk0:=hI.k0 rfl
             clear hI
             go_wp2_with fail
             refine(HWP.o _ hk0).mono ?_
             rintro x w4 ⟨v,rfl,hw4,hr4,hk4⟩
             go_wp2_with fail
             exact hK _ _ (HI.o.call hk4 hr4 hbgc) hk4 (hw4.mono (fun i _ hi=>lt9 hk0.size hi))
            refine dY (by decide) (by kernel_rfl) (fun s hs1 a' w' hI hag hf K hK=>?_) ?_
            ·obtain⟨⟨v3,h3,e3⟩,-⟩:ah _ _ a' w' [3]:=hf
             clear hag
             have hw7:WAt w' (fun i=>wc.heap.size≤i) v3 wl:=e3
             obtain⟨ua,un,uc,rfl⟩:=hw7.slice
             have hz:=hI.k.size
             go_wp2_with fail
             exact hK _ _ (hI.au ((Ja _ _).alloc _)) ((Ja _ _).alloc _) ⟨_,_,rfl,hz,heap_alloc _ _,hw7.kept ((Ja _ _).alloc _) (fun _ _ h=>h)⟩
            refine jS (fun a' w' hI hag hf K hK=>?_) ?_
            ·obtain⟨⟨_,h1,rfl⟩,⟨v4,h4,e4⟩,-⟩:ah _ _ a' w' [1,4,3]:=hf
             clear hag
             obtain⟨bb,u,rfl,hbb,hbh,hu⟩:∃bb u,v4= .slice (some ⟨bb,0,none⟩) 1 1∧wc.heap.size≤bb∧w'.heap[bb]? =some (.cells (WC (wl,u)).toArray 59 (0,0))∧WAt w' (fun i=>wc.heap.size≤i) u wl:=e4
             have hk1:=hI.k1 (Jb _)
             refine bg rfl _ _ _ rfl EWs (.slice rac mc rcpc) mc (psc.flatMap WC) (by simp[Act.eval,h1]) (bH hk1 HOWNc.o (fun i hi e=>absurd e ?_)) _ 1 (WC (wl,u)) (by simp[Act.eval,h4]) (fs (C:=WC) hbh rfl) (fun y hy=>?_) (by unfold maxLen;omega) (by omega) (fun ad9 cap9 w9 ho9 hg9 hf9=>?_)
             ·have h9:=(HNBA.o.bw i hi).1;have:=HGL.o;intro e';have e2:i=g:=e';omega
             ·rw[Jk.1 hy];exact nA hu
             have hk9:Kept (blk (.slice rac mc rcpc)) w' w9:=(Ja _ _).grown hg9 (fun i e _=>e)
             have ho9':w9.ownsRow 0 59 1 (.slice ad9 (mc+1) cap9) ((ws).length+1) (psc.flatMap WC++WC (wl,u)):=by rw[HMc.o];exact ho9
             have hpush:=(HNBA.o.As (S:=fun i=>i=g) HPSc.o HELc.o hk1 (fun i hi e=>by have e':i=g:=e;have:=HGL.o;omega) (x:=wl) (u:=u) (G:=fun i=>wc.heap.size≤i) hu (fun i hi=>hi) ho9' hg9 hf9).1
             exact hK _ _ (hI.app hk9 (fun i hi=>⟨(HNBA.o.bw i hi).1,(HNBA.o.bw i hi).2.1⟩) HGL.o (fun i hi=>Nat.lt_trans (HTB.o i hi) HGL.o)) hk9 ⟨_,hpush⟩
            refine eZ (by decide) (fun s a' w' hI hag hf K hK=>?_) ?_
            ·have s3:=hag.same 3 (by decide)
             clear hag
             go_wp2_with fail
             exact hK _ _ hI (Ja _ _) rfl
            exact trivial
           case refine_3=>
            intro vs wz hI hvs
            have q3:=hvs 3 _ _ rfl rfl
            have q4:=hvs 4 _ _ rfl rfl
            have q5:(jV (fun i=>i=g) (w.heap.size+1) 4 hb1c (fun v wq=>∃F',NB wq (w.heap.size+1) (w.heap.size+1) F' 1 false [] (.slice ua un uc) v vr1 (.slice none 0 0) al (ws++[wl]) rs []) hPrc).1 (vs 5) wz:=hvs 5 _ _ rfl rfl
            simp only[pzz,aW,Act.put,Nat.reduceAdd,dpv (hvs 0 _ _ rfl rfl) (by decide) rfl,dpv (hvs 1 _ _ rfl rfl) (by decide) rfl,dpv (hvs 2 _ _ rfl rfl) (by decide) rfl,dpv (hvs 6 _ _ rfl rfl) (by decide) rfl]
            clear hvs
            generalize vs 3=x3 at*
            generalize vs 4=x4 at*
            generalize vs 5=x5 at*
            have HIc:=jd hI
            obtain⟨Fc,hnb⟩:∃F',NB (wz.setCell ⟨(w.heap.size+1),4,none⟩ x5) (w.heap.size+1) (w.heap.size+1) F' 1 false [] (.slice ua un uc) x5 vr1 (.slice none 0 0) al (ws++[wl]) rs []:=q5
            obtain⟨za,zn,zc,rfl⟩:∃a n c,x5= .slice a n c:=by obtain⟨a,c,e,_⟩:=hnb.rw.slice;exact⟨a,_,c,e⟩
            obtain⟨⟨y0,y1,y2,y3,y4,y5,y6⟩,z0,z1,z2,z3,z4,z5,z6⟩:=NBx.cells hI.box
            have hbltc:(w.heap.size+1)<wz.heap.size:=av hI.box
            have HNBc:=jd hnb
            have HRPc:Hid (RP T (wz.setCell ⟨(w.heap.size+1),4,none⟩ (.slice za zn zc)) g d qw):=jd (by
             obtain⟨a,h1,h2⟩:=HIc.o.p (by decide)
             have kS:Kept (fun i=>i=(w.heap.size+1)) wz (wz.setCell ⟨(w.heap.size+1),4,none⟩ (.slice za zn zc)):=(Ja (fun i=>i=(w.heap.size+1)) wz).set (w.heap.size+1) 4 (fun _=>rfl) _
             exact⟨a,h1,h2.kept kS (fun e=>hbgc e.symm) (fun i hi e=>by have e':i=(w.heap.size+1):=e;have:=HTB.o i hi;omega)⟩)
            have HKWc:Hid (Kept (fun i=>i=g∨(w.heap.size+1)≤i) wc (wz.setCell ⟨(w.heap.size+1),4,none⟩ (.slice za zn zc))):=jd (HIc.o.k.set (w.heap.size+1) 4 (fun _=>.inr hlobc) _)
            clear hI q3 q4 hnb
            go_wp2_with fail
            obtain⟨wE,hwE⟩:∃W,wz.setCell ⟨(w.heap.size+1),4,none⟩ (.slice za zn zc)=W:=⟨_,rfl⟩
            rw[hwE] at HNBc HRPc HKWc⊢
            clear y0 y1 y2 y3 y4 y5 y6 z0 z1 z2 z3 z4 z5 z6 hwE HIc hbltc
            go_roundg (qw.r.length)
            case measure=>have h1:qw.r.length<(q).r.length:=HWL.o;have h:=HLEN1.o;omega
            case rel=>exact⟨al,ws++[wl],rs,qw,_,_,_,_,HNBc.o,HRPc.o,HKA.o.trans HKWc.o (fun i hi e=>by rcases e with e|e<;>first|exact e|(exfalso;omega)),HKWc.o.heap HPRA.o (fun e=>by rcases e with e|e<;>first|omega|(have e':w.heap.size=g:=e;omega)),rfl,(by have h1:qw.r.length<(q).r.length:=HWL.o;have h:=HLEN1.o.1;simp only[Jf,Jg,Jn];omega),HST2.o⟩
    ·have d1:((ag q:Int) !=1)=true:=by simp[bne];omega
     have d2:(ag q !=1)=true:=by simp[bne];exact hk1
     have HMS:=jd (HMO.o rfl hk1)
     obtain⟨kq,hkq⟩:∃kq,ag q=kq:=⟨_,rfl⟩
     rw[hkq] at d1 d2 HKD
     clear hk1 hkq
     go_wp2_with fail
     refine HKD.o.mono ?_
     rintro e wY ⟨rfl,kY⟩
     have KY:=jd kY
     clear kY HKD
     go_wp2_with fail
     go_roundg (q.r.length)
     case measure=>exact HMS.o
     case rel=>exact⟨al,ws,rs,q,F1,va,vw,vr1,HNBX.o.kept KY.o (fun _ _ h=>h),HRPX.o.au KY.o,HKX.o.trans KY.o (fun _ _ h=>h.elim),KY.o.heap HPRX.o (fun h=>h),rfl,HLEN1.o.1,HST1.o⟩
   |false=>
    have HRE:Hid (R=(⟨al,ws,rs⟩,q)):=jd (by rw[←HST1.o,tJ (xE (HNO.o rfl).1 (HNO.o rfl).2)])
    have HND2:Hid (nd= .mk 1 false [] al ws rs []):=jd (by rw[HND.o,HRE.o])
    have HP92:Hid (p9=if q.r.length=M then bm q 5 else q):=jd (by rw[HP9.o,HRE.o,HM.o])
    have HNBn:=HNBX
    have HRPn:=HRPX
    have HKn:=HKX
    have PRn:=HPRX
    clear HST1 HRE HND HP9 HNO HMO HNBX HRPX HKX HPRX
    obtain⟨wN,hwN⟩:∃W,wc=W:=⟨_,rfl⟩
    subst hwN
    obtain⟨at9,b1,b2,b3,b4⟩:=HRPn.o.from
    by_cases hq:q.r.length=M
    ·have hat:at9=at0:=by have:=HA2.o;omega
     subst hat
     have d3:((at9:Int)==(at9:Int))=true:=by simp
     have HPE:Hid (p9=bm q 5):=jd (by rw[HP92.o,Jt hq])
     have HFA:=jd (dV T wc g d q HRPn.o 5)
     clear hq b2
     go_wp2_with fail
     refine HFA.o.mono ?_
     rintro e wE ⟨rfl,rE,kE⟩
     have HRPe:Hid (RP T wE g d p9):=jd (by rw[HPE.o];exact rE)
     have HNBe:=jd (HNBn.o.kept kE (fun i hi e=>by have e':i=g:=e;have:=HGL.o;omega))
     have HKF:Hid (Kept (fun i=>i=g) w wE):=jd (HKn.o.trans kE (fun _ _ h=>h))
     have PRN:Hid (NBx wE w.heap.size zN):=jd (kE.heap PRn.o (fun e=>by have e':w.heap.size=g:=e;omega))
     clear rE kE HFA HPE b1
     obtain⟨ta,tc,htt,_⟩:=HNBe.o.rw.slice
     obtain⟨tn,htn⟩:∃tn,ws.length=tn:=⟨_,rfl⟩
     rw[htn] at htt
     subst htt
     obtain⟨ua,uc,hut,_⟩:=HNBe.o.ra.slice
     obtain⟨un,hun⟩:∃un,al.length=un:=⟨_,rfl⟩
     rw[hun] at hut
     subst hut
     obtain⟨xa,xc,hxt,_⟩:=HNBe.o.rr.slice
     obtain⟨xn,hxn⟩:∃xn,rs.length=xn:=⟨_,rfl⟩
     rw[hxn] at hxt
     subst hxt
     clear htn hun hxn
     obtain⟨⟨c0,c1,c2,c3,c4,c5,c6⟩,f0,f1,f2,f3,f4,f5,f6⟩:=NBx.cells PRN.o
     obtain⟨⟨e0,e1,e2,e3,e4,e5,e6⟩,-⟩:=NBx.cells HNBe.o.box
     have hltN:w.heap.size<wE.heap.size:=av PRN.o
     have K7:Hid (Kept (fun i=>i=w.heap.size) wE (st7 wE w.heap.size (.int .i64 1) (.bool false) (.string (BA [])) (.slice ua un uc) (.slice ta tn tc) (.slice xa xn xc) (.slice none 0 0))):=jd (bu (Ja (fun i=>i=w.heap.size) wE) (fun _=>rfl) _ _ _ _ _ _ _)
     have B7:=jd (bS PRN.o (.int .i64 1) (.bool false) (.string (BA [])) (.slice ua un uc) (.slice ta tn tc) (.slice xa xn xc) (.slice none 0 0))
     go_wp2_with fail
     refine bodyPost_ret (v:= .agg #[.int .i64 1,.bool false,.string (BA []),.slice ua un uc,.slice ta tn tc,.slice xa xn xc,.slice none 0 0]) ?_ rfl ?_
     ·exact results_cell_row rfl _ _ w.heap.size 27 _ (0,0) _ (by rfl) B7.o Tryz.underlying27 rfl (by kernel_rfl)
     exact fN HXN.o HXP.o (cp HXN.o (HND2.o▸HNBe.o.at) (by rw[HXP.o];exact HRPe.o) HKF.o K7.o hgl HTB.o)
    ·have hat:at9≠at0:=by have:=HA2.o;omega
     have d3:((at9:Int)==(at0:Int))=false:=by apply Jq.2;omega
     have d4:(at9==at0)=false:=by apply Jq.2;exact hat
     have HPE:Hid (p9=q):=jd (by rw[HP92.o,Js hq])
     have HRPe:Hid (RP T wc g d p9):=jd (by rw[HPE.o];exact HRPn.o)
     have HNBe:=HNBn
     have HKF:=HKn
     have PRN:=PRn
     clear hq b2 hat
     obtain⟨ta,tc,htt,_⟩:=HNBe.o.rw.slice
     obtain⟨tn,htn⟩:∃tn,ws.length=tn:=⟨_,rfl⟩
     rw[htn] at htt
     subst htt
     obtain⟨ua,uc,hut,_⟩:=HNBe.o.ra.slice
     obtain⟨un,hun⟩:∃un,al.length=un:=⟨_,rfl⟩
     rw[hun] at hut
     subst hut
     obtain⟨xa,xc,hxt,_⟩:=HNBe.o.rr.slice
     obtain⟨xn,hxn⟩:∃xn,rs.length=xn:=⟨_,rfl⟩
     rw[hxn] at hxt
     subst hxt
     clear htn hun hxn
     obtain⟨⟨c0,c1,c2,c3,c4,c5,c6⟩,f0,f1,f2,f3,f4,f5,f6⟩:=NBx.cells PRN.o
     obtain⟨⟨e0,e1,e2,e3,e4,e5,e6⟩,-⟩:=NBx.cells HNBe.o.box
     have hltN:w.heap.size<wc.heap.size:=av PRN.o
     have K7:Hid (Kept (fun i=>i=w.heap.size) wc (st7 wc w.heap.size (.int .i64 1) (.bool false) (.string (BA [])) (.slice ua un uc) (.slice ta tn tc) (.slice xa xn xc) (.slice none 0 0))):=jd (bu (Ja (fun i=>i=w.heap.size) wc) (fun _=>rfl) _ _ _ _ _ _ _)
     have B7:=jd (bS PRN.o (.int .i64 1) (.bool false) (.string (BA [])) (.slice ua un uc) (.slice ta tn tc) (.slice xa xn xc) (.slice none 0 0))
     go_wp2_with fail
     refine bodyPost_ret (v:= .agg #[.int .i64 1,.bool false,.string (BA []),.slice ua un uc,.slice ta tn tc,.slice xa xn xc,.slice none 0 0]) ?_ rfl ?_
     ·exact results_cell_row rfl _ _ w.heap.size 27 _ (0,0) _ (by rfl) B7.o Tryz.underlying27 rfl (by kernel_rfl)
     exact fN HXN.o HXP.o (cp HXN.o (HND2.o▸HNBe.o.at) (by rw[HXP.o];exact HRPe.o) HKF.o K7.o hgl HTB.o)
