/- Of the proof of ParseBreaks: NodeC, Round. -/
import Derived.Test.YtgigdlhcjahejaaGreatDoorD23
import Derived.Test.YtgigdlhcjahejaaGreatDoorD11
import Derived.OrdersIn
namespace Go.Proofs.YtgigdlhcjahejaaGreatDoor
open Go Go.RowKit Go.Lw
set_option maxRecDepth 100000
set_option linter.unusedVariables false
set_option linter.unusedSimpArgs false
attribute [local go_sem] Oper.semAt_some
attribute [local go_sem] av
theorem CS (w:World) (lo B:Nat) (n:List Nd→Nat) (hB:w.heap.size≤B) (hlo:B<lo):
  Ab (fun(X:Nat→Prop) (pre:List Nd) V=>Kept (fun _=>False) w V∧(∀k,X k→lo≤k)∧lo≤V.heap.size∧V.heap[B]? =some (.cells #[.int .i64 (n pre:Int)] 3 (0,0))):=by
 rintro X1 X2 s V V' ⟨h1,h2,h3,h4⟩ hk hx
 refine⟨h1.trans hk (fun i hi h=>by have:=h2 i h;omega),fun i hi=>?_,Nat.le_trans h3 hk.size,hk.heap h4 (fun h=>by have:=h2 _ h;omega)⟩
 rcases hx i hi with h|h
 ·exact h2 i h
 ·omega
set_option maxHeartbeats 16000000 in
theorem qq (w:World) (F:Nat→Prop) (v:Value) (nd:Nd) (h:NAt w F v nd) (hF:∀b,F b→b<w.heap.size) (hn9:(aJ nd).length≤1000000000):
  Calls Tryz.prog 23 #[v] w fun x w'=>x= .returned (.int .i64 ((aJ nd).length:Int))∧Kept (fun _=>False) w w':=by
 have HN0:=jd h
 obtain⟨xa,xan,xac,xw,xwn,xwc,xr,xrn,xrc,xk,xkn,xkc,rfl,h1,h2,h3,h4⟩:=h.opens
 obtain⟨ND,hND⟩:∃ND,nd=ND:=⟨_,rfl⟩
 have hN9:=jd hn9
 have hnv:nv nd (.slice xa xan xac) (.slice xw xwn xwc) (.slice xr xrn xrc) (.slice xk xkn xkc)= .agg #[.int .i64 nd.kind,.bool nd.neg,.string (BA nd.name),.slice xa xan xac,.slice xw xwn xwc,.slice xr xrn xrc,.slice xk xkn xkc]:=rfl
 rw[hnv] at HN0
 clear hnv
 obtain⟨kk,nb,nm,al,ws,rs,ks⟩:=nd
 show Calls Tryz.prog 23 #[.agg #[.int .i64 kk,.bool nb,.string (BA nm),.slice xa xan xac,.slice xw xwn xwc,.slice xr xrn xrc,.slice xk xkn xkc]] w _
 simp only[Nd.kind,Nd.neg,Nd.name] at HN0
 rw[hND] at hN9 HN0⊢
 obtain⟨W0,hW0⟩:∃W0,w.alloc (.cells #[.int .i64 kk,.bool nb,.string (BA nm),.slice xa xan xac,.slice xw xwn xwc,.slice xr xrn xrc,.slice xk xkn xkc] 27)=W0:=⟨_,rfl⟩
 have hs0:W0.heap.size=w.heap.size+1:=by rw[←hW0,World.size_alloc]
 obtain⟨W1,hW1⟩:∃W1,W0.alloc (.cells #[.int .i64 0] 3)=W1:=⟨_,rfl⟩
 have hs1:W1.heap.size=w.heap.size+2:=by rw[←hW1,World.size_alloc,hs0]
 have KA:Hid (Kept (fun _=>False) w W1):=jd (by rw[←hW1,←hW0];exact((Kept.refl _ w).alloc _).alloc _)
 have PB:Hid (W1.heap[w.heap.size+1]? =some (.cells #[.int .i64 0] 3 (0,0))):=jd (by rw[←hW1,←hs0];exact heap_alloc W0 _)
 have PA:NBx W1 w.heap.size #[.int .i64 kk,.bool nb,.string (BA nm),.slice xa xan xac,.slice xw xwn xwc,.slice xr xrn xrc,.slice xk xkn xkc]:=by
  rw[←hW1]
  exact((Kept.refl (fun _=>False) W0).alloc _).heap (by rw[←hW0];exact heap_alloc w _) (fun h=>h)
 have HW0:=jd hW0;have HW1:=jd hW1;have HS0:=jd hs0;have HS1:=jd hs1
 obtain⟨⟨c0,c1,c2,c3,c4,c5,c6⟩,-⟩:=NBx.cells PA
 have HF:=jd hF
 clear h h1 h2 h3 h4 hND hW0 hW1 hn9 PA hF hs0 hs1
 refine gP Tryz.func23 rfl ?_
 simp only[Tryz.ntmps23,List.size_toArray,List.length_cons,List.length_nil,Nat.reduceAdd,Nat.reduceSub,Array.replicate_succ,Array.replicate_zero,List.push_toArray,List.append_toArray,List.nil_append,List.cons_append]
 go_wp2_with fail
 rw[HW0.o]
 rw[HW1.o]
 refine rz (gf:=22) (pr:=#[.agg #[.int .i64 kk,.bool nb,.string (BA nm),.slice xa xan xac,.slice xw xwn xwc,.slice xr xrn xrc,.slice xk xkn xkc]]) (lb:=#[]) rfl (Go.Proofs.enters_of Tryz.func22 (by kernel_rfl) rfl)
  (qy W1 F _ ND (HN0.o.kept KA.o (fun _ _ h=>h)) (fun b hb=>by have:=HF.o b hb;have:=HS1.o;omega)) (fun b hb=>by have:=HF.o b hb;have:=HS1.o;omega) (fun x en V he=>by obtain⟨v,rfl,_⟩:=he;rfl)
  (fun X pre V=>Kept (fun _=>False) w V∧(∀k,X k→w.heap.size+2≤k)∧w.heap.size+2≤V.heap.size∧V.heap[w.heap.size+1]? =some (.cells #[.int .i64 (pre.length:Int)] 3 (0,0)))
  (fun _ _ _ _=>False) (CS w _ _ _ (by omega) (by omega)) (fun _ _ _ _ _ _ h=>h.elim) ⟨KA.o,fun _ h=>h.elim,by rw[HS1.o];exact Nat.le_refl _,PB.o⟩
  (fun X' q V=>∃vv,q.2.2={tmps:=#[.agg #[.int .i64 kk,.bool nb,.string (BA nm),.slice xa xan xac,.slice xw xwn xwc,.slice xr xrn xrc,.slice xk xkn xkc],.pointer (some ⟨w.heap.size,0,none⟩),.int .i64 0,.pointer (some ⟨w.heap.size+1,0,none⟩),.agg #[.int .i64 kk,.bool nb,.string (BA nm),.slice xa xan xac,.slice xw xwn xwc,.slice xr xrn xrc,.slice xk xkn xkc],.func (.func 22) #[.agg #[.int .i64 kk,.bool nb,.string (BA nm),.slice xa xan xac,.slice xw xwn xwc,.slice xr xrn xrc,.slice xk xkn xkc]] #[],vv,undef,undef,undef],defers:=[]})
  (fun _ _ _ _ _ h _ _=>h) ?assign ?body ?done ?stop
 case assign=>
  rintro q X' pre x en V K he hi _ _ _ hK
  obtain⟨vv,rfl,_⟩:=he
  gi_wp2
  exact hK _ _ (bZ.refl _ _) hi ⟨vv,rfl⟩
 case body=>
  rintro q X' pre x a' V ⟨h1,h2,h3,h4⟩ ⟨vv,hax⟩ hX' hpx hsz
  dsimp only at hax
  subst hax
  have HH1:=jd h1;have HH2:=jd h2;have HH3:=jd h3;have HH4:=jd h4
  have hpl:pre.length<1000000000:=by
   have:=hpx.length_le
   rw[List.length_append] at this
   have h9:=hN9.out
   have:pre.length+1≤(aJ ND).length:=this
   omega
  have HPL:Hid ((pre++[x]).length=pre.length+1):=jd (by rw[List.length_append];rfl)
  obtain⟨np,hnp⟩:∃np,pre.length=np:=⟨_,rfl⟩
  rw[hnp] at h4 HPL hpl
  have c0:=au h4 0
  have f0:=aP h4 0
  have hbl:w.heap.size+1<V.heap.size:=aj h4
  have HW5:Hid (Kept (fun k=>k=w.heap.size+1) V (V.setCell ⟨w.heap.size+1,0,none⟩ (.int .i64 ((np+1:Nat):Int)))):=jd ((Kept.refl (fun k=>k=w.heap.size+1) V).set (w.heap.size+1) 0 (fun _=>rfl) _)
  have HV5:Hid ((V.setCell ⟨w.heap.size+1,0,none⟩ (.int .i64 ((np+1:Nat):Int))).heap[w.heap.size+1]? =some (.cells #[.int .i64 ((np+1:Nat):Int)] 3 (0,0))):=jd (heap_set h4 0 _)
  clear h1 h2 h3 h4 hX' hpx hnp
  gi_wp2
  exact⟨(HW5.o).keeps (fun k hk hr e=>by
    have e':k=w.heap.size+1:=e
    rcases hr with hr|hr
    ·have:=HF.o k hr;omega
    ·have:=HH2.o k hr;omega),
   HH1.o.trans HW5.o (fun i hi h=>by have h':i=w.heap.size+1:=h;omega),HH2.o,Nat.le_trans HH3.o HW5.o.size,by rw[HPL.o];exact HV5.o⟩
 case done=>
  rintro X' D V hD hXD hXb ⟨h1,h2,h3,h4⟩ hdf
  have c0:=au h4 0
  go_wp2_with fail
  refine dD [D] V (by simp) (fun r hr=>by rw[List.mem_singleton.1 hr];exact hdf) (fun V' hk=>?_)
  exact⟨_,results_tmp rfl _ _ _,rfl,h1.trans hk (fun i hi h=>by have:=List.mem_singleton.1 h;have:=h2 D hXD;omega)⟩
 case stop=>
  rintro X' c pre D V _ _ _ _ _ h
  exact h.elim
end Go.Proofs.YtgigdlhcjahejaaGreatDoor
namespace Go.Lw
open Go Go.RowKit
section
variable {P:Program} {Q:Exit→Act→World→Prop} {l n:Nat}
theorem wi {o:Oper} {a:Act} {K:Act→World→Prop} {r:Result Next} (h:o.upon P a K Q r):o.uponIn (Fence.wide.inRound l) n P a K Q r:=by
 cases r with
 |ok x w'=>
  cases x<;>simp only[Oper.upon,Oper.uponIn] at h⊢<;>
   first
    |exact h
    |exact⟨fun h=>(by cases h),callsIn_wide.2 h⟩
    |exact⟨fun h=>(by cases h),fun c cs _=>let⟨v,w',r,s⟩:=h c cs;⟨v,w',r,stepsIn_wide.2 s⟩⟩
 |halt x w'=>cases x<;>simp only[Oper.upon,Oper.uponIn] at h⊢<;>exact h
theorem vA {o:Oper} {a:Act} {w:World} {K:Act→World→Prop} (hd:∀c,o.op≠.defer c) (h:o.wp P a w K Q):o.wpIn (Fence.wide.inRound l) n P a w K Q:=by
 refine⟨fun _ _=>trivial,?_⟩
 rw[Oper.semAt_plain _ _ _ hd]
 exact wi h
def sA (ops:List Oper):Bool:=ops.all fun o=>match o.op with|.defer _=>false|_=>true
theorem vU {ops:List Oper} (h:sA ops=true) {i:Nat} {o:Oper} (ho:ops.toArray[i]? =some o):∀c,o.op≠.defer c:=by
 intro c hc
 have:=List.all_eq_true.1 h o (List.mem_of_getElem? (by simpa using ho))
 rw[hc] at this
 cases this
theorem fG {md:Region.Mode} {ops:List Oper} (hd:sA ops=true) (hout:LetsOut Q→False):∀(fuel:Nat) (listed:Array Bool) (a:Act) (w:World),wpAny P md ops.toArray Q fuel listed a w→wpAnyIn (Fence.wide.inRound l) n P md ops.toArray Q fuel listed a w
 |0,_,_,_,h=>h
 |fuel+1,listed,a,w,h=>by
  refine⟨h.1,fun i hi=>?_⟩
  have h2:=h.2 i hi
  unfold wpOp at h2
  unfold wpOpIn
  split
  ·rename_i ho
   rw[ho] at h2
   exact fG hd hout fuel _ _ _ h2
  ·rename_i o ho
   rw[ho] at h2
   dsimp only at h2
   split
   ·rename_i hw
    rw[if_pos hw] at h2
    refine Oper.wpIn_mono (fun a w h=>fG hd hout fuel _ a w h) (vA (vU hd ho) (h2.resolve_right (fun h=>hout h.2)))
   ·rename_i hw
    rw[if_neg hw] at h2
    exact⟨fun _ _=>trivial,fG hd hout fuel _ _ _ h2⟩
theorem gD {id:Nat} {ops:List Oper} {a:Act} {w:World} (hm:P.follows .mixedOrders=true) (hd:sA ops=true) (hout:LetsOut Q→False)
  (h:wpAny P .any ops.toArray Q ops.toArray.size (Array.replicate ops.toArray.size false) a w.drew):(Code.region id ops.toArray true).wpIn (Fence.wide.inRound l) n P Q a w:=
 wpIn_region_any hm (fG hd hout _ _ _ _ h)
end
end Go.Lw
