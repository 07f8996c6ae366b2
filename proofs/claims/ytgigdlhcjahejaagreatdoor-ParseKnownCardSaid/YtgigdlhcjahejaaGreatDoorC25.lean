/- Of the proof of ParseKnown: Iter, IterR. -/
import Derived.Test.YtgigdlhcjahejaaGreatDoorC00
import Derived.RangeFuncNested
import Derived.RangeFuncBound
import Derived.RangeFuncCalls
import Derived.RangeFuncLeaves
import Derived.OwnWalkIn
import Derived.TacticsInMore
import Derived.LoopNIn
import Derived.LoopIn
import Derived.Shelf.Abstract
namespace Go.Lw
open Go Go.RowKit
def bM (R:Nat→Prop) (W W':World):Prop:=W.heap.size≤W'.heap.size∧∀k,k<W.heap.size→R k→W'.heap[k]? =W.heap[k]?
theorem bM.refl (R:Nat→Prop) (W:World):bM R W W:=⟨Nat.le_refl _,fun _ _ _=>rfl⟩
theorem bM.trans {R:Nat→Prop} {A B C:World} (h:bM R A B) (k:bM R B C):bM R A C:=
 ⟨Nat.le_trans h.1 k.1,fun i hi hr=>(k.2 i (Nat.lt_of_lt_of_le hi h.1) hr).trans (h.2 i hi hr)⟩
theorem bM.mono {R R':Nat→Prop} {A B:World} (h:bM R A B) (hr:∀k,R' k→R k):bM R' A B:=⟨h.1,fun i hi hk=>h.2 i hi (hr i hk)⟩
theorem Kept.keeps {S R:Nat→Prop} {A B:World} (h:Kept S A B) (hr:∀k,k<A.heap.size→R k→¬S k):bM R A B:=⟨h.size,fun k hk hR=>h.block k hk (hr k hk hR)⟩
theorem bM.heap {R:Nat→Prop} {A B:World} (h:bM R A B) {k:Nat} {o:Obj} (hk:A.heap[k]? =some o) (hr:R k):B.heap[k]? =some o:=
 (h.2 k (Array.getElem?_eq_some_iff.1 hk).1 hr).trans hk
theorem bM.cell {R:Nat→Prop} {A B:World} (h:bM R A B) {p:Addr} {v:Value} (hc:A.cell? p=some v) (hr:R p.block):B.cell? p=some v:=by
 rw[World.cell?_of_block (w:=A) (h.2 p.block (World.block_lt_of_cell? A p hc) hr)];exact hc
theorem fm {S:Nat→Prop} {A B:World} (h:Kept S A B) {l:Nat} (hl:l<A.heap.size→S l) (_:l<B.heap.size) (o:Obj):Kept S A (B.putObj l o):=
 h.grown (grownBy_putObj' B l o) (fun k e hk=>by cases e;exact hl hk)
def Ab {σ:Type} (J:(Nat→Prop)→σ→World→Prop):Prop:=
 ∀X X' s A A',J X s A→Kept X A A'→(∀k,X' k→X k∨(A.heap.size≤k∧k<A'.heap.size))→J X' s A'
abbrev YAt (P:Program) (l:Nat) (args:Array Value) (W:World) (R:Ending→World→Prop):Prop:=YieldAt Fence.wide 0 P l args W R
theorem yz {n m:Nat} {P:Program} {l:Nat} {f:FuncId} {tmps:Array Value} {assign body:Code} {w:World} {R:Ending→World→Prop}
  (h:RoundIn Fence.wide n P l f tmps assign body w R):RoundIn Fence.wide m P l f tmps assign body w R:=
 ⟨h.1,fun c cs _=>h.2 c cs (room_wide _)⟩
def Bw {α:Type} (R:Nat→Prop) (I:(Nat→Prop)→List α→World→Prop) (Ix:Code→(Nat→Prop)→List α→World→Prop) (X:Nat→Prop) (xs:List α) (W:World):Exit→Act→World→Prop
 |.normal,_,W'=>bM (fun k=>R k∨X k) W W'∧I X xs W'
 |.ret,_,W'=>bM (fun k=>R k∨X k) W W'∧Ix .ret X xs W'
 |.exit id,_,W'=>bM (fun k=>R k∨X k) W W'∧Ix (.exit id) X xs W'
 |.goto t,_,W'=>bM (fun k=>R k∨X k) W W'∧Ix (.goto t) X xs W'
 |.panic _,_,_=>False
 |.outgrown,_,_=>False
theorem gn {P:Program} {f:FuncId} {fn:Func} {c:Code} {args:Array Value} {w:World} {R:Ending→World→Prop} (hf:P.funcs[f]? =some fn) (hb:fn.body=some c)
  (h:c.wp P (bodyPostM Fence.wide 0 P fn R) {tmps:=args++Array.replicate (fn.ntmps -args.size) undef,defers:=[]} w):Calls P f args w R:=
 (callsIn_wide (n:=0)).1 (callsIn_of_wp_marks hf hb trivial ((wpIn_wide (n:=0)).2 h))
theorem dh {P:Program} {fn:Func} {tmps:Array Value} {R:Ending→World→Prop}:∀(rs:List Nat) (W:World),rs.Nodup→(∀r∈rs,W.heap[r]? =some (.deferred (some [])))→
  (∀W',Kept (fun k=>k∈rs) W W'→∃v,(results fn tmps).run P W'= .ok v W'∧R (.returned v) W')→
  LeavesInM Fence.wide 0 P fn tmps R (rs.map fun r=>{target:= .collected r,args:=#[]}) .returning W
 |[],W,_,_,h=>by
  obtain⟨v,h1,h2⟩:=h W (Kept.refl _ _)
  exact⟨v,h1,h2⟩
 |r::rs,W,hn,hh,h=>by
  have hr:=hh r List.mem_cons_self
  have hlt:=(Array.getElem?_eq_some_iff.1 hr).1
  refine⟨by simp,.inl ⟨r,_,rfl,run_takeDeferred hr,?_⟩⟩
  have hn':=List.nodup_cons.1 hn
  refine dh rs _ hn'.2 (fun q hq=>(World.putObj_heap_other (fun e=>hn'.1 (by rw[←e];exact hq))).trans (hh q (List.mem_cons_of_mem _ hq))) (fun W' hk=>h W' ?_)
  have h1:Kept (fun k=>k∈r::rs) W (W.putObj r (.deferred none)):=fm (Kept.refl _ _) (fun _=>List.mem_cons_self) hlt _
  exact h1.trans hk (fun i _ hi=>List.mem_cons_of_mem _ hi)
def AB {α:Type} (P:Program) (gf:Nat) (pr lb:Array Value) (E:α→Array Value→World→Prop) (R:Nat→Prop) (xs:List α) (w:World):Prop:=
 ∀(l:Nat) (J Jx:(Nat→Prop)→List α→World→Prop) (X:Nat→Prop) (W:World),bM R w W→(∀k,X k→k<W.heap.size)→Ab J→Ab Jx→
  (∀X pre x en W1,J X pre W1→(∀k,X k→k<W1.heap.size)→pre++[x]<+:xs→E x en W1→YAt P l en W1 fun e W'=>
   (e= .returned (.bool true)∧J X (pre++[x]) W'∧bM (fun k=>R k∨X k) W1 W')∨(e= .returned (.bool false)∧Jx X (pre++[x]) W'∧bM (fun k=>R k∨X k) W1 W'))→
  J X [] W→
  Calls P gf (pr++#[.func (.yield l) #[] #[]]++lb) W fun e W'=>(∃v,e= .returned v)∧
   ((∃X',(∀k,X' k→k<W'.heap.size)∧(∀k,X k→X' k)∧J X' xs W')∨(∃X' pre,(∀k,X' k→k<W'.heap.size)∧(∀k,X k→X' k)∧pre<+:xs∧pre≠[]∧Jx X' pre W'))
theorem oX {α:Type} {P:Program} {g:Operand} {ps:Array Tmp} {assign body:Code} {Q:Exit→Act→World→Prop} {a:Act} {w:World}
  {gf:Nat} {pr lb:Array Value} (hg:a.eval g= .func (.func gf) pr lb) (eg:∀args w,(callFunc gf args).run P w= .ok (.enter gf args) w)
  {E:α→Array Value→World→Prop} {R:Nat→Prop} {xs:List α} (hseq:AB P gf pr lb E R xs w) (hR:∀k,R k→k<w.heap.size) (hps:∀x en W,E x en W→en.size=ps.size)
  (I:(Nat→Prop)→List α→World→Prop) (Ix:Code→(Nat→Prop)→List α→World→Prop) (hI:Ab I) (hIx:∀c,Ab (Ix c)) (h0:I (fun _=>False) [] w)
  (Ax:(Nat→Prop)→List α×α×Act→World→Prop) (hAx:Ab Ax)
  (hassign:∀(l:Nat) X (pre:List α) (x:α) (en:Array Value) (W:World) (K:Act→World→Prop),E x en W→I X pre W→(∀k,X k→w.heap.size≤k∧k<W.heap.size)→pre++[x]<+:xs→w.heap.size≤W.heap.size→
   (∀a' W',bM (fun k=>R k∨X k) W W'→I X pre W'→Ax X (pre,x,a') W'→K a' W')→
   assign.wpIn (Fence.wide.inRound l) 0 P (Exit.then K (fun _ _ _=>False)) {tmps:=(ps.zip en).foldl (fun t (p,v)=>t.setIfInBounds p v) a.tmps,defers:=[]} W)
  (hbody:∀(l:Nat) X (pre:List α) (x:α) (a':Act) (W:World),I X pre W→Ax X (pre,x,a') W→(∀k,X k→w.heap.size≤k∧k<W.heap.size)→pre++[x]<+:xs→w.heap.size≤W.heap.size→
   body.wpIn (Fence.wide.inRound l) 0 P (Bw R I Ix X (pre++[x]) W) a' W)
  (hdone:∀X (D:Nat) (W:World),w.heap.size≤D→X D→(∀k,X k→w.heap.size≤k∧k<W.heap.size)→I X xs W→W.heap[D]? =some (.deferred (some []))→
   Q .normal {a with defers:={target:= .collected D,args:=#[]}::a.defers} W)
  (hstop:∀X (c:Code) (pre:List α) (D:Nat) (W:World),w.heap.size≤D→X D→(∀k,X k→w.heap.size≤k∧k<W.heap.size)→pre<+:xs→pre≠[]→Ix c X pre W→W.heap[D]? =some (.deferred (some []))→
   c.wp P Q {a with defers:={target:= .collected D,args:=#[]}::a.defers} W):
  (Code.rangeFunc g ps assign body).wp P Q a w:=by
 refine(wpIn_wide (n:=0)).1 (wpIn_rangeFunc ?_)
 intro fn hfn
 show∃(l:Nat) (mark:List Deferred) (w₁:World) (d:Deferred) (w₁':World) (f:FuncId) (args:Array Value) (w₂:World),(Instr.enterLoop fn a.tmps ps assign body none).run P w= .ok (l,mark) w₁∧_
 obtain⟨rec,hrec⟩:∃rec:LoopState→Option Code→Loop,rec=fun st pe=>{state:=st,pending:=pe,fn,tmps:=a.tmps,params:=ps,assign,body,defers:=w.heap.size}:=⟨_,rfl⟩
 obtain⟨W1,hW1⟩:∃W1,(w.alloc (.deferred (some []))).alloc (.loop (rec .ready none))=W1:=⟨_,rfl⟩
 have hs1:W1.heap.size=w.heap.size+2:=by rw[←hW1];simp
 have hL1:W1.heap[w.heap.size+1]? =some (.loop (rec .ready none)):=by
  rw[←hW1];have:=World.alloc_heap_new (w.alloc (.deferred (some []))) (.loop (rec .ready none));rwa[World.size_alloc] at this
 have hK1:W1.heap[w.heap.size]? =some (.deferred (some [])):=by
  rw[←hW1];exact(Below.heap_alloc _ _ _ (by simp)).trans (World.alloc_heap_new w _)
 have hk1:∀S,Kept S w W1:=fun S=>by rw[←hW1];exact((Kept.refl S w).alloc _).alloc _
 obtain⟨O,hO⟩:∃O:Nat→Prop,O=fun k=>k=w.heap.size∨k=w.heap.size+1:=⟨_,rfl⟩
 have hI1:I O [] W1:=hI _ _ _ _ _ h0 (hk1 _) (fun k hk=>.inr (by rw[hO] at hk;omega))
 refine⟨w.heap.size+1,[{target:= .collected w.heap.size,args:=#[]}],W1,{target:= .fn (.func gf) lb,args:=pr++#[.func (.yield (w.heap.size+1)) #[] #[]]},W1,gf,
  pr++#[.func (.yield (w.heap.size+1)) #[] #[]]++lb,W1,?_,?_,fun _ _=>trivial,?_,(fun h=>by cases h),?_⟩
 ·rw[←hW1,hrec];exact run_enterLoop_outer _ _ _ _ _
 ·simp only[resolve,hg]
  simp[go_sem]
 ·simp[invoke,go_sem,eg]
 ·obtain⟨M,hM⟩:∃M:(Nat→Prop)→Nat→Prop,M=fun X k=>X k∨O k:=⟨_,rfl⟩
  have mono:∀{X X':Nat→Prop} {A A':World},w.heap.size+1<A.heap.size→(∀k,X' k→X k∨(A.heap.size≤k∧k<A'.heap.size))→(∀k,M X' k→M X k∨(A.heap.size≤k∧k<A'.heap.size)):=fun{X X' A A'} _ hX k hk=>by
   rw[hM] at hk⊢
   rcases hk with h|h
   ·rcases hX k h with h|h
    ·exact .inl (.inl h)
    ·exact .inr h
   ·exact .inl (.inr h)
  refine(callsIn_wide (n:=0 -1)).2 ((hseq (w.heap.size+1)
   (fun X pre W=>I (M X) pre W∧(∀k,X k→w.heap.size+2≤k)∧W.heap[w.heap.size+1]? =some (.loop (rec .ready none))∧W.heap[w.heap.size]? =some (.deferred (some [])))
   (fun X pre W=>∃c,Ix c (M X) pre W∧(∀k,X k→w.heap.size+2≤k)∧W.heap[w.heap.size+1]? =some (.loop (rec .done (some c)))∧W.heap[w.heap.size]? =some (.deferred (some [])))
   (fun _=>False) W1 ((hk1 (fun _=>False)).keeps (fun _ _ _ h=>h)) (fun _ h=>h.elim) ?_ ?_ ?_ ?_).mono ?_)
  ·rintro X X' s A A' ⟨i,hX,hl,hd⟩ hk hX'
   have hlt:=(Array.getElem?_eq_some_iff.1 hl).1
   exact⟨hI _ _ _ _ _ i (hk.mono (fun k _ h=>by rw[hM];exact .inl h)) (mono hlt hX'),fun k h=>by rcases hX' k h with h|h;exact hX k h;omega,
    hk.heap hl (fun h=>by have:=hX _ h;omega),hk.heap hd (fun h=>by have:=hX _ h;omega)⟩
  ·rintro X X' s A A' ⟨c,i,hX,hl,hd⟩ hk hX'
   have hlt:=(Array.getElem?_eq_some_iff.1 hl).1
   exact⟨c,hIx c _ _ _ _ _ i (hk.mono (fun k _ h=>by rw[hM];exact .inl h)) (mono hlt hX'),fun k h=>by rcases hX' k h with h|h;exact hX k h;omega,
    hk.heap hl (fun h=>by have:=hX _ h;omega),hk.heap hd (fun h=>by have:=hX _ h;omega)⟩
  ·rintro X pre x en W ⟨hi,hX,hl,hd⟩ hXW hpx hE
   have hlt:w.heap.size+1<W.heap.size:=(Array.getElem?_eq_some_iff.1 hl).1
   have hMb:∀V:World,W.heap.size≤V.heap.size→∀k,M X k→w.heap.size≤k∧k<V.heap.size:=fun V hV k hk=>by
    rw[hM,hO] at hk
    rcases hk with h|h|h
    ·have:=hX k h;have:=hXW k h;omega
    ·omega
    ·omega
   have hMO:∀k,O k→M X k:=fun k h=>by rw[hM];exact .inr h
   have hOD:O w.heap.size:=by rw[hO];exact .inl rfl
   have hOL:O (w.heap.size+1):=by rw[hO];exact .inr rfl
   have hy:=run_yield (P:=P) (args:=en) hl (by rw[hrec];exact hps x en W hE)
   rw[hrec] at hy
   refine⟨fn,_,assign,body,hy,roundIn_of_wpIn hfn (hassign _ (M X) pre x en W _ hE hi (hMb W (Nat.le_refl _)) hpx (by omega) ?_)⟩
   clear hy
   intro a' Wa hka hia hax
   have hla:=hka.heap hl (.inr (hMO _ hOL))
   have hda:=hka.heap hd (.inr (hMO _ hOD))
   refine⟨_,run_beginRound hla (by rw[hrec]),?_⟩
   have hlta:w.heap.size+1<Wa.heap.size:=(Array.getElem?_eq_some_iff.1 hla).1
   obtain⟨Wb,hWb⟩:∃Wb,Wa.putObj (w.heap.size+1) (.loop {rec .ready none with state:= .busy})=Wb:=⟨_,rfl⟩
   rw[hWb]
   have hlb:Wb.heap[w.heap.size+1]? =some (.loop {rec .ready none with state:= .busy}):=by rw[←hWb];exact World.putObj_heap_same hlta
   have hdb:Wb.heap[w.heap.size]? =some (.deferred (some [])):=by rw[←hWb];exact(World.putObj_heap_other (by omega)).trans hda
   have hkb:Kept O Wa Wb:=by rw[←hWb];exact fm (Kept.refl _ _) (fun _=>hOL) hlta _
   have hsb:Wb.heap.size=Wa.heap.size:=by rw[←hWb];simp[World.putObj]
   have hib:I (M X) pre Wb:=hI _ _ _ _ _ hia (hkb.mono (fun k _ h=>hMO k h)) (fun k h=>.inl h)
   have hab:Ax (M X) (pre,x,a') Wb:=hAx _ _ _ _ _ hax (hkb.mono (fun k _ h=>hMO k h)) (fun k h=>.inl h)
   refine wpIn_mono (hbody _ (M X) pre x a' Wb hib hab (hMb Wb (by rw[hsb];exact hka.1)) hpx (by rw[hsb];omega)) ?_
   have hKab:bM (fun k=>R k∨X k) W Wb:=by
    refine(hka.mono (fun k h=>h.imp id (fun h=>by rw[hM];exact .inl h))).trans (hkb.keeps (fun k hk h ho=>?_))
    rw[hO] at ho
    rcases h with h|h
    ·have:=hR k h;omega
    ·have:=hX k h;omega
   have fin:∀(jump:Option Code) (W3:World),bM (fun k=>R k∨M X k) Wb W3→
     (Instr.endRound (w.heap.size+1) jump).run P W3= .ok (.bool jump.isNone) (W3.putObj (w.heap.size+1) (.loop (rec (if jump.isNone then .ready else .done) jump)))∧
     (W3.putObj (w.heap.size+1) (.loop (rec (if jump.isNone then .ready else .done) jump))).heap[w.heap.size+1]? =some (.loop (rec (if jump.isNone then .ready else .done) jump))∧
     (W3.putObj (w.heap.size+1) (.loop (rec (if jump.isNone then .ready else .done) jump))).heap[w.heap.size]? =some (.deferred (some []))∧
     Kept O W3 (W3.putObj (w.heap.size+1) (.loop (rec (if jump.isNone then .ready else .done) jump)))∧
     bM (fun k=>R k∨X k) W (W3.putObj (w.heap.size+1) (.loop (rec (if jump.isNone then .ready else .done) jump))):=fun jump W3 hk3=>by
    have hl3:=hk3.heap hlb (.inr (hMO _ hOL))
    have hd3:=hk3.heap hdb (.inr (hMO _ hOD))
    have hlt3:=(Array.getElem?_eq_some_iff.1 hl3).1
    have:=run_endRound (P:=P) jump hl3
    have hkp:Kept O W3 (W3.putObj (w.heap.size+1) (.loop (rec (if jump.isNone then .ready else .done) jump))):=fm (Kept.refl _ _) (fun _=>hOL) hlt3 _
    refine⟨by rw[hrec] at this⊢;exact this,World.putObj_heap_same hlt3,(World.putObj_heap_other (by omega)).trans hd3,hkp,?_⟩
    refine hKab.trans ((hk3.mono (fun k h=>h.imp id (fun h=>by rw[hM];exact .inl h))).trans (hkp.keeps (fun k hk h ho=>?_)))
    rw[hO] at ho
    rcases h with h|h
    ·have:=hR k h;omega
    ·have:=hX k h;omega
   rintro e a3 W3 hp
   cases e with
   |normal=>
    obtain⟨hk3,hi3⟩:=hp
    obtain⟨hr,hl4,hd4,hk4,hKs⟩:=fin none W3 hk3
    exact⟨_,_,hr,.inl ⟨rfl,⟨hI _ _ _ _ _ hi3 (hk4.mono (fun k _ h=>hMO k h)) (fun k h=>.inl h),hX,hl4,hd4⟩,hKs⟩⟩
   |ret=>
    obtain⟨hk3,hi3⟩:=hp
    obtain⟨hr,hl4,hd4,hk4,hKs⟩:=fin (some .ret) W3 hk3
    exact⟨_,_,hr,.inr ⟨rfl,⟨.ret,hIx _ _ _ _ _ _ hi3 (hk4.mono (fun k _ h=>hMO k h)) (fun k h=>.inl h),hX,hl4,hd4⟩,hKs⟩⟩
   |exit id=>
    obtain⟨hk3,hi3⟩:=hp
    obtain⟨hr,hl4,hd4,hk4,hKs⟩:=fin (some (.exit id)) W3 hk3
    exact⟨_,_,hr,.inr ⟨rfl,⟨.exit id,hIx _ _ _ _ _ _ hi3 (hk4.mono (fun k _ h=>hMO k h)) (fun k h=>.inl h),hX,hl4,hd4⟩,hKs⟩⟩
   |goto t=>
    obtain⟨hk3,hi3⟩:=hp
    obtain⟨hr,hl4,hd4,hk4,hKs⟩:=fin (some (.goto t)) W3 hk3
    exact⟨_,_,hr,.inr ⟨rfl,⟨.goto t,hIx _ _ _ _ _ _ hi3 (hk4.mono (fun k _ h=>hMO k h)) (fun k h=>.inl h),hX,hl4,hd4⟩,hKs⟩⟩
   |panic ch=>exact hp.elim
   |outgrown=>exact hp.elim
  ·refine⟨?_,fun _ h=>h.elim,hL1,hK1⟩
   exact hI _ _ _ _ _ hI1 (Kept.refl _ _) (fun k h=>.inl (by rw[hM] at h;exact h.elim (fun h=>h.elim) id))
  ·have hb:∀{X:Nat→Prop} {W2:World},(∀k,X k→k<W2.heap.size)→(∀k,X k→w.heap.size+2≤k)→w.heap.size+1<W2.heap.size→∀(o:Obj) k,M X k→w.heap.size≤k∧k<(W2.putObj (w.heap.size+1) o).heap.size:=fun{X W2} h1 h2 h3 o k hk=>by
    have hs:(W2.putObj (w.heap.size+1) o).heap.size=W2.heap.size:=by simp[World.putObj]
    rw[hs]
    rw[hM,hO] at hk
    rcases hk with h|h|h
    ·have:=h1 k h;have:=h2 k h;omega
    ·omega
    ·omega
   have hMD:∀X,M X w.heap.size:=fun X=>by rw[hM,hO];exact .inr (.inl rfl)
   have hML:∀X,M X (w.heap.size+1):=fun X=>by rw[hM,hO];exact .inr (.inr rfl)
   rintro e W2 ⟨⟨v,rfl⟩,(⟨X,hXW,_,hi,hX,hl,hd⟩|⟨X,pre,hXW,_,hp,hne,c,hi,hX,hl,hd⟩)⟩
   ·have hlt:=(Array.getElem?_eq_some_iff.1 hl).1
    refine⟨none,_,by have:=run_endLoop (P:=P) hl (by rw[hrec];simp);rw[hrec] at this;exact this,?_⟩
    exact hdone (M X) w.heap.size _ (Nat.le_refl _) (hMD X) (hb hXW hX hlt _) (hI _ _ _ _ _ hi (fm (Kept.refl _ _) (fun _=>hML X) hlt _) (fun k h=>.inl h)) ((World.putObj_heap_other (by omega)).trans hd)
   ·have hlt:=(Array.getElem?_eq_some_iff.1 hl).1
    refine⟨some c,_,by have:=run_endLoop (P:=P) hl (by rw[hrec];simp);rw[hrec] at this;exact this,?_⟩
    exact(wpIn_wide (n:=0)).2 (hstop (M X) c pre w.heap.size _ (Nat.le_refl _) (hMD X) (hb hXW hX hlt _) hp hne (hIx c _ _ _ _ _ hi (fm (Kept.refl _ _) (fun _=>hML X) hlt _) (fun k h=>.inl h)) ((World.putObj_heap_other (by omega)).trans hd))
end Go.Lw
