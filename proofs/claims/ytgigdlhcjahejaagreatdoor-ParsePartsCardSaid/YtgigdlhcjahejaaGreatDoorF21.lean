import Derived.Test.YtgigdlhcjahejaaGreatDoorF20
import Derived.Test.YtgigdlhcjahejaaGreatDoorF10
import Derived.OrdersIn
set_option linter.all false
set_option maxHeartbeats 400000000
namespace Go.Lw
open Go Go.RowKit
def Fm {α:Type} (P:Program) (gf:Nat) (pr lb:Array Value) (E:α→Array Value→World→Prop) (R:Nat→Prop) (xs:List α) (w:World):Prop:=
 ∀(l:Nat) (J Jx:(Nat→Prop)→List α→World→Prop) (X:Nat→Prop) (W:World),ct R w W→(∀k,X k→k<W.heap.size)→Ab J→Ab Jx→
  (∀X pre x en W1,J X pre W1→(∀k,X k→k<W1.heap.size)→pre++[x]<+:xs→E x en W1→YAt P l en W1 fun e W'=>
   (e= .returned (.bool true)∧J X (pre++[x]) W'∧ct (fun k=>R k∨X k) W1 W')∨(e= .returned (.bool false)∧Jx X (pre++[x]) W'∧ct (fun k=>R k∨X k) W1 W'))→
  J X [] W→
  Calls P gf (pr++#[.func (.yield l) #[] #[]]++lb) W fun e W'=>(∃v,e= .returned v)∧
   ((∃X',(∀k,X' k→k<W'.heap.size)∧(∀k,X k→X' k)∧J X' xs W')∨(∃X' pre,(∀k,X' k→k<W'.heap.size)∧(∀k,X k→X' k)∧pre<+:xs∧pre≠[]∧Jx X' pre W'))
theorem sk {α:Type} {P:Program} {g:Operand} {ps:Array Tmp} {assign body:Code} {Q:Exit→Act→World→Prop} {a:Act} {w:World}
  {gf:Nat} {pr lb:Array Value} (hg:a.eval g= .func (.func gf) pr lb) (eg:∀args w,(callFunc gf args).run P w= .ok (.enter gf args) w)
  {E:α→Array Value→World→Prop} {R:Nat→Prop} {xs:List α} (hseq:Fm P gf pr lb E R xs w) (hR:∀k,R k→k<w.heap.size) (hps:∀x en W,E x en W→en.size=ps.size)
  (I:(Nat→Prop)→List α→World→Prop) (Ix:Code→(Nat→Prop)→List α→World→Prop) (hI:Ab I) (hIx:∀c,Ab (Ix c)) (h0:I (fun _=>False) [] w)
  (Ax:(Nat→Prop)→List α×α×Act→World→Prop) (hAx:Ab Ax)
  (hassign:∀(l:Nat) X (pre:List α) (x:α) (en:Array Value) (W:World) (K:Act→World→Prop),E x en W→I X pre W→(∀k,X k→w.heap.size≤k∧k<W.heap.size)→pre++[x]<+:xs→w.heap.size≤W.heap.size→
   (∀a' W',ct (fun k=>R k∨X k) W W'→I X pre W'→Ax X (pre,x,a') W'→K a' W')→
   assign.wpIn (Fence.wide.inRound l) 0 P (Exit.then K (fun _ _ _=>False)) {tmps:=(ps.zip en).foldl (fun t (p,v)=>t.setIfInBounds p v) a.tmps,defers:=[]} W)
  (hbody:∀(l:Nat) X (pre:List α) (x:α) (a':Act) (W:World),I X pre W→Ax X (pre,x,a') W→(∀k,X k→w.heap.size≤k∧k<W.heap.size)→pre++[x]<+:xs→w.heap.size≤W.heap.size→
   body.wpIn (Fence.wide.inRound l) 0 P (Gg R I Ix X (pre++[x]) W) a' W)
  (hdone:∀X (D:Nat) (W:World),w.heap.size≤D→X D→(∀k,X k→w.heap.size≤k∧k<W.heap.size)→I X xs W→W.heap[D]? =some (.deferred (some []))→
   Q .normal {a with defers:={target:= .collected D,args:=#[]}::a.defers} W)
  (hstop:∀X (c:Code) (pre:List α) (D:Nat) (W:World),w.heap.size≤D→X D→(∀k,X k→w.heap.size≤k∧k<W.heap.size)→pre<+:xs→pre≠[]→Ix c X pre W→W.heap[D]? =some (.deferred (some []))→
   c.wp P Q {a with defers:={target:= .collected D,args:=#[]}::a.defers} W):
  (Code.rangeFunc g ps assign body).wp P Q a w:=by
 refine(wpIn_wide (n:=0)).1 (wpIn_rangeFunc ?_)
 intro fn hfn
 show∃(l:Nat) (mark:List Deferred) (w₁:World) (d:Deferred) (w₁':World) (f:FuncId) (args:Array Value) (w₂:World),(Instr.enterLoop fn a.tmps ps assign body none).run P w= .ok (l,mark) w₁∧_
 obtain⟨rec,hrec⟩:∃rec:LoopState→Option Code→Loop,rec=fun st pe=>{state:=st,pending:=pe,fn,tmps:=a.tmps,params:=ps,assign,body,defers:=w.heap.size}:=⟨_,rfl⟩
 obtain⟨W1,hW1⟩:∃W1,(w.alloc (.deferred (some []))).alloc (.loop (rec .ready none))=W1:=⟨_,rfl⟩
 have hs1:W1.heap.size=w.heap.size+2:=by rw[←hW1];simp
 have hL1:W1.heap[w.heap.size+1]? =some (.loop (rec .ready none)):=by
  rw[←hW1];have:=World.alloc_heap_new (w.alloc (.deferred (some []))) (.loop (rec .ready none));rwa[World.size_alloc] at this
 have hK1:W1.heap[w.heap.size]? =some (.deferred (some [])):=by
  rw[←hW1];exact(Below.heap_alloc _ _ _ (by simp)).trans (World.alloc_heap_new w _)
 have hk1:∀S,Kept S w W1:=fun S=>by rw[←hW1];exact((Ja S w).alloc _).alloc _
 obtain⟨O,hO⟩:∃O:Nat→Prop,O=fun k=>k=w.heap.size∨k=w.heap.size+1:=⟨_,rfl⟩
 have hI1:I O [] W1:=hI _ _ _ _ _ h0 (hk1 _) (fun k hk=>.inr (by rw[hO] at hk;omega))
 refine⟨w.heap.size+1,[{target:= .collected w.heap.size,args:=#[]}],W1,{target:= .fn (.func gf) lb,args:=pr++#[.func (.yield (w.heap.size+1)) #[] #[]]},W1,gf,
  pr++#[.func (.yield (w.heap.size+1)) #[] #[]]++lb,W1,?_,?_,fun _ _=>trivial,?_,(fun h=>by cases h),?_⟩
 ·rw[←hW1,hrec];exact run_enterLoop_outer _ _ _ _ _
 ·simp only[resolve,hg]
  simp[go_sem]
 ·simp[invoke,go_sem,eg]
 ·obtain⟨M,hM⟩:∃M:(Nat→Prop)→Nat→Prop,M=fun X k=>X k∨O k:=⟨_,rfl⟩
  have mono:∀{X X':Nat→Prop} {A A':World},w.heap.size+1<A.heap.size→(∀k,X' k→X k∨(A.heap.size≤k∧k<A'.heap.size))→(∀k,M X' k→M X k∨(A.heap.size≤k∧k<A'.heap.size)):=fun{X X' A A'} _ hX k hk=>by
   rw[hM] at hk⊢
   rcases hk with h|h
   ·rcases hX k h with h|h
    ·exact .inl (.inl h)
    ·exact .inr h
   ·exact .inl (.inr h)
  refine(callsIn_wide (n:=0 -1)).2 ((hseq (w.heap.size+1)
   (fun X pre W=>I (M X) pre W∧(∀k,X k→w.heap.size+2≤k)∧W.heap[w.heap.size+1]? =some (.loop (rec .ready none))∧W.heap[w.heap.size]? =some (.deferred (some [])))
   (fun X pre W=>∃c,Ix c (M X) pre W∧(∀k,X k→w.heap.size+2≤k)∧W.heap[w.heap.size+1]? =some (.loop (rec .done (some c)))∧W.heap[w.heap.size]? =some (.deferred (some [])))
   (fun _=>False) W1 ((hk1 (fun _=>False)).keeps (fun _ _ _ h=>h)) (fun _ h=>h.elim) ?_ ?_ ?_ ?_).mono ?_)
  ·rintro X X' s A A' ⟨i,hX,hl,hd⟩ hk hX'
   have hlt:=(Array.getElem?_eq_some_iff.1 hl).1
   exact⟨hI _ _ _ _ _ i (hk.mono (fun k _ h=>by rw[hM];exact .inl h)) (mono hlt hX'),fun k h=>by rcases hX' k h with h|h;exact hX k h;omega,
    hk.heap hl (fun h=>by have:=hX _ h;omega),hk.heap hd (fun h=>by have:=hX _ h;omega)⟩
  ·rintro X X' s A A' ⟨c,i,hX,hl,hd⟩ hk hX'
   have hlt:=(Array.getElem?_eq_some_iff.1 hl).1
   exact⟨c,hIx c _ _ _ _ _ i (hk.mono (fun k _ h=>by rw[hM];exact .inl h)) (mono hlt hX'),fun k h=>by rcases hX' k h with h|h;exact hX k h;omega,
    hk.heap hl (fun h=>by have:=hX _ h;omega),hk.heap hd (fun h=>by have:=hX _ h;omega)⟩
  ·rintro X pre x en W ⟨hi,hX,hl,hd⟩ hXW hpx hE
   have hlt:w.heap.size+1<W.heap.size:=(Array.getElem?_eq_some_iff.1 hl).1
   have hMb:∀V:World,W.heap.size≤V.heap.size→∀k,M X k→w.heap.size≤k∧k<V.heap.size:=fun V hV k hk=>by
    rw[hM,hO] at hk
    rcases hk with h|h|h
    ·have:=hX k h;have:=hXW k h;omega
    ·omega
    ·omega
   have hMO:∀k,O k→M X k:=fun k h=>by rw[hM];exact .inr h
   have hOD:O w.heap.size:=by rw[hO];exact .inl rfl
   have hOL:O (w.heap.size+1):=by rw[hO];exact .inr rfl
   have hy:=run_yield (P:=P) (args:=en) hl (by rw[hrec];exact hps x en W hE)
   rw[hrec] at hy
   refine⟨fn,_,assign,body,hy,roundIn_of_wpIn hfn (hassign _ (M X) pre x en W _ hE hi (hMb W (Jb _)) hpx (by omega) ?_)⟩
   clear hy
   intro a' Wa hka hia hax
   have hla:=hka.heap hl (.inr (hMO _ hOL))
   have hda:=hka.heap hd (.inr (hMO _ hOD))
   refine⟨_,run_beginRound hla (by rw[hrec]),?_⟩
   have hlta:w.heap.size+1<Wa.heap.size:=(Array.getElem?_eq_some_iff.1 hla).1
   obtain⟨Wb,hWb⟩:∃Wb,Wa.putObj (w.heap.size+1) (.loop {rec .ready none with state:= .busy})=Wb:=⟨_,rfl⟩
   rw[hWb]
   have hlb:Wb.heap[w.heap.size+1]? =some (.loop {rec .ready none with state:= .busy}):=by rw[←hWb];exact World.putObj_heap_same hlta
   have hdb:Wb.heap[w.heap.size]? =some (.deferred (some [])):=by rw[←hWb];exact(World.putObj_heap_other (by omega)).trans hda
   have hkb:Kept O Wa Wb:=by rw[←hWb];exact gH (Ja _ _) (fun _=>hOL) hlta _
   have hsb:Wb.heap.size=Wa.heap.size:=by rw[←hWb];simp[World.putObj]
   have hib:I (M X) pre Wb:=hI _ _ _ _ _ hia (hkb.mono (fun k _ h=>hMO k h)) (fun k h=>.inl h)
   have hab:Ax (M X) (pre,x,a') Wb:=hAx _ _ _ _ _ hax (hkb.mono (fun k _ h=>hMO k h)) (fun k h=>.inl h)
   refine wpIn_mono (hbody _ (M X) pre x a' Wb hib hab (hMb Wb (by rw[hsb];exact hka.1)) hpx (by rw[hsb];omega)) ?_
   have hKab:ct (fun k=>R k∨X k) W Wb:=by
    refine(hka.mono (fun k h=>h.imp id (fun h=>by rw[hM];exact .inl h))).trans (hkb.keeps (fun k hk h ho=>?_))
    rw[hO] at ho
    rcases h with h|h
    ·have:=hR k h;omega
    ·have:=hX k h;omega
   have fin:∀(jump:Option Code) (W3:World),ct (fun k=>R k∨M X k) Wb W3→
     (Instr.endRound (w.heap.size+1) jump).run P W3= .ok (.bool jump.isNone) (W3.putObj (w.heap.size+1) (.loop (rec (if jump.isNone then .ready else .done) jump)))∧
     (W3.putObj (w.heap.size+1) (.loop (rec (if jump.isNone then .ready else .done) jump))).heap[w.heap.size+1]? =some (.loop (rec (if jump.isNone then .ready else .done) jump))∧
     (W3.putObj (w.heap.size+1) (.loop (rec (if jump.isNone then .ready else .done) jump))).heap[w.heap.size]? =some (.deferred (some []))∧
     Kept O W3 (W3.putObj (w.heap.size+1) (.loop (rec (if jump.isNone then .ready else .done) jump)))∧
     ct (fun k=>R k∨X k) W (W3.putObj (w.heap.size+1) (.loop (rec (if jump.isNone then .ready else .done) jump))):=fun jump W3 hk3=>by
    have hl3:=hk3.heap hlb (.inr (hMO _ hOL))
    have hd3:=hk3.heap hdb (.inr (hMO _ hOD))
    have hlt3:=(Array.getElem?_eq_some_iff.1 hl3).1
    have:=run_endRound (P:=P) jump hl3
    have hkp:Kept O W3 (W3.putObj (w.heap.size+1) (.loop (rec (if jump.isNone then .ready else .done) jump))):=gH (Ja _ _) (fun _=>hOL) hlt3 _
    refine⟨by rw[hrec] at this⊢;exact this,World.putObj_heap_same hlt3,(World.putObj_heap_other (by omega)).trans hd3,hkp,?_⟩
    refine hKab.trans ((hk3.mono (fun k h=>h.imp id (fun h=>by rw[hM];exact .inl h))).trans (hkp.keeps (fun k hk h ho=>?_)))
    rw[hO] at ho
    rcases h with h|h
    ·have:=hR k h;omega
    ·have:=hX k h;omega
   rintro e a3 W3 hp
   cases e with
   |normal=>
    obtain⟨hk3,hi3⟩:=hp
    obtain⟨hr,hl4,hd4,hk4,hKs⟩:=fin none W3 hk3
    exact⟨_,_,hr,.inl ⟨rfl,⟨hI _ _ _ _ _ hi3 (hk4.mono (fun k _ h=>hMO k h)) (fun k h=>.inl h),hX,hl4,hd4⟩,hKs⟩⟩
   |ret=>
    obtain⟨hk3,hi3⟩:=hp
    obtain⟨hr,hl4,hd4,hk4,hKs⟩:=fin (some .ret) W3 hk3
    exact⟨_,_,hr,.inr ⟨rfl,⟨.ret,hIx _ _ _ _ _ _ hi3 (hk4.mono (fun k _ h=>hMO k h)) (fun k h=>.inl h),hX,hl4,hd4⟩,hKs⟩⟩
   |exit id=>
    obtain⟨hk3,hi3⟩:=hp
    obtain⟨hr,hl4,hd4,hk4,hKs⟩:=fin (some (.exit id)) W3 hk3
    exact⟨_,_,hr,.inr ⟨rfl,⟨.exit id,hIx _ _ _ _ _ _ hi3 (hk4.mono (fun k _ h=>hMO k h)) (fun k h=>.inl h),hX,hl4,hd4⟩,hKs⟩⟩
   |goto t=>
    obtain⟨hk3,hi3⟩:=hp
    obtain⟨hr,hl4,hd4,hk4,hKs⟩:=fin (some (.goto t)) W3 hk3
    exact⟨_,_,hr,.inr ⟨rfl,⟨.goto t,hIx _ _ _ _ _ _ hi3 (hk4.mono (fun k _ h=>hMO k h)) (fun k h=>.inl h),hX,hl4,hd4⟩,hKs⟩⟩
   |panic ch=>exact hp.elim
   |outgrown=>exact hp.elim
  ·refine⟨?_,fun _ h=>h.elim,hL1,hK1⟩
   exact hI _ _ _ _ _ hI1 (Ja _ _) (fun k h=>.inl (by rw[hM] at h;exact h.elim (fun h=>h.elim) id))
  ·have hb:∀{X:Nat→Prop} {W2:World},(∀k,X k→k<W2.heap.size)→(∀k,X k→w.heap.size+2≤k)→w.heap.size+1<W2.heap.size→∀(o:Obj) k,M X k→w.heap.size≤k∧k<(W2.putObj (w.heap.size+1) o).heap.size:=fun{X W2} h1 h2 h3 o k hk=>by
    have hs:(W2.putObj (w.heap.size+1) o).heap.size=W2.heap.size:=by simp[World.putObj]
    rw[hs]
    rw[hM,hO] at hk
    rcases hk with h|h|h
    ·have:=h1 k h;have:=h2 k h;omega
    ·omega
    ·omega
   have hMD:∀X,M X w.heap.size:=fun X=>by rw[hM,hO];exact .inr (.inl rfl)
   have hML:∀X,M X (w.heap.size+1):=fun X=>by rw[hM,hO];exact .inr (.inr rfl)
   rintro e W2 ⟨⟨v,rfl⟩,(⟨X,hXW,_,hi,hX,hl,hd⟩|⟨X,pre,hXW,_,hp,hne,c,hi,hX,hl,hd⟩)⟩
   ·have hlt:=(Array.getElem?_eq_some_iff.1 hl).1
    refine⟨none,_,by have:=run_endLoop (P:=P) hl (by rw[hrec];simp);rw[hrec] at this;exact this,?_⟩
    exact hdone (M X) w.heap.size _ (Jb _) (hMD X) (hb hXW hX hlt _) (hI _ _ _ _ _ hi (gH (Ja _ _) (fun _=>hML X) hlt _) (fun k h=>.inl h)) ((World.putObj_heap_other (by omega)).trans hd)
   ·have hlt:=(Array.getElem?_eq_some_iff.1 hl).1
    refine⟨some c,_,by have:=run_endLoop (P:=P) hl (by rw[hrec];simp);rw[hrec] at this;exact this,?_⟩
    exact(wpIn_wide (n:=0)).2 (hstop (M X) c pre w.heap.size _ (Jb _) (hMD X) (hb hXW hX hlt _) hp hne (hIx c _ _ _ _ _ hi (gH (Ja _ _) (fun _=>hML X) hlt _) (fun k h=>.inl h)) ((World.putObj_heap_other (by omega)).trans hd))
end Go.Lw
namespace Go.Proofs.YtgigdlhcjahejaaGreatDoor
open Go Go.RowKit Go.Lw
set_option maxRecDepth 100000
attribute [local go_sem] Oper.semAt_some
attribute [local go_sem] aA
section
variable {R F:Nat→Prop} {w w':World} {v:Value}
theorem lq {size n:Nat} {xs:List Value} (h:Rd w size v n xs) (k:ct R w w') (hR:∀b,blk v b→R b):Rd w' size v n xs:=h.vE fun b off j u hb hc=>k.cell hc (hR b hb)
theorem A4 {l:LP} (h:WAt w F v l) (k:ct R w w') (hR:∀b,F b→R b):WAt w' F v l:=by
 induction h with
 |mk v ps h1 h2 h3 ih=>exact .mk v ps (lq h1 k (fun b hb=>hR b (h2 b hb).1)) (fun b hb=>⟨(h2 b hb).1,Jv (h2 b hb).2 k.1⟩) ih
theorem bT.keeps {α:Type} {C:α×Value→List Value} {size:Nat} {f:α→LP} {l:List α} (h:bT C size f w F v l) (k:ct R w w') (hR:∀b,F b→R b):bT C size f w' F v l:=by
 obtain⟨ps,h1,h2,h3,h4⟩:=h
 exact⟨ps,h1,lq h2 k (fun b hb=>hR b (h3 b hb).1),fun b hb=>⟨(h3 b hb).1,Jv (h3 b hb).2 k.1⟩,fun x hx=>A4 (h4 x hx) k hR⟩
theorem NAt.keeps {n:Nd} (h:NAt w F v n) (k:ct R w w') (hR:∀b,F b→R b):NAt w' F v n:=by
 induction h with
 |mk kk b s va vw vr vk al ws rs ps h1 h2 h3 h4 h5 h6 ih=>exact .mk kk b s va vw vr vk al ws rs ps (h1.keeps k hR) (h2.keeps k hR) (h3.keeps k hR) (lq h4 k (fun b hb=>hR b (h5 b hb).1)) (fun b hb=>⟨(h5 b hb).1,Jv (h5 b hb).2 k.1⟩) ih
theorem bJ.keeps {l:List Nd} (h:bJ w F v l) (k:ct R w w') (hR:∀b,F b→R b):bJ w' F v l:=by
 obtain⟨ps,h1,h2,h3,h4⟩:=h
 exact⟨ps,h1,lq h2 k (fun b hb=>hR b (h3 b hb).1),fun b hb=>⟨(h3 b hb).1,Jv (h3 b hb).2 k.1⟩,fun x hx=>(h4 x hx).keeps k hR⟩
end
theorem mf:∀(a b:List Nd),aZ (a++b)=aZ a++aZ b
 |[],b=>by show aK.aZ _=aK.aZ []++_;rw[aK.aZ];rfl
 |x::a,b=>by
  have ih:=mf a b
  show aK.aZ _=aK.aZ _++_
  rw[Jy,aK.aZ,aK.aZ,Jj]
  exact congrArg _ ih
theorem xN (x:Nd):aZ [x]=aK x:=by
 show aK.aZ _=_
 rw[aK.aZ,aK.aZ,List.append_nil]
theorem oQ {ks:List Nd} {k:Nat} {p:Nd} (h:ks[k]? =some p):aZ (ks.take (k+1))=aZ (ks.take k)++aK p:=by
 rw[List.take_add_one,h,mf]
 show _++aZ [p]=_
 rw[xN]
theorem yT (ks:List Nd) (k:Nat):aZ (ks.take k)<+:aZ ks:=⟨aZ (ks.drop k),by rw[←mf,List.take_append_drop]⟩
theorem jv (k:Int) (b:Bool) (s:LB) (a:List (LB×LP)) (w:List LP) (r:List (Int×LP)) (l:List Nd):aK (.mk k b s a w r l)= .mk k b s a w r l::aZ l:=by rw[aK]
def NE (F:Nat→Prop) (x:Nd) (en:Array Value) (W:World):Prop:=∃v,en=#[v]∧NAt W F v x
def FN (F:Nat→Prop) (J Jx:(Nat→Prop)→List Nd→World→Prop) (X:Nat→Prop) (xs:List Nd) (w:World) (e:Ending) (W':World):Prop:=
 ct (fun k=>F k∨X k) w W'∧((e= .returned (.bool true)∧∃X',(∀k,X' k→k<W'.heap.size)∧(∀k,X k→X' k)∧J X' xs W')∨
  (e= .returned (.bool false)∧∃X' pre,(∀k,X' k→k<W'.heap.size)∧(∀k,X k→X' k)∧pre<+:xs∧pre≠[]∧Jx X' pre W'))
def E5 (F:Nat→Prop) (J Jx:(Nat→Prop)→List Nd→World→Prop) (X:Nat→Prop) (xs:List Nd) (l:Nat):Prop:=
 ∀X' pre x en W1,J X' pre W1→(∀k,X k→X' k)→(∀k,X' k→k<W1.heap.size)→pre++[x]<+:xs→NE F x en W1→YAt Tryz.prog l en W1 fun e W'=>
  (e= .returned (.bool true)∧J X' (pre++[x]) W'∧ct (fun k=>F k∨X' k) W1 W')∨(e= .returned (.bool false)∧Jx X' (pre++[x]) W'∧ct (fun k=>F k∨X' k) W1 W')
def Fw (n:Nat):Prop:=∀(w:World) (F:Nat→Prop) (v:Value) (nd:Nd),szN nd≤n→NAt w F v nd→(∀b,F b→b<w.heap.size)→∀(l:Nat) (J Jx:(Nat→Prop)→List Nd→World→Prop) (X:Nat→Prop),(∀k,X k→k<w.heap.size)→Ab J→Ab Jx→
 E5 F J Jx X (aK nd) l→J X [] w→Calls Tryz.prog 49 #[v,.func (.yield l) #[] #[]] w (FN F J Jx X (aK nd) w)
theorem Cu:∀n,Fw n:=fun n=>by
 induction n using Nat.strongRecOn with
 |ind n ih=>
  intro w F v nd hn h hF l J Jx X hX hJ hJx hY h0
  have hsk:=je nd
  have HS:Hid (Fw (n -1)):=jd (ih (n -1) (by omega))
  have HSZ:Hid (dq nd.kids≤n -1):=jd (by omega)
  have HN0:=jd h
  obtain⟨xa,xan,xac,xw,xwn,xwc,xr,xrn,xrc,xk,xkn,xkc,rfl,h1,h2,h3,h4⟩:=h.opens
  obtain⟨kk,nb,nm,al,ws,rs,ks⟩:=nd
  simp only[Nd.kind,Nd.neg,Nd.name,Nd.al,Nd.ws,Nd.rs,Nd.kids,nv] at h1 h2 h3 h4 HSZ
  have E4:=h4.len
  have hm4:=h4.max
  have q4:xkn≤9223372036854775807:=by omega
  have H4:=jd h4;have HE4:=jd E4;have HF:=jd hF
  obtain⟨ND,hND⟩:∃ND,Nd.mk kk nb nm al ws rs ks=ND:=⟨_,rfl⟩
  have HW:Hid (aK ND=ND::aZ ks):=jd (by rw[←hND,jv])
  rw[hND] at hY HN0⊢
  obtain⟨W0,hW0⟩:∃W0,w.alloc (.cells #[.int .i64 kk,.bool nb,.string (BA nm),.slice xa xan xac,.slice xw xwn xwc,.slice xr xrn xrc,.slice xk xkn xkc] 27)=W0:=⟨_,rfl⟩
  have HW0:=jd hW0
  have KA:Hid (Kept (fun _=>False) w W0):=jd (by rw[←hW0];exact(Ja _ w).alloc _)
  have PA:Hid (NBx W0 w.heap.size #[.int .i64 kk,.bool nb,.string (BA nm),.slice xa xan xac,.slice xw xwn xwc,.slice xr xrn xrc,.slice xk xkn xkc]):=jd (by rw[←hW0];exact heap_alloc w _)
  have hs0:W0.heap.size=w.heap.size+1:=by rw[←hW0,World.size_alloc]
  obtain⟨X0,hX0⟩:∃X0:Nat→Prop,X0=fun b=>X b∨b=w.heap.size:=⟨_,rfl⟩
  have HX0:Hid (∀b,X b→X0 b):=jd (fun b hb=>by rw[hX0];exact .inl hb)
  have HX0B:Hid (X0 w.heap.size):=jd (by rw[hX0];exact .inr rfl)
  have HX0L:Hid (∀b,X0 b→b<W0.heap.size):=jd (fun b hb=>by rw[hX0] at hb;rcases hb with hb|hb;(have:=hX b hb;omega);omega)
  have hj0:J X0 [] W0:=hJ _ _ _ _ _ h0 (KA.o.mono (fun _ _ h=>h.elim)) (fun b hb=>by rw[hX0] at hb;exact hb.imp id (fun e=>by omega))
  have HKF:Hid (∀{V V':World},ct (fun b=>F b∨X0 b) V V'→ct (fun b=>F b∨X b) V V'):=jd (fun hk=>hk.mono (fun b hb=>hb.imp id (HX0.o b)))
  have HKA:Hid (ct (fun b=>F b∨X b) w W0):=jd (KA.o.keeps (fun _ _ _ h=>h))
  obtain⟨fn,tmps,assign,body,hy,hRR⟩:=hY X0 [] ND #[nv ND (.slice xa xan xac) (.slice xw xwn xwc) (.slice xr xrn xrc) (.slice xk xkn xkc)] W0 hj0 HX0.o HX0L.o (by rw[HW.o];exact⟨aZ ks,rfl⟩) ⟨_,rfl,HN0.o.kept KA.o (fun _ _ h=>h)⟩
  have HY:=jd hY;have HJ:=jd hJ;have HJX:=jd hJx
  have hnv:nv ND (.slice xa xan xac) (.slice xw xwn xwc) (.slice xr xrn xrc) (.slice xk xkn xkc)= .agg #[.int .i64 kk,.bool nb,.string (BA nm),.slice xa xan xac,.slice xw xwn xwc,.slice xr xrn xrc,.slice xk xkn xkc]:=by rw[←hND];rfl
  rw[hnv] at hy HN0⊢
  clear ih h h1 h2 h3 h4 hn hsk E4 hm4 hY hJ hJx h0 hX hX0 hj0 hW0 hND hnv hF
  refine(callsIn_wide (n:=0)).1 (callsIn_of_wp Tryz.func49 rfl trivial ?_)
  simp only[Tryz.ntmps49,List.size_toArray,Jg,Jn,Nat.reduceAdd,Nat.reduceSub,Array.replicate_succ,Array.replicate_zero,List.push_toArray,List.append_toArray,List.nil_append,Jy]
  gi_wp2_with fail
  rw[HW0.o]
  gi_wp2_with fail
  rw[hy]
  gi_wp2_with fail
  refine⟨rfl,(CB hRR).mono ?_⟩
  rintro e W1 (⟨rfl,hj1,hk1⟩|⟨rfl,hx1,hk1⟩)
  ·have P1:NBx W1 w.heap.size _:=hk1.heap PA.o (.inr HX0B.o)
   obtain⟨⟨c0,c1,c2,c3,c4,c5,c6⟩,-⟩:=NBx.cells P1
   have HK1:Hid (ct (fun b=>F b∨X b) w W1):=jd (HKA.o.trans (HKF.o hk1))
   have H41:Hid (bJ W1 F (.slice xk xkn xkc) ks):=jd (H4.o.keeps (HKA.o.trans (HKF.o hk1)) (fun b hb=>.inl hb))
   have HJ1:=jd hj1
   have hsz1:W0.heap.size≤W1.heap.size:=hk1.1
   have HX1L:Hid (∀b,X0 b→b<W1.heap.size):=jd (fun b hb=>Jv (HX0L.o b hb) hsz1)
   clear hj1 hk1 P1 hy
   gi_wp2_with fail
   gi_loopw [14] (fun p wr=>∃(k:Nat) (X1:Nat→Prop),k≤xkn∧p= .int .i64 (k:Int)∧J X1 (ND::aZ (ks.take k)) wr∧(∀b,X0 b→X1 b)∧(∀b,X1 b→b<wr.heap.size)∧ct (fun b=>F b∨X0 b) W1 wr) (fun p _=>xkn -(intOf p).toNat)
   case atStart=>exact⟨0,X0,Ju _,rfl,by rw[List.take_zero];show J X0 (ND::aK.aZ []) W1;rw[aK.aZ];exact HJ1.o,fun _ h=>h,HX1L.o,ct.refl _ _⟩
   case round=>
    obtain⟨k,X1,hk,rfl,hjr,hxr,hxl,hkr⟩:=hrel
    have HJR:=jd hjr;have HXR:=jd hxr;have HXL:=jd hxl;have HKR:=jd hkr
    clear hjr hxr hxl hkr
    by_cases hlt:k<xkn
    ·obtain⟨p,hp⟩:∃p,ks[k]? =some p:=⟨_,Je (by rw[←HE4.o];exact hlt)⟩
     have hps:szN p≤n -1:=by have h1:szN p<dq ks:=jk (List.mem_of_getElem? hp);have h2:=HSZ.o;omega
     have HTK:=jd (oQ hp)
     have HPRE:Hid ((ND::aZ (ks.take k))++aK p<+:aK ND):=jd (by
      rw[HW.o,Jy,←HTK.o]
      exact(List.prefix_cons_inj ND).2 (yT ks (k+1)))
     have hdl:decide (k<xkn)=true:=Jc hlt
     obtain⟨b1,o1,ya,yan,yac,yw,ywn,ywc,yr,yrn,yrc,yk,ykn,ykc,e1,p0,p1,p2,p3,p4,p5,p6,hao⟩:=bJ.elem (H41.o.keeps HKR.o (fun b hb=>.inl hb)) hp
     subst e1
     have hbl:b1<wr.heap.size:=World.block_lt_of_cell? wr _ p0
     obtain⟨W2,hW2⟩:∃W2,wr.alloc (.cells #[.int .i64 p.kind,.bool p.neg,.string (BA p.name),.slice ya yan yac,.slice yw ywn ywc,.slice yr yrn yrc,.slice yk ykn ykc] 27)=W2:=⟨_,rfl⟩
     have HW2:=jd hW2
     have K2:Hid (Kept (fun _=>False) wr W2):=jd (by rw[←hW2];exact(Ja _ wr).alloc _)
     have hs2:W2.heap.size=wr.heap.size+1:=by rw[←hW2,World.size_alloc]
     have hjk:J (fun b=>X1 b∨b=wr.heap.size) (ND::aZ (ks.take k)) W2:=HJ.o _ _ _ _ _ HJR.o (K2.o.mono (fun _ _ h=>h.elim)) (fun b hb=>hb.imp id (fun e=>by omega))
     have hwr:=HKR.o.1
     have HC:=jd (HS.o W2 F _ p hps (hao.kept K2.o (fun _ _ h=>h)) (fun b hb=>by have:=HF.o b hb;have:=HK1.o.1;omega) l (fun X' pre V=>J X' ((ND::aZ (ks.take k))++pre) V) (fun X' pre V=>Jx X' ((ND::aZ (ks.take k))++pre) V) (fun b=>X1 b∨b=wr.heap.size)
      (fun b hb=>by rcases hb with hb|hb;(have:=HXL.o b hb;omega);omega)
      (fun A A' st V V' h1 h2 h3=>HJ.o _ _ _ _ _ h1 h2 h3) (fun A A' st V V' h1 h2 h3=>HJX.o _ _ _ _ _ h1 h2 h3)
      (fun X' pre x en V hj hx hl hp he=>by
       have h:=HY.o X' _ x en V hj (fun b hb=>hx b (.inl (HXR.o b (HX0.o b hb)))) hl (by
        obtain⟨t,ht⟩:=hp
        obtain⟨t2,ht2⟩:=HPRE.o
        exact⟨t++t2,by rw[←ht2,←ht];simp[Jj]⟩) he
       rw[Jj] at h
       exact h)
      (by rw[List.append_nil];exact hjk))
     clear hp hps hao hW2 hjk
     gi_wp2_with fail
     rw[HW2.o]
     gi_wp2_with fail
     refine⟨trivial,rfl,(callsIn_wide.2 HC.o).mono ?_⟩
     have hw3:W1.heap.size≤W2.heap.size:=by omega
     rintro e W3 ⟨k3,(⟨rfl,X3,hl3,hx3,hj3⟩|⟨rfl,X3,pre,hl3,hx3,hp3,hne,hjx3⟩)⟩
     ·have HK3:Hid (ct (fun b=>F b∨X0 b) W1 W3):=jd ((HKR.o.trans (K2.o.keeps (fun _ _ _ h=>h))).trans (k3.mono (fun b hb=>hb.imp id (fun h=>.inl (HXR.o b h)))))
      have HJ3:Hid (J X3 (ND::aZ (ks.take (k+1))) W3):=jd (by rw[HTK.o,←Jy];exact hj3)
      have HL3:=jd hl3;have HX3:Hid (∀b,X0 b→X3 b):=jd (fun b hb=>hx3 b (.inl (HXR.o b hb)))
      clear k3 hl3 hx3 hj3
      gi_wp2_with fail
      go_roundw
      case rel=>exact⟨k+1,X3,hlt,by go_num,HJ3.o,HX3.o,HL3.o,HK3.o⟩
      case measure=>simp[intOf];omega
     ·have HK3:Hid (ct (fun b=>F b∨X0 b) W1 W3):=jd ((HKR.o.trans (K2.o.keeps (fun _ _ _ h=>h))).trans (k3.mono (fun b hb=>hb.imp id (fun h=>.inl (HXR.o b h)))))
      gi_wp2_with fail
      go_ret
      exact⟨HK1.o.trans (HKF.o HK3.o),.inr ⟨rfl,X3,_,hl3,fun b hb=>hx3 b (.inl (HXR.o b (HX0.o b hb))),by
       obtain⟨t,ht⟩:=hp3
       obtain⟨t2,ht2⟩:=HPRE.o
       exact⟨t++t2,by rw[←ht2,←ht];simp[Jj]⟩,by simp,hjx3⟩⟩
    ·obtain rfl:k=xkn:=by omega
     have hdl:decide (k<k)=false:=Jd hlt
     have HT:Hid (ks.take k=ks):=jd (List.take_of_length_le (by rw[←HE4.o];exact Jb _))
     gi_wp2_with fail
     go_ret
     exact⟨HK1.o.trans (HKF.o HKR.o),.inl ⟨rfl,X1,HXL.o,fun b hb=>HXR.o b (HX0.o b hb),by rw[HW.o,←HT.o];exact HJR.o⟩⟩
  ·gi_wp2_with fail
   go_ret
   exact⟨HKA.o.trans (HKF.o hk1),.inr ⟨rfl,X0,[ND],fun b hb=>Jv (HX0L.o b hb) hk1.1,HX0.o,by rw[HW.o];exact⟨aZ ks,rfl⟩,by simp,hx1⟩⟩
theorem sE (w:World) (F:Nat→Prop) (v:Value) (nd:Nd) (h:NAt w F v nd) (hF:∀b,F b→b<w.heap.size):
  Fm Tryz.prog 22 #[v] #[] (NE F) F (aK nd) w:=by
 intro l J Jx X W hW hX hJ hJx hY h0
 have hv:=h.keeps hW (fun b hb=>hb)
 have HN0:=jd hv
 obtain⟨xa,xan,xac,xw,xwn,xwc,xr,xrn,xrc,xk,xkn,xkc,rfl,h1,h2,h3,h4⟩:=hv.opens
 obtain⟨W0,hW0⟩:∃W0,W.alloc (.cells #[.int .i64 nd.kind,.bool nd.neg,.string (BA nd.name),.slice xa xan xac,.slice xw xwn xwc,.slice xr xrn xrc,.slice xk xkn xkc] 27)=W0:=⟨_,rfl⟩
 have HW0:=jd hW0
 have KA:Hid (Kept (fun _=>False) W W0):=jd (by rw[←hW0];exact(Ja _ W).alloc _)
 have hs0:W0.heap.size=W.heap.size+1:=by rw[←hW0,World.size_alloc]
 have HC:=jd (Cu (szN nd) W0 F _ nd (Jb _) (HN0.o.kept KA.o (fun _ _ h=>h)) (fun b hb=>by have:=hF b hb;have:=hW.1;omega) l J Jx (fun b=>X b∨b=W.heap.size) (fun b hb=>by rcases hb with hb|hb;(have:=hX b hb;omega);omega) hJ hJx
  (fun X' pre x en V hj hx hl hp he=>hY X' pre x en V hj hl hp he)
  (hJ _ _ _ _ _ h0 (KA.o.mono (fun _ _ h=>h.elim)) (fun b hb=>hb.imp id (fun e=>by omega))))
 have HX:=jd hX
 clear h hv h1 h2 h3 h4 hW hX hJ hJx hY h0 hW0
 show Calls Tryz.prog 22 #[.agg #[.int .i64 nd.kind,.bool nd.neg,.string (BA nd.name),.slice xa xan xac,.slice xw xwn xwc,.slice xr xrn xrc,.slice xk xkn xkc],.func (.yield l) #[] #[]] W _
 go_enter Tryz.func22,Tryz.ntmps22
 go_wp2_with fail
 rw[HW0.o]
 refine HC.o.mono ?_
 rintro e W3 ⟨k3,(⟨rfl,X3,hl3,hx3,hj3⟩|⟨rfl,X3,pre,hl3,hx3,hp3,hne,hjx3⟩)⟩
 ·go_wp2_with fail
  go_end0
  exact⟨⟨_,rfl⟩,.inl ⟨X3,hl3,fun b hb=>hx3 b (.inl hb),hj3⟩⟩
 ·go_wp2_with fail
  go_end0
  exact⟨⟨_,rfl⟩,.inr ⟨X3,pre,hl3,fun b hb=>hx3 b (.inl hb),hp3,hne,hjx3⟩⟩
theorem Ep (w:World) (lo B:Nat) (n:List Nd→Nat) (hB:w.heap.size≤B) (hlo:B<lo):
  Ab (fun(X:Nat→Prop) (pre:List Nd) V=>Kept (fun _=>False) w V∧(∀k,X k→lo≤k)∧lo≤V.heap.size∧V.heap[B]? =some (.cells #[.int .i64 (n pre:Int)] 3 (0,0))):=by
 rintro X1 X2 s V V' ⟨h1,h2,h3,h4⟩ hk hx
 refine⟨h1.trans hk (fun i hi h=>by have:=h2 i h;omega),fun i hi=>?_,lt9 h3 hk.size,hk.heap h4 (fun h=>by have:=h2 _ h;omega)⟩
 rcases hx i hi with h|h
 ·exact h2 i h
 ·omega
theorem tm (w:World) (F:Nat→Prop) (v:Value) (nd:Nd) (h:NAt w F v nd) (hF:∀b,F b→b<w.heap.size) (hn9:(aK nd).length≤1000000000):
  Calls Tryz.prog 23 #[v] w fun x w'=>x= .returned (.int .i64 ((aK nd).length:Int))∧Kept (fun _=>False) w w':=by
 have HN0:=jd h
 obtain⟨xa,xan,xac,xw,xwn,xwc,xr,xrn,xrc,xk,xkn,xkc,rfl,h1,h2,h3,h4⟩:=h.opens
 obtain⟨ND,hND⟩:∃ND,nd=ND:=⟨_,rfl⟩
 have hN9:=jd hn9
 have hnv:nv nd (.slice xa xan xac) (.slice xw xwn xwc) (.slice xr xrn xrc) (.slice xk xkn xkc)= .agg #[.int .i64 nd.kind,.bool nd.neg,.string (BA nd.name),.slice xa xan xac,.slice xw xwn xwc,.slice xr xrn xrc,.slice xk xkn xkc]:=rfl
 rw[hnv] at HN0
 clear hnv
 obtain⟨kk,nb,nm,al,ws,rs,ks⟩:=nd
 show Calls Tryz.prog 23 #[.agg #[.int .i64 kk,.bool nb,.string (BA nm),.slice xa xan xac,.slice xw xwn xwc,.slice xr xrn xrc,.slice xk xkn xkc]] w _
 simp only[Nd.kind,Nd.neg,Nd.name] at HN0
 rw[hND] at hN9 HN0⊢
 obtain⟨W0,hW0⟩:∃W0,w.alloc (.cells #[.int .i64 kk,.bool nb,.string (BA nm),.slice xa xan xac,.slice xw xwn xwc,.slice xr xrn xrc,.slice xk xkn xkc] 27)=W0:=⟨_,rfl⟩
 have hs0:W0.heap.size=w.heap.size+1:=by rw[←hW0,World.size_alloc]
 obtain⟨W1,hW1⟩:∃W1,W0.alloc (.cells #[.int .i64 0] 3)=W1:=⟨_,rfl⟩
 have hs1:W1.heap.size=w.heap.size+2:=by rw[←hW1,World.size_alloc,hs0]
 have KA:Hid (Kept (fun _=>False) w W1):=jd (by rw[←hW1,←hW0];exact((Ja _ w).alloc _).alloc _)
 have PB:Hid (W1.heap[w.heap.size+1]? =some (.cells #[.int .i64 0] 3 (0,0))):=jd (by rw[←hW1,←hs0];exact heap_alloc W0 _)
 have PA:NBx W1 w.heap.size #[.int .i64 kk,.bool nb,.string (BA nm),.slice xa xan xac,.slice xw xwn xwc,.slice xr xrn xrc,.slice xk xkn xkc]:=by
  rw[←hW1]
  exact((Ja (fun _=>False) W0).alloc _).heap (by rw[←hW0];exact heap_alloc w _) (fun h=>h)
 have HW0:=jd hW0;have HW1:=jd hW1;have HS0:=jd hs0;have HS1:=jd hs1
 obtain⟨⟨c0,c1,c2,c3,c4,c5,c6⟩,-⟩:=NBx.cells PA
 have HF:=jd hF
 clear h h1 h2 h3 h4 hND hW0 hW1 hn9 PA hF hs0 hs1
 refine iE Tryz.func23 rfl ?_
 simp only[Tryz.ntmps23,List.size_toArray,Jg,Jn,Nat.reduceAdd,Nat.reduceSub,Array.replicate_succ,Array.replicate_zero,List.push_toArray,List.append_toArray,List.nil_append,Jy]
 go_wp2_with fail
 rw[HW0.o]
 rw[HW1.o]
 refine sk (gf:=22) (pr:=#[.agg #[.int .i64 kk,.bool nb,.string (BA nm),.slice xa xan xac,.slice xw xwn xwc,.slice xr xrn xrc,.slice xk xkn xkc]]) (lb:=#[]) rfl (Go.Proofs.enters_of Tryz.func22 (by kernel_rfl) rfl)
  (sE W1 F _ ND (HN0.o.kept KA.o (fun _ _ h=>h)) (fun b hb=>by have:=HF.o b hb;have:=HS1.o;omega)) (fun b hb=>by have:=HF.o b hb;have:=HS1.o;omega) (fun x en V he=>by obtain⟨v,rfl,_⟩:=he;rfl)
  (fun X pre V=>Kept (fun _=>False) w V∧(∀k,X k→w.heap.size+2≤k)∧w.heap.size+2≤V.heap.size∧V.heap[w.heap.size+1]? =some (.cells #[.int .i64 (pre.length:Int)] 3 (0,0)))
  (fun _ _ _ _=>False) (Ep w _ _ _ (by omega) (by omega)) (fun _ _ _ _ _ _ h=>h.elim) ⟨KA.o,fun _ h=>h.elim,by rw[HS1.o];exact Jb _,PB.o⟩
  (fun X' q V=>∃vv,q.2.2={tmps:=#[.agg #[.int .i64 kk,.bool nb,.string (BA nm),.slice xa xan xac,.slice xw xwn xwc,.slice xr xrn xrc,.slice xk xkn xkc],.pointer (some ⟨w.heap.size,0,none⟩),.int .i64 0,.pointer (some ⟨w.heap.size+1,0,none⟩),.agg #[.int .i64 kk,.bool nb,.string (BA nm),.slice xa xan xac,.slice xw xwn xwc,.slice xr xrn xrc,.slice xk xkn xkc],.func (.func 22) #[.agg #[.int .i64 kk,.bool nb,.string (BA nm),.slice xa xan xac,.slice xw xwn xwc,.slice xr xrn xrc,.slice xk xkn xkc]] #[],vv,undef,undef,undef],defers:=[]})
  (fun _ _ _ _ _ h _ _=>h) ?assign ?body ?done ?stop
 case assign=>
  rintro q X' pre x en V K he hi _ _ _ hK
  obtain⟨vv,rfl,_⟩:=he
  gi_wp2
  exact hK _ _ (ct.refl _ _) hi ⟨vv,rfl⟩
 case body=>
  rintro q X' pre x a' V ⟨h1,h2,h3,h4⟩ ⟨vv,hax⟩ hX' hpx hsz
  dsimp only at hax
  subst hax
  have HH1:=jd h1;have HH2:=jd h2;have HH3:=jd h3;have HH4:=jd h4
  have hpl:pre.length<1000000000:=by
   have:=hpx.length_le
   rw[Jf] at this
   have h9:=hN9.out
   have:pre.length+1≤(aK ND).length:=this
   omega
  have HPL:Hid ((pre++[x]).length=pre.length+1):=jd (by rw[Jf];rfl)
  obtain⟨np,hnp⟩:∃np,pre.length=np:=⟨_,rfl⟩
  rw[hnp] at h4 HPL hpl
  have c0:=aB h4 0
  have f0:=a6 h4 0
  have hbl:w.heap.size+1<V.heap.size:=av h4
  have HW5:Hid (Kept (fun k=>k=w.heap.size+1) V (V.setCell ⟨w.heap.size+1,0,none⟩ (.int .i64 ((np+1:Nat):Int)))):=jd ((Ja (fun k=>k=w.heap.size+1) V).set (w.heap.size+1) 0 (fun _=>rfl) _)
  have HV5:Hid ((V.setCell ⟨w.heap.size+1,0,none⟩ (.int .i64 ((np+1:Nat):Int))).heap[w.heap.size+1]? =some (.cells #[.int .i64 ((np+1:Nat):Int)] 3 (0,0))):=jd (heap_set h4 0 _)
  clear h1 h2 h3 h4 hX' hpx hnp
  gi_wp2
  exact⟨(HW5.o).keeps (fun k hk hr e=>by
    have e':k=w.heap.size+1:=e
    rcases hr with hr|hr
    ·have:=HF.o k hr;omega
    ·have:=HH2.o k hr;omega),
   HH1.o.trans HW5.o (fun i hi h=>by have h':i=w.heap.size+1:=h;omega),HH2.o,lt9 HH3.o HW5.o.size,by rw[HPL.o];exact HV5.o⟩
 case done=>
  rintro X' D V hD hXD hXb ⟨h1,h2,h3,h4⟩ hdf
  have c0:=aB h4 0
  go_wp2_with fail
  refine eo [D] V (by simp) (fun r hr=>by rw[Jk.1 hr];exact hdf) (fun V' hk=>?_)
  exact⟨_,results_tmp rfl _ _ _,rfl,h1.trans hk (fun i hi h=>by have:=Jk.1 h;have:=h2 D hXD;omega)⟩
 case stop=>
  rintro X' c pre D V _ _ _ _ _ h
  exact h.elim
end Go.Proofs.YtgigdlhcjahejaaGreatDoor
namespace Go.Lw
open Go Go.RowKit
section
variable {P:Program} {Q:Exit→Act→World→Prop} {l n:Nat}
theorem yc {o:Oper} {a:Act} {K:Act→World→Prop} {r:Result Next} (h:o.upon P a K Q r):o.uponIn (Fence.wide.inRound l) n P a K Q r:=by
 cases r with
 |ok x w'=>
  cases x<;>simp only[Oper.upon,Oper.uponIn] at h⊢<;>
   first
    |exact h
    |exact⟨fun h=>(by cases h),callsIn_wide.2 h⟩
    |exact⟨fun h=>(by cases h),fun c cs _=>let⟨v,w',r,s⟩:=h c cs;⟨v,w',r,stepsIn_wide.2 s⟩⟩
 |halt x w'=>cases x<;>simp only[Oper.upon,Oper.uponIn] at h⊢<;>exact h
theorem xR {o:Oper} {a:Act} {w:World} {K:Act→World→Prop} (hd:∀c,o.op≠.defer c) (h:o.wp P a w K Q):o.wpIn (Fence.wide.inRound l) n P a w K Q:=by
 refine⟨fun _ _=>trivial,?_⟩
 rw[Oper.semAt_plain _ _ _ hd]
 exact yc h
def uA (ops:List Oper):Bool:=ops.all fun o=>match o.op with|.defer _=>false|_=>true
theorem yf {ops:List Oper} (h:uA ops=true) {i:Nat} {o:Oper} (ho:ops.toArray[i]? =some o):∀c,o.op≠.defer c:=by
 intro c hc
 have:=List.all_eq_true.1 h o (List.mem_of_getElem? (by simpa using ho))
 rw[hc] at this
 cases this
theorem gv {md:Region.Mode} {ops:List Oper} (hd:uA ops=true) (hout:LetsOut Q→False):∀(fuel:Nat) (listed:Array Bool) (a:Act) (w:World),wpAny P md ops.toArray Q fuel listed a w→wpAnyIn (Fence.wide.inRound l) n P md ops.toArray Q fuel listed a w
 |0,_,_,_,h=>h
 |fuel+1,listed,a,w,h=>by
  refine⟨h.1,fun i hi=>?_⟩
  have h2:=h.2 i hi
  unfold wpOp at h2
  unfold wpOpIn
  split
  ·rename_i ho
   rw[ho] at h2
   exact gv hd hout fuel _ _ _ h2
  ·rename_i o ho
   rw[ho] at h2
   dsimp only at h2
   split
   ·rename_i hw
    rw[Jt hw] at h2
    refine Oper.wpIn_mono (fun a w h=>gv hd hout fuel _ a w h) (xR (yf hd ho) (h2.resolve_right (fun h=>hout h.2)))
   ·rename_i hw
    rw[Js hw] at h2
    exact⟨fun _ _=>trivial,gv hd hout fuel _ _ _ h2⟩
theorem iq {id:Nat} {ops:List Oper} {a:Act} {w:World} (hm:P.follows .mixedOrders=true) (hd:uA ops=true) (hout:LetsOut Q→False)
  (h:wpAny P .any ops.toArray Q ops.toArray.size (Array.replicate ops.toArray.size false) a w.drew):(Code.region id ops.toArray true).wpIn (Fence.wide.inRound l) n P Q a w:=
 wpIn_region_any hm (gv hd hout _ _ _ _ h)
end
