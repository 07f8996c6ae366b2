/- seq.Span.Missing: an iterator. -/
import Derived.Test.YtbmfnepbdfnlaaaAsk
namespace Go.Proofs.Ytbmfnepbdfnlaaa
open Go Go.RowKit Go.Lw
set_option maxRecDepth 100000
set_option linter.unusedVariables false
set_option linter.unusedSimpArgs false
attribute [local go_sem] Oper.semAt_some
/-- A function value that asks an Ask. -/
abbrev hasV (nx : Nat) (v : Value) : Value := .func (.func 43) #[.agg #[u32v nx, v]] #[]
theorem so_any (w : World) (C nx n : Nat) (v : Value) (l : List Hv) (hl : RdH w v l) (hC : w.heap[C]? = some (.cells #[hasV nx v] 74 (0, 0))) (hl9 : l.length ≤ 1000000) :
    Calls Try.prog 59 #[u32v n, .pointer (some ⟨C, 0, none⟩)] w fun x w' => x = .returned (.bool (!hasF l n)) ∧ Kept (fun _ => False) w w' := by
  have c0 := heap_cell hC 0
  have HL := Lw.hid hl
  clear hl hC
  go_enter Try.func59, Try.ntmps59
  go_wp2_with fail
  refine (has_any w v l HL.out nx n hl9).mono ?_
  rintro x w4 ⟨rfl, k4⟩
  go_wp2_with fail
  go_ret
  exact ⟨rfl, k4⟩
theorem filter_pre {α : Type} (p : α → Bool) {a b : List α} (h : a <+: b) : a.filter p <+: b.filter p := by
  obtain ⟨t, rfl⟩ := h
  exact ⟨t.filter p, by rw [List.filter_append]⟩
/-- What Missing's iterator reads. -/
structure MissAt (w : World) (BA BS B C a n nx : Nat) (v : Value) (l : List Hv) : Prop where
  all : w.heap[BA]? = some (.cells #[.func (.func 57) #[] #[.pointer (some ⟨B, 0, none⟩)]] 29 (0, 0))
  so : w.heap[BS]? = some (.cells #[.func (.func 59) #[] #[.pointer (some ⟨C, 0, none⟩)]] 74 (0, 0))
  span : w.heap[B]? = some (.cells #[u32v a, u32v (a + n)] 76 (0, 0))
  have_ : w.heap[C]? = some (.cells #[hasV nx v] 74 (0, 0))
  rd : RdH w v l
def MissR (BA BS B C : Nat) (v : Value) (k : Nat) : Prop := k = BA ∨ k = BS ∨ k = B ∨ k = C ∨ blk v k
theorem MissAt.keeps {w w' : World} {BA BS B C a n nx : Nat} {v : Value} {l : List Hv} (h : MissAt w BA BS B C a n nx v l) (k : Keeps (MissR BA BS B C v) w w') : MissAt w' BA BS B C a n nx v l :=
  ⟨k.heap h.all (.inl rfl), k.heap h.so (.inr (.inl rfl)), k.heap h.span (.inr (.inr (.inl rfl))), k.heap h.have_ (.inr (.inr (.inr (.inl rfl)))), h.rd.keeps k (fun i hi => .inr (.inr (.inr (.inr hi))))⟩
theorem MissAt.lt {w : World} {BA BS B C a n nx : Nat} {v : Value} {l : List Hv} (h : MissAt w BA BS B C a n nx v l) (hv : ∀ k, blk v k → k < w.heap.size) : ∀ k, MissR BA BS B C v k → k < w.heap.size := fun k hk => by
  rcases hk with rfl | rfl | rfl | rfl | hk
  · exact (Array.getElem?_eq_some_iff.1 h.all).1
  · exact (Array.getElem?_eq_some_iff.1 h.so).1
  · exact (Array.getElem?_eq_some_iff.1 h.span).1
  · exact (Array.getElem?_eq_some_iff.1 h.have_).1
  · exact hv k hk
abbrev u32e (x : Nat) : Array Value := #[u32v x]
theorem snoc_true {p : Nat → Bool} {pre : List Nat} {x : Nat} (h : p x = true) : (pre ++ [x]).filter p = pre.filter p ++ [x] := by simp [h]
theorem snoc_false {p : Nat → Bool} {pre : List Nat} {x : Nat} (h : p x = false) : (pre ++ [x]).filter p = pre.filter p := by simp [h]
set_option maxHeartbeats 8000000 in
theorem miss_iter (w : World) (BA BS B C a n nx : Nat) (v : Value) (l : List Hv) (hm : MissAt w BA BS B C a n nx v l) (hv : ∀ k, blk v k → k < w.heap.size) (hn : a + n < 4294967296) (hl9 : l.length ≤ 1000000) :
    Iter Try.prog 65 #[.pointer (some ⟨BA, 0, none⟩), .pointer (some ⟨BS, 0, none⟩)] u32e (MissR BA BS B C v) ((upto a n).filter fun x => !hasF l x) w := by
  intro y J Jx X W hW hX hJ hJx hY h0
  have hlt : ∀ k, MissR BA BS B C v k → k < W.heap.size := fun k hk => Nat.lt_of_lt_of_le (hm.lt hv k hk) hW.1
  have HM := Lw.hid (hm.keeps hW)
  have HY := Lw.hid hY; have HJ := Lw.hid hJ; have HJX := Lw.hid hJx; have H0 := Lw.hid h0; have HX := Lw.hid hX; have HLT := Lw.hid hlt
  clear hm hY hJ hJx h0 hW hX hlt hv
  refine calls_of_wp_marks Try.func65 rfl ?_
  simp only [Try.ntmps65, List.size_toArray, List.length_cons, List.length_nil, Nat.reduceAdd, Nat.reduceSub, Array.replicate_succ, Array.replicate_zero, List.push_toArray, List.append_toArray, List.nil_append, List.cons_append]
  have cA : (W.alloc (.cells #[.func (.yield y) #[] #[]] 74)).cell? ⟨BA, 0, none⟩ = some (.func (.func 57) #[] #[.pointer (some ⟨B, 0, none⟩)]) := ((Kept.refl (fun _ => False) W).alloc _).cell (heap_cell HM.out.all 0) (fun h => h)
  go_wp2_with fail
  have hz : (W.alloc (.cells #[.func (.yield y) #[] #[]] 74)).heap.size = W.heap.size + 1 := by simp
  have KW : Hid (Kept (fun _ => False) W (W.alloc (.cells #[.func (.yield y) #[] #[]] 74))) := Lw.hid ((Kept.refl _ W).alloc _)
  have hY1 : (W.alloc (.cells #[.func (.yield y) #[] #[]] 74)).heap[W.heap.size]? = some (.cells #[.func (.yield y) #[] #[]] 74 (0, 0)) := heap_alloc W _
  obtain ⟨W1, hW1⟩ : ∃ W1, W.alloc (.cells #[.func (.yield y) #[] #[]] 74) = W1 := ⟨_, rfl⟩
  rw [hW1] at hz KW hY1 ⊢
  clear hW1 cA
  refine wp_range (gf := 57) (lb := #[.pointer (some ⟨B, 0, none⟩)]) rfl (Go.Proofs.enters_of Try.func57 (by kernel_rfl) rfl)
    (all1_iter W1 B a n (KW.out.heap HM.out.span (fun h => h)) hn) (fun k hk => by subst hk; have := HLT.out k (.inr (.inr (.inl rfl))); omega) (fun _ => rfl)
    (fun X' pre V => J (fun k => X k ∨ k = W.heap.size ∨ X' k) (pre.filter fun x => !hasF l x) V ∧ V.heap[W.heap.size]? = some (.cells #[.func (.yield y) #[] #[]] 74 (0, 0)) ∧ (∀ k, X' k → W.heap.size + 1 ≤ k) ∧ Keeps (MissR BA BS B C v) W V)
    (fun c X' pre V => c = .ret ∧ Jx (fun k => X k ∨ k = W.heap.size ∨ X' k) (pre.filter fun x => !hasF l x) V ∧ (pre.filter fun x => !hasF l x) ≠ [] ∧ (∀ k, X' k → W.heap.size + 1 ≤ k) ∧ W.heap.size < V.heap.size)
    ?_ ?_ ?_ (fun X' q V => q.2.2 = { tmps := #[.func (.yield y) #[] #[], .pointer (some ⟨BA, 0, none⟩), .pointer (some ⟨BS, 0, none⟩), .pointer (some ⟨W.heap.size, 0, none⟩), u32v q.2.1, .func (.func 57) #[] #[.pointer (some ⟨B, 0, none⟩)], u32v q.2.1, undef, undef, undef, undef, undef, undef, undef, undef, undef], defers := [] })
    (fun _ _ _ _ _ h _ _ => h) ?assign ?body ?done ?stop
  · rintro X1 X2 s V V' ⟨h1, h2, h3, h4⟩ hk hx
    have hzV := (Array.getElem?_eq_some_iff.1 h2).1
    refine ⟨HJ.out _ _ _ _ _ h1 (hk.mono (fun i _ h => .inr (.inr h))) (fun i hi => ?_), hk.heap h2 (fun h => by have := h3 _ h; omega), fun i hi => ?_, h4.trans (hk.keeps (fun i hi hr hx => by have := HLT.out i hr; have := h3 i hx; omega))⟩
    · rcases hi with h | h | h
      · exact .inl (.inl h)
      · exact .inl (.inr (.inl h))
      · exact (hx i h).imp (fun h => .inr (.inr h)) id
    · rcases hx i hi with h | h
      · exact h3 i h
      · omega
  · rintro c X1 X2 s V V' ⟨h1, h2, h3, h4, h5⟩ hk hx
    refine ⟨h1, HJX.out _ _ _ _ _ h2 (hk.mono (fun i _ h => .inr (.inr h))) (fun i hi => ?_), h3, fun i hi => ?_, Nat.lt_of_lt_of_le h5 hk.size⟩
    · rcases hi with h | h | h
      · exact .inl (.inl h)
      · exact .inl (.inr (.inl h))
      · exact (hx i h).imp (fun h => .inr (.inr h)) id
    · rcases hx i hi with h | h
      · exact h4 i h
      · omega
  · exact ⟨HJ.out _ _ _ _ _ H0.out (KW.out.mono (fun _ _ h => h.elim)) (fun i hi => by rcases hi with h | h | h; exact .inl h; exact .inr (by omega); exact h.elim), hY1, fun k h => h.elim, KW.out.keeps (fun _ _ _ h => h)⟩
  case assign =>
    rintro q X' pre x V K hi _ _ _ hK
    gi_wp2
    exact hK _ _ (Keeps.refl _ _) hi rfl
  case body =>
    rintro q X' pre x a' V ⟨h1, h2, h3, h4⟩ hax hX' hpx hsz
    dsimp only at hax
    subst hax
    have HH1 := Lw.hid h1; have HH3 := Lw.hid h3; have HH4 := Lw.hid h4; have HX' := Lw.hid hX'; have HPX := Lw.hid hpx
    have hMV := HM.out.keeps h4
    have cS : V.cell? ⟨BS, 0, none⟩ = some (.func (.func 59) #[] #[.pointer (some ⟨C, 0, none⟩)]) := heap_cell hMV.so 0
    have cY := heap_cell h2 0
    have HMV := Lw.hid hMV
    clear h1 h3 h4 hX' hpx hMV
    cases hp : hasF l x with
    | true =>
      gi_wp2_with (refine ⟨trivial, rfl, ?_⟩; gi_at_call 59; refine (CallsIn.inRound q (callsIn_wide.2 (so_any _ C nx x v l HMV.out.rd HMV.out.have_ hl9))).mono ?_; rintro e W4 ⟨rfl, k4⟩; rw [hp])
      all_goals (refine ⟨fun _ h => (by cases h), ?_⟩; gi_wp2)
      all_goals exact ⟨k4.keeps (fun _ _ _ h => h), by
        dsimp only
        rw [snoc_false (p := fun x => !hasF l x) (by simp [hp])]
        exact ⟨HJ.out _ _ _ _ _ HH1.out (k4.mono (fun _ _ h => h.elim)) (fun i h => .inl h), k4.heap h2 (fun h => h), HH3.out, HH4.out.trans (k4.keeps (fun _ _ _ h => h))⟩⟩
    | false =>
      have HP := Lw.hid hp
      gi_wp2_with (refine ⟨trivial, rfl, ?_⟩; gi_at_call 59; refine (CallsIn.inRound q (callsIn_wide.2 (so_any _ C nx x v l HMV.out.rd HMV.out.have_ hl9))).mono ?_; rintro e W4 ⟨rfl, k4⟩; rw [hp]; have h24 := k4.heap h2 (fun h => h); have cY4 := heap_cell h24 0; obtain ⟨fn, tmps, assign, body, hy, hR⟩ := HY.out (fun k => X k ∨ k = W.heap.size ∨ X' k) (pre.filter fun x => !hasF l x) x W4 (HJ.out _ _ _ _ _ HH1.out (k4.mono (fun _ _ h => h.elim)) (fun i h => .inl h)) (fun k hk => Nat.lt_of_lt_of_le (by have := HX'.out; have := HX.out; have := HH4.out.1; rcases hk with h | h | h; exact Nat.lt_of_lt_of_le (HX.out k h) HH4.out.1; omega; exact (HX'.out k h).2) k4.size) (by rw [← snoc_true (p := fun x => !hasF l x) (by simp [hp])]; exact filter_pre _ HPX.out))
      refine ⟨rfl, RoundIn.mono (F := Fence.wide.inRound q) (roundAny hR) ?_⟩
      rintro e W5 (⟨rfl, hj5, hk5⟩ | ⟨rfl, hx5, hk5⟩)
      · gi_wp2
        exact ⟨(k4.keeps (fun _ _ _ h => h)).trans (hk5.mono (fun i hi => hi.elim (fun h => .inl (.inr (.inr (.inl h)))) (fun h => .inr (.inr (.inr h))))), by
          dsimp only
          rw [snoc_true (p := fun x => !hasF l x) (by simp [HP.out])]
          exact ⟨hj5, hk5.heap h24 (.inr (.inr (.inl rfl))), HH3.out, (HH4.out.trans (k4.keeps (fun _ _ _ h => h))).trans (hk5.mono (fun i h => .inl h))⟩⟩
      · gi_wp2
        exact ⟨(k4.keeps (fun _ _ _ h => h)).trans (hk5.mono (fun i hi => hi.elim (fun h => .inl (.inr (.inr (.inl h)))) (fun h => .inr (.inr (.inr h))))), by
          dsimp only
          rw [snoc_true (p := fun x => !hasF l x) (by simp [HP.out])]
          exact ⟨rfl, hx5, by simp, HH3.out, Nat.lt_of_lt_of_le (Array.getElem?_eq_some_iff.1 h24).1 hk5.1⟩⟩
  case done =>
    rintro X' D V hD hXD hXb ⟨h1, h2, h3, h4⟩ hdf
    go_wp2
    refine leaves_marks [D] V (by simp) (fun r hr => by rw [List.mem_singleton.1 hr]; exact hdf) (fun V' hk => ?_)
    refine ⟨_, results_none rfl _ _ _, ⟨_, rfl⟩, .inl ⟨fun k => X k ∨ k = W.heap.size ∨ X' k, fun k hk' => ?_, fun k h => .inl h, HJ.out _ _ _ _ _ h1 (hk.mono (fun i _ h => by rw [List.mem_singleton.1 h]; exact .inr (.inr hXD))) (fun i h => .inl h)⟩⟩
    have hsz := hk.size
    rcases hk' with h | h | h
    · have := HX.out k h; have := h4.1; omega
    · have := (Array.getElem?_eq_some_iff.1 h2).1; omega
    · have := (hXb k h).2; omega
  case stop =>
    rintro X' c pre D V hD hXD hXb hpre hne ⟨rfl, h2, h3, h4, h5⟩ hdf
    go_wp2
    refine leaves_marks [D] V (by simp) (fun r hr => by rw [List.mem_singleton.1 hr]; exact hdf) (fun V' hk => ?_)
    refine ⟨_, results_none rfl _ _ _, ⟨_, rfl⟩, .inr ⟨fun k => X k ∨ k = W.heap.size ∨ X' k, _, fun k hk' => ?_, fun k h => .inl h, filter_pre _ hpre, h3, HJX.out _ _ _ _ _ h2 (hk.mono (fun i _ h => by rw [List.mem_singleton.1 h]; exact .inr (.inr hXD))) (fun i h => .inl h)⟩⟩
    have hsz := hk.size
    rcases hk' with h | h | h
    · have := HX.out k h; omega
    · omega
    · have := (hXb k h).2; omega
end Go.Proofs.Ytbmfnepbdfnlaaa
