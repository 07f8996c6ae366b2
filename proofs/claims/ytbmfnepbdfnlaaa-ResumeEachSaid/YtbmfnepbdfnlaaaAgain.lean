/- resume.Ask: Again, Replay, Past: iterators. -/
import Derived.Test.YtbmfnepbdfnlaaaFits2
namespace Go.Proofs.Ytbmfnepbdfnlaaa
open Go Go.RowKit Go.Lw
set_option maxRecDepth 100000
set_option linter.unusedVariables false
set_option linter.unusedSimpArgs false
attribute [local go_sem] Oper.semAt_some
/-- What the three closures read. -/
structure AskAt (w : World) (BA BL nx last : Nat) (v : Value) (l : List Hv) : Prop where
  ask : w.heap[BA]? = some (.cells #[u32v nx, v] 26 (0, 0))
  la : w.heap[BL]? = some (.cells #[u32v last] 24 (0, 0))
  rd : RdH w v l
def AskR (BA BL : Nat) (v : Value) (k : Nat) : Prop := k = BA ∨ k = BL ∨ blk v k
theorem AskAt.keeps {w w' : World} {BA BL nx last : Nat} {v : Value} {l : List Hv} (h : AskAt w BA BL nx last v l) (k : Keeps (AskR BA BL v) w w') : AskAt w' BA BL nx last v l :=
  ⟨k.heap h.ask (.inl rfl), k.heap h.la (.inr (.inl rfl)), h.rd.keeps k (fun i hi => .inr (.inr hi))⟩
theorem AskAt.keptF {w w' : World} {BA BL nx last : Nat} {v : Value} {l : List Hv} (h : AskAt w BA BL nx last v l) (k : Kept (fun _ => False) w w') : AskAt w' BA BL nx last v l :=
  h.keeps (k.keeps (fun _ _ _ h => h))
theorem AskAt.lt {w : World} {BA BL nx last : Nat} {v : Value} {l : List Hv} (h : AskAt w BA BL nx last v l) (hv : ∀ k, blk v k → k < w.heap.size) : ∀ k, AskR BA BL v k → k < w.heap.size := fun k hk => by
  rcases hk with rfl | rfl | hk
  · exact (Array.getElem?_eq_some_iff.1 h.ask).1
  · exact (Array.getElem?_eq_some_iff.1 h.la).1
  · exact hv k hk
def againF (nx last : Nat) (l : List Hv) : List Nat := if fitsF nx last l = 0 then upto (last + 1) (nx - (last + 1)) else []
def pastF (nx last : Nat) (l : List Hv) : List Nat := if fitsF nx last l = 0 then (upto 1 last).filter fun x => !hasF l x else []
def replayF (nx last : Nat) (l : List Hv) : List Hv := if fitsF nx last l = 0 then l.filter fun h => decide (h.id ≤ last) else []
theorem fits0 {nx last : Nat} {l : List Hv} (h : fitsF nx last l = 0) : last < nx ∧ mayF nx l = true := by
  unfold fitsF at h
  split at h
  · cases h
  · rename_i hm
    split at h
    · cases h
    · exact ⟨by omega, by simpa using hm⟩
theorem fits_eq {r : Nat} : ((r : Int) == 0) = decide (r = 0) := by
  by_cases h : r = 0
  · simp [h]
  · have : ¬ (r : Int) = 0 := by omega
    simp [h, this]
theorem fits_ne {r : Nat} : ((r : Int) != 0) = !decide (r = 0) := by simp only [bne, fits_eq]
set_option maxHeartbeats 4000000 in
theorem again_iter (w : World) (BA BL nx last : Nat) (v : Value) (l : List Hv) (ha : AskAt w BA BL nx last v l) (hv : ∀ k, blk v k → k < w.heap.size) (hnx : nx < 4294967296) (hla : last < 4294967296) (hl9 : l.length ≤ 1000000) :
    Iter Try.prog 36 #[.pointer (some ⟨BA, 0, none⟩), .pointer (some ⟨BL, 0, none⟩)] u32e (AskR BA BL v) (againF nx last l) w := by
  intro y J Jx X W hW hX hJ hJx hY h0
  have HA := Lw.hid (ha.keeps hW)
  have HV : Hid (∀ k, blk v k → k < W.heap.size) := Lw.hid (fun k hk => Nat.lt_of_lt_of_le (hv k hk) hW.1)
  obtain ⟨ad, cap, rfl, _, _, _⟩ := ha.rd.shape
  have a0 := heap_cell HA.out.ask 0; have a1 := heap_cell HA.out.ask 1; have b0 := heap_cell HA.out.la 0
  have HY := Lw.hid hY; have HJ := Lw.hid hJ; have HJX := Lw.hid hJx; have H0 := Lw.hid h0; have HX := Lw.hid hX; have HL9 := Lw.hid hl9
  obtain ⟨m, hm⟩ : ∃ m, l.length = m := ⟨_, rfl⟩
  have HM := Lw.hid hm
  rw [hm] at a0 a1 HV HA HY
  clear hY hJ hJx h0 hW hX hv ha hl9 hm
  go_enter Try.func36, Try.ntmps36
  go_wp2_with fail
  refine (fits_any W _ l HA.out.rd nx last hnx hla HL9.out HV.out).mono ?_
  rintro e W1 ⟨rfl, k1⟩
  have HF := fits_eq (r := fitsF nx last l)
  cases hf : decide (fitsF nx last l = 0) with
  | false =>
    have hx : againF nx last l = [] := by unfold againF; rw [if_neg (by simpa using hf)]
    rw [hf] at HF
    go_wp2_with fail
    go_end0
    refine ⟨⟨_, rfl⟩, .inl ⟨X, fun k h => Nat.lt_of_lt_of_le (HX.out k h) k1.size, fun _ h => h, ?_⟩⟩
    rw [hx]
    exact HJ.out _ _ _ _ _ H0.out (k1.mono (fun _ _ h => h.elim)) (fun _ h => .inl h)
  | true =>
    have hz : fitsF nx last l = 0 := by simpa using hf
    have hx : againF nx last l = upto (last + 1) (nx - (last + 1)) := by unfold againF; rw [if_pos hz]
    obtain ⟨hlt, _⟩ := fits0 hz
    rw [hf] at HF
    have HZ := Lw.hid hz
    have HXS := Lw.hid hx
    clear hz hx hf
    have c0 := k1.cell a0 (fun h => h); have c1 := k1.cell a1 (fun h => h); have d0 := k1.cell b0 (fun h => h)
    go_wp2_with fail
    refine (above_any W1 ad m cap nx last (by omega)).mono ?_
    rintro e W2 ⟨rfl, k2⟩
    go_wp2_with fail
    refine (all_any W2 (last + 1) nx).mono ?_
    rintro e W3 ⟨rfl, rfl⟩
    go_wp2_with fail
    have hB : (W2.alloc (.cells #[u32v (last + 1), u32v nx] 76)).heap[W2.heap.size]? = some (.cells #[u32v (last + 1), u32v (last + 1 + (nx - (last + 1)))] 76 (0, 0)) := by
      rw [show last + 1 + (nx - (last + 1)) = nx by omega]; exact heap_alloc _ _
    have kk : Kept (fun _ => False) W (W2.alloc (.cells #[u32v (last + 1), u32v nx] 76)) := (k1.trans k2 (fun _ _ h => h)).alloc _
    refine ((all1_iter _ W2.heap.size (last + 1) (nx - (last + 1)) hB (by omega)).pass kk (fun k hk => .inr (by subst hk; have := k1.size; have := k2.size; simp; omega)) HX.out HJ.out HJX.out (by rw [← HXS.out]; exact HY.out) H0.out).mono ?_
    rintro e W4 ⟨⟨v4, rfl⟩, h4⟩
    rw [← HXS.out] at h4
    have H4 := Lw.hid h4
    clear h4
    go_wp2_with fail
    go_end0
    exact ⟨⟨_, rfl⟩, H4.out⟩
set_option maxHeartbeats 4000000 in
theorem past_iter (w : World) (BA BL nx last : Nat) (v : Value) (l : List Hv) (ha : AskAt w BA BL nx last v l) (hv : ∀ k, blk v k → k < w.heap.size) (hnx : nx < 4294967296) (hla : last < 4294967296) (hl9 : l.length ≤ 1000000) :
    Iter Try.prog 41 #[.pointer (some ⟨BA, 0, none⟩), .pointer (some ⟨BL, 0, none⟩)] u32e (AskR BA BL v) (pastF nx last l) w := by
  intro y J Jx X W hW hX hJ hJx hY h0
  have HA := Lw.hid (ha.keeps hW)
  have HV : Hid (∀ k, blk v k → k < W.heap.size) := Lw.hid (fun k hk => Nat.lt_of_lt_of_le (hv k hk) hW.1)
  obtain ⟨ad, cap, rfl, _, _, _⟩ := ha.rd.shape
  have a0 := heap_cell HA.out.ask 0; have a1 := heap_cell HA.out.ask 1; have b0 := heap_cell HA.out.la 0
  have HY := Lw.hid hY; have HJ := Lw.hid hJ; have HJX := Lw.hid hJx; have H0 := Lw.hid h0; have HX := Lw.hid hX; have HL9 := Lw.hid hl9
  obtain ⟨m, hm⟩ : ∃ m, l.length = m := ⟨_, rfl⟩
  have HM := Lw.hid hm
  rw [hm] at a0 a1 HV HA HY
  clear hY hJ hJx h0 hW hX hv ha hl9 hm
  go_enter Try.func41, Try.ntmps41
  go_wp2_with fail
  refine (fits_any W _ l HA.out.rd nx last hnx hla HL9.out HV.out).mono ?_
  rintro e W1 ⟨rfl, k1⟩
  have HF := fits_eq (r := fitsF nx last l)
  cases hf : decide (fitsF nx last l = 0) with
  | false =>
    have hx : pastF nx last l = [] := by unfold pastF; rw [if_neg (by simpa using hf)]
    rw [hf] at HF
    go_wp2_with fail
    go_end0
    refine ⟨⟨_, rfl⟩, .inl ⟨X, fun k h => Nat.lt_of_lt_of_le (HX.out k h) k1.size, fun _ h => h, ?_⟩⟩
    rw [hx]
    exact HJ.out _ _ _ _ _ H0.out (k1.mono (fun _ _ h => h.elim)) (fun _ h => .inl h)
  | true =>
    have hz : fitsF nx last l = 0 := by simpa using hf
    have hx : pastF nx last l = (upto 1 last).filter fun x => !hasF l x := by unfold pastF; rw [if_pos hz]
    obtain ⟨hlt, _⟩ := fits0 hz
    rw [hf] at HF
    have HZ := Lw.hid hz
    have HXS := Lw.hid hx
    clear hz hx hf
    have c0 := k1.cell a0 (fun h => h); have c1 := k1.cell a1 (fun h => h); have d0 := k1.cell b0 (fun h => h)
    have HMS : Hid (Calls Try.prog 42 #[.agg #[u32v 1, .int .u32 ((last : Int) + 1)], hasV nx (.slice ad m cap)] W1 (fun x w' => ∃ BA BS B C, x = .returned (.func (.func 65) #[] #[.pointer (some ⟨BA, 0, none⟩), .pointer (some ⟨BS, 0, none⟩)]) ∧ MissAt w' BA BS B C 1 last nx (.slice ad m cap) l ∧ Kept (fun _ => False) W1 w' ∧
      (W1.heap.size ≤ BA ∧ W1.heap.size ≤ BS ∧ W1.heap.size ≤ B ∧ W1.heap.size ≤ C))) := Lw.hid (by
        have := missing_any W1 1 last nx _ l (HA.out.rd.keptF k1)
        rw [show u32v (1 + last) = .int .u32 ((last : Int) + 1) by show Value.int .u32 _ = _; congr 1; omega] at this
        exact this)
    go_wp2_with fail
    refine HMS.out.mono ?_
    rintro e W2 ⟨BA', BS', B', C', rfl, hma, k2, hba⟩
    have HMA := Lw.hid hma; have HBA := Lw.hid hba
    clear hma hba
    go_wp2_with fail
    have kk : Kept (fun _ => False) W W2 := k1.trans k2 (fun _ _ h => h)
    have hvl : ∀ k, blk (.slice ad m cap) k → k < W2.heap.size := fun k hk => Nat.lt_of_lt_of_le (HV.out k hk) kk.size
    refine ((miss_iter W2 BA' BS' B' C' 1 last nx _ l HMA.out hvl (by omega) HL9.out).pass kk (fun k hk => by
      have hlt := HMA.out.lt hvl k hk
      have := k1.size
      have := HBA.out
      rcases hk with h | h | h | h | h
      · exact Or.inr (by omega)
      · exact Or.inr (by omega)
      · exact Or.inr (by omega)
      · exact Or.inr (by omega)
      · exact Or.inl (show AskR BA BL (.slice ad m cap) k from .inr (.inr h))) HX.out HJ.out HJX.out (by rw [← HXS.out]; exact HY.out) H0.out).mono ?_
    rintro e W4 ⟨⟨v4, rfl⟩, h4⟩
    rw [← HXS.out] at h4
    have H4 := Lw.hid h4
    clear h4
    go_wp2_with fail
    go_end0
    exact ⟨⟨_, rfl⟩, H4.out⟩
abbrev hve (h : Hv) : Array Value := #[.agg #[u32v h.id, u32v h.out, u32v h.er, .bool h.st]]
theorem take_true {p : Hv → Bool} {l : List Hv} {k : Nat} (hk : k < l.length) (h : p l[k] = true) : (l.take (k + 1)).filter p = (l.take k).filter p ++ [l[k]] := by
  rw [take_snoc l k hk, List.filter_append]; simp [h]
theorem take_false {p : Hv → Bool} {l : List Hv} {k : Nat} (hk : k < l.length) (h : p l[k] = false) : (l.take (k + 1)).filter p = (l.take k).filter p := by
  rw [take_snoc l k hk, List.filter_append]; simp [h]
set_option maxHeartbeats 4000000 in
theorem replay_iter (w : World) (BA BL nx last : Nat) (v : Value) (l : List Hv) (ha : AskAt w BA BL nx last v l) (hv : ∀ k, blk v k → k < w.heap.size) (hnx : nx < 4294967296) (hla : last < 4294967296) (hl9 : l.length ≤ 1000000) :
    Iter Try.prog 40 #[.pointer (some ⟨BA, 0, none⟩), .pointer (some ⟨BL, 0, none⟩)] hve (AskR BA BL v) (replayF nx last l) w := by
  intro y J Jx X W hW hX hJ hJx hY h0
  have HA := Lw.hid (ha.keeps hW)
  have HV : Hid (∀ k, blk v k → k < W.heap.size) := Lw.hid (fun k hk => Nat.lt_of_lt_of_le (hv k hk) hW.1)
  obtain ⟨ad, cap, rfl, hc1, hc2, hc3⟩ := HA.out.rd.shape
  have HC3 := Lw.hid hc3
  have a0 := heap_cell HA.out.ask 0; have a1 := heap_cell HA.out.ask 1; have b0 := heap_cell HA.out.la 0
  have HY := Lw.hid hY; have HJ := Lw.hid hJ; have HJX := Lw.hid hJx; have H0 := Lw.hid h0; have HX := Lw.hid hX; have HL9 := Lw.hid hl9
  obtain ⟨m, hm⟩ : ∃ m, l.length = m := ⟨_, rfl⟩
  have HM := Lw.hid hm
  rw [hm] at a0 a1 HV HA HY hc1 hl9
  clear hY hJ hJx h0 hW hX hv ha hm hc3
  refine (callsIn_wide (n := 0)).1 (callsIn_of_wp Try.func40 rfl trivial ?_)
  simp only [Try.ntmps40, List.size_toArray, List.length_cons, List.length_nil, Nat.reduceAdd, Nat.reduceSub, Array.replicate_succ, Array.replicate_zero, List.push_toArray, List.append_toArray, List.nil_append, List.cons_append]
  gi_wp2_with fail
  refine ⟨trivial, rfl, (callsIn_wide.2 (fits_any W _ l HA.out.rd nx last hnx hla HL9.out HV.out)).mono ?_⟩
  rintro e W1 ⟨rfl, k1⟩
  have HF := fits_ne (r := fitsF nx last l)
  cases hf : decide (fitsF nx last l = 0) with
  | false =>
    have hx : replayF nx last l = [] := by unfold replayF; rw [if_neg (by simpa using hf)]
    rw [hf] at HF
    gi_wp2_with fail
    refine bodyPost_ret (results_none rfl _ _ _) rfl ?_
    refine ⟨⟨_, rfl⟩, .inl ⟨X, fun k h => Nat.lt_of_lt_of_le (HX.out k h) k1.size, fun _ h => h, ?_⟩⟩
    rw [hx]
    exact HJ.out _ _ _ _ _ H0.out (k1.mono (fun _ _ h => h.elim)) (fun _ h => .inl h)
  | true =>
    have hz : fitsF nx last l = 0 := by simpa using hf
    have hx : replayF nx last l = l.filter fun h => decide (h.id ≤ last) := by unfold replayF; rw [if_pos hz]
    rw [hf] at HF
    have HXS := Lw.hid hx
    clear hz hx hf
    have c0 := k1.cell a0 (fun h => h); have c1 := k1.cell a1 (fun h => h)
    have HA1 := Lw.hid (HA.out.keptF k1)
    have HJ1 := Lw.hid (HJ.out _ X _ _ _ H0.out (k1.mono (fun _ _ h => h.elim)) (fun _ h => .inl h))
    have HX1 : Hid (∀ i, X i → i < W1.heap.size) := Lw.hid (fun i hi => Nat.lt_of_lt_of_le (HX.out i hi) k1.size)
    gi_wp2_with fail
    gi_loopw [13] (fun i wr => ∃ k : Nat, k ≤ m ∧ i = .int .i64 k ∧ J X ((l.take k).filter fun h => decide (h.id ≤ last)) wr ∧ Keeps (AskR BA BL (.slice ad m cap)) W1 wr ∧ (∀ i, X i → i < wr.heap.size)) (fun i _ => m - (intOf i).toNat)
    case atStart => exact ⟨0, Nat.zero_le _, rfl, HJ1.out, Keeps.refl _ _, HX1.out⟩
    case round =>
      obtain ⟨k, hk, rfl, hjs, hkp, hXr⟩ := hrel
      have HJS := Lw.hid hjs; have HKP := Lw.hid hkp; have HXR := Lw.hid hXr
      have HAr := Lw.hid (HA1.out.keeps hkp)
      have d0 := heap_cell HAr.out.la 0
      clear hjs hkp hXr
      by_cases hlt : k < m
      · have hlt' : k < l.length := by rw [HM.out]; exact hlt
        obtain ⟨a', cap', he, _, _, hcr⟩ := HAr.out.rd.shape
        cases he
        obtain ⟨g, off, rfl, q0, q1, q2, q3⟩ := hcr k hlt'
        clear hcr
        have HT1 := Lw.hid (fun h => take_true (p := fun h => decide (h.id ≤ last)) hlt' h)
        have HT0 := Lw.hid (fun h => take_false (p := fun h => decide (h.id ≤ last)) hlt' h)
        obtain ⟨t, ht⟩ : ∃ t, l[k] = t := ⟨_, rfl⟩
        rw [ht] at q0 q1 q2 q3 HT1 HT0
        have HT := Lw.hid ht
        clear ht
        have KX : Hid (Kept (fun _ => False) wr (wr.alloc (.cells #[u32v t.id, u32v t.out, u32v t.er, .bool t.st] 35))) := Lw.hid ((Kept.refl _ wr).alloc _)
        have d1 := KX.out.cell d0 (fun h => h)
        by_cases hle : t.id ≤ last
        · have hp : decide (t.id ≤ last) = true := by simpa using hle
          obtain ⟨fn, tmps, assign, body, hy, hR⟩ := HY.out X ((l.take k).filter fun h => decide (h.id ≤ last)) t _ (HJ.out _ X _ _ _ HJS.out (KX.out.mono (fun _ _ h => h.elim)) (fun _ h => .inl h)) (fun i hi => Nat.lt_of_lt_of_le (HXR.out i hi) KX.out.size) (by rw [← HT1.out hp, HXS.out]; exact filter_pre _ (List.take_prefix _ _))
          dsimp only [hve, Hv.v] at hy
          gi_wp2_with fail
          refine ⟨rfl, (roundAny hR).mono ?_⟩
          rintro e W3 (⟨rfl, hj3, hk3⟩ | ⟨rfl, hx3, hk3⟩)
          · gi_wp2_with fail
            go_roundw
            case rel => exact ⟨k + 1, hlt, by go_num, by rw [HT1.out hp]; exact hj3, (HKP.out.trans (KX.out.keeps (fun _ _ _ h => h))).trans (hk3.mono (fun i h => .inl h)), fun i hi => Nat.lt_of_lt_of_le (Nat.lt_of_lt_of_le (HXR.out i hi) KX.out.size) hk3.1⟩
            case measure => simp [intOf]; omega
          · gi_wp2_with fail
            refine bodyPost_ret (results_none rfl _ _ _) rfl ?_
            exact ⟨⟨_, rfl⟩, .inr ⟨X, _, fun i hi => Nat.lt_of_lt_of_le (Nat.lt_of_lt_of_le (HXR.out i hi) KX.out.size) hk3.1, fun _ h => h, by rw [← HT1.out hp, HXS.out]; exact filter_pre _ (List.take_prefix _ _), by simp, hx3⟩⟩
        · have hp : decide (t.id ≤ last) = false := by simpa using hle
          gi_wp2_with fail
          all_goals (try (refine ⟨fun _ h => (by cases h), ?_⟩; gi_wp2_with fail))
          all_goals go_roundw
          case rel => exact ⟨k + 1, hlt, by go_num, by rw [HT0.out hp]; exact HJ.out _ X _ _ _ HJS.out (KX.out.mono (fun _ _ h => h.elim)) (fun _ h => .inl h), HKP.out.trans (KX.out.keeps (fun _ _ _ h => h)), fun i hi => Nat.lt_of_lt_of_le (HXR.out i hi) KX.out.size⟩
          case measure => simp [intOf]; omega
      · obtain rfl : k = m := by omega
        gi_wp2_with fail
        go_end0
        refine ⟨⟨_, rfl⟩, .inl ⟨X, HXR.out, fun _ h => h, ?_⟩⟩
        rw [HXS.out]
        have := HJS.out
        rwa [List.take_of_length_le (by rw [HM.out]; exact Nat.le_refl _)] at this
end Go.Proofs.Ytbmfnepbdfnlaaa
