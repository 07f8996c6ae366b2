/- WordTells: the document's reader: its small methods. -/
import Derived.Test.YtifcgeanippepaaDoorM26
import Derived.Test.YtifcgeanippepaaDoorM25
namespace Go.Proofs.YtifcgeanippepaaDoor
open Go Go.RowKit Go.Lw
set_option maxRecDepth 100000
set_option linter.unusedVariables false
set_option linter.unusedSimpArgs false
attribute [local go_sem] BA_toList
/-- Block g is a reader: its text; its place; is a brace none? -/
def RdZ (w : World) (g : Nat) (S : List UInt8) (a : Nat) (b : Bool) : Prop := w.heap[g]? = some (.cells #[.string (BA S), .int .i64 (a : Int), .bool b] 142 (0, 0))
section
variable {w w' : World} {g a : Nat} {S : List UInt8} {b : Bool}
theorem RdZ.cells (h : RdZ w g S a b) :
    (w.cell? ⟨g, 0, none⟩ = some (.string (BA S)) ∧ w.cell? ⟨g, 1, none⟩ = some (.int .i64 (a : Int)) ∧ w.cell? ⟨g, 2, none⟩ = some (.bool b)) ∧ (w.frozen? ⟨g, 0, none⟩ = false ∧ w.frozen? ⟨g, 1, none⟩ = false ∧ w.frozen? ⟨g, 2, none⟩ = false) :=
  ⟨⟨heap_cell h 0, heap_cell h 1, heap_cell h 2⟩, heap_free h 0, heap_free h 1, heap_free h 2⟩
theorem RdZ.kept {K : Nat → Prop} (h : RdZ w g S a b) (k : Kept K w w') (hg : ¬ K g) : RdZ w' g S a b := k.heap h hg
theorem RdZ.lt (h : RdZ w g S a b) : g < w.heap.size := heap_lt h
theorem RdZ.at' (h : RdZ w g S a b) {A : Int} (c : Nat) (hA : A = (c : Int)) : RdZ (w.setCell ⟨g, 1, none⟩ (.int .i64 A)) g S c b := by subst hA; exact heap_set h 1 _
theorem RdZ.bad' (h : RdZ w g S a b) (c : Bool) : RdZ (w.setCell ⟨g, 2, none⟩ (.bool c)) g S a c := heap_set h 2 _
theorem RdZ.drewN (h : RdZ w g S a b) (n : Nat) : RdZ (w.drewN n) g S a b := h
end
theorem oddB_nat (c : UInt8) : (oddB c = true) ↔ (c.toNat = 36 ∨ c.toNat = 34 ∨ c.toNat = 92 ∨ c.toNat = 96) := by
  have e : ∀ k : UInt8, ((c == k) = true) ↔ c.toNat = k.toNat := fun k => by rw [beq_iff_eq, ← UInt8.toNat_inj]
  unfold oddB
  simp only [Bool.or_eq_true, e, or_assoc]
  rfl
theorem z_special (w : World) (c : UInt8) : Calls Tryd.prog 95 #[.int .u8 (c.toNat : Int)] w fun x w' => x = .returned (.bool (oddB c)) ∧ w' = w := by
  have hc := c.toNat_lt
  have HE := Lw.hid (oddB_nat c)
  go_enter Tryd.func95, Tryd.ntmps95
  go_wp2_with fail
  all_goals
    go_ret
    refine ⟨congrArg (fun b => Ending.returned (.bool b)) ?_, rfl⟩
    rw [Bool.eq_iff_iff, HE.out]
    (try simp only [beq_iff_eq, beq_eq_false_iff_ne, ne_eq, Bool.or_eq_true, Bool.or_eq_false_iff, Bool.and_eq_true, Bool.and_eq_false_iff, decide_eq_true_eq, decide_eq_false_iff_not, true_iff, false_iff] at *)
    omega
set_option maxHeartbeats 4000000 in
/-- at. -/
theorem z_at (w : World) (g : Nat) (S : List UInt8) (a : Nat) (b : Bool) (h : RdZ w g S a b) (hS9 : S.length ≤ 1000000) (ha : a ≤ 2000000) (p : List UInt8) (hp1 : 1 ≤ p.length) (hp : p.length ≤ 10) (c : Bool) (hc : ((S.drop a).take p.length == p) = c) :
    Calls Tryd.prog 133 #[.pointer (some ⟨g, 0, none⟩), .string (BA p)] w fun x w' => x = .returned (.bool c) ∧ ∃ n, w' = w.drewN n := by
  obtain ⟨⟨c0, c1, c2⟩, f0, f1, f2⟩ := h.cells
  have hs := BA_size S
  have hpz := BA_size p
  obtain ⟨N, hN⟩ : ∃ N, S.length = N := ⟨_, rfl⟩
  obtain ⟨n, hn⟩ : ∃ n, p.length = n := ⟨_, rfl⟩
  have HC := Lw.hid hc
  rw [hn] at HC hp1 hp hpz
  rw [hN] at hs hS9
  by_cases hle : a + n ≤ N
  · have hx : (BA S).extract a (a + n) = BA ((S.drop a).take n) := by
      rw [BA_extract, List.drop_take, Nat.add_sub_cancel_left]
    obtain ⟨t, ht⟩ : ∃ t, (S.drop a).take n = t := ⟨_, rfl⟩
    rw [ht] at hx HC
    have hb : (t == p) = c := HC.out
    have hge : decide ((N : Int) - (a : Int) ≥ (n : Int)) = true := decide_eq_true (by omega)
    have hex2 : (BA S).extract a (a + n) = BA t := hx
    clear h hc hN hn ht HC
    go_enter Tryd.func133, Tryd.ntmps133
    go_wp2_with fail
    go_quiet (fail)
    go_wp2_with fail
    all_goals
      go_ret
      refine ⟨?_, _, rfl⟩
      first | rfl | (show Ending.returned (.bool (t == p)) = _; rw [hb])
  · have hf : c = false := by
      rw [← HC.out, beq_eq_false_iff_ne]
      intro e
      have := congrArg List.length e
      rw [List.length_take, List.length_drop, hn, hN] at this
      omega
    subst hf
    have hge : decide ((N : Int) - (a : Int) ≥ (n : Int)) = false := decide_eq_false (by omega)
    clear h hc hN hn HC
    go_enter Tryd.func133, Tryd.ntmps133
    go_wp2_with fail
    go_quiet (fail)
    go_wp2_with fail
    all_goals
      go_ret
      exact ⟨rfl, _, rfl⟩
set_option maxHeartbeats 8000000 in
/-- name. -/
theorem z_name (w : World) (g : Nat) (S : List UInt8) (a : Nat) (b : Bool) (h : RdZ w g S a b) (hS9 : S.length ≤ 1000000) (ha : a ≤ S.length) :
    Calls Tryd.prog 135 #[.pointer (some ⟨g, 0, none⟩)] w fun x w' => x = .returned (.string (BA (nameT (S.drop a)))) ∧ RdZ w' g S (a + (nameT (S.drop a)).length) b ∧ K1 g w w' := by
  obtain ⟨⟨c0, c1, c2⟩, f0, f1, f2⟩ := h.cells
  have H := Lw.hid h
  have hs := BA_size S
  obtain ⟨r, hr⟩ : ∃ r, S.drop a = r := ⟨_, rfl⟩
  have hrl : r.length = S.length - a := by rw [← hr, List.length_drop]
  obtain ⟨N, hN⟩ : ∃ N, S.length = N := ⟨_, rfl⟩
  have HN := Lw.hid hN; have HR := Lw.hid hr
  obtain ⟨M, hM⟩ : ∃ M, (nameT r).length = M := ⟨_, rfl⟩
  have HM := Lw.hid hM
  have hMr : a + M ≤ N := by have := (nameT_len r).2; omega
  rw [hr]
  rw [hN] at hs hS9 ha hrl
  have HRL := Lw.hid hrl
  rw [hM]
  clear h hN hM hr hrl
  go_enter Tryd.func135, Tryd.ntmps135
  go_wp2_with fail
  clear c0 c1 c2 f0 f1 f2
  go_loopg [] (M + 1) (fun gk wx => ∃ m : Nat, gk = M + 1 - m ∧ m ≤ M ∧ RdZ wx g S (a + m) b ∧ K1 g w wx)
  case atStart => exact ⟨0, rfl, Nat.zero_le _, H.out, K1.refl g w⟩
  case round =>
    obtain ⟨m, rfl, hm, hz, hk⟩ := hrel
    obtain ⟨⟨c0, c1, c2⟩, f0, f1, f2⟩ := hz.cells
    have HZ := Lw.hid hz; have HK := Lw.hid hk
    clear hz hk
    have eX : (BA S).extract a (a + m) = BA (r.take m) := by rw [BA_extract, List.drop_take, Nat.add_sub_cancel_left, HR.out]
    have fin : m = M → Hid (r.take m = nameT r) := fun e => Lw.hid (by rw [e, ← HM.out, nameT_take])
    by_cases hlt : a + m < N
    · have hdl : decide ((a : Int) + (m : Int) < (N : Int)) = true := decide_eq_true (by omega)
      have eX1 : (BA S).extract a (a + m + 1) = BA (r.take (m + 1)) := by rw [BA_extract, List.drop_take, show a + m + 1 - a = m + 1 by omega, HR.out]
      have hlen : (r.take (m + 1)).length ≤ 1000000 := by rw [List.length_take]; have := HRL.out; omega
      have HS := Lw.hid (nameT_step (s := r) (m := m) (by have := HRL.out; omega) (by rw [HM.out]; exact hm))
      rw [HM.out] at HS
      have HC := Lw.hid (fun wx => t16_name wx (r.take (m + 1)) hlen)
      clear hlen
      by_cases hx : m < M
      · have hd : decide (m < M) = true := decide_eq_true hx
        rw [hd] at HS
        rw [HS.out] at HC
        clear fin
        go_wp2_with fail
        go_quiet (first | (go_at_call 138; exact Calls.quiet_of_same (HC.out _)) | (go_at_call 138; exact quiet_add_same (HC.out _)))
        go_wp2_with fail
        go_roundg (M + 1 - (m + 1))
        case measure => omega
        case rel => exact ⟨m + 1, rfl, hx, by exact RdZ.at' (by exact HZ.out) _ (by omega), by exact K1.set (HK.out.then (K1.drewN g wr _)) _⟩
      · have hd : decide (m < M) = false := decide_eq_false hx
        obtain rfl : m = M := by omega
        have FIN := fin rfl
        rw [hd] at HS
        rw [HS.out] at HC
        rw [FIN.out] at eX
        clear fin
        go_wp2_with fail
        go_quiet (first | (go_at_call 138; exact Calls.quiet_of_same (HC.out _)) | (go_at_call 138; exact quiet_add_same (HC.out _)))
        go_wp2_with fail
        go_quiet (fail)
        go_wp2_with fail
        go_ret
        exact ⟨by first | rfl | (show Ending.returned (.string ((BA S).extract a (a + m))) = _; rw [eX]), by exact HZ.out, by first | exact HK.out.then (K1.drewN g wr _) | exact (HK.out.then (K1.drewN g wr _)).then (K1.drewN g _ _)⟩
    · obtain rfl : m = M := by omega
      have hdl : decide ((a : Int) + (m : Int) < (N : Int)) = false := decide_eq_false (by omega)
      have FIN := fin rfl
      rw [FIN.out] at eX
      clear fin
      go_wp2_with fail
      go_quiet (fail)
      go_wp2_with fail
      go_quiet (fail)
      go_wp2_with fail
      go_ret
      exact ⟨by first | rfl | (show Ending.returned (.string ((BA S).extract a (a + m))) = _; rw [eX]), by exact HZ.out, by first | exact HK.out.then (K1.drewN g wr _) | exact (HK.out.then (K1.drewN g wr _)).then (K1.drewN g _ _)⟩
theorem k1d2 (g : Nat) (w : World) (a b : Nat) : K1 g w ((w.drewN a).drewN b) := (K1.drewN g w a).then (K1.drewN g _ b)
theorem k1d3 (g : Nat) (w : World) (a b c : Nat) : K1 g w (((w.drewN a).drewN b).drewN c) := (k1d2 g w a b).then (K1.drewN g _ c)
theorem k1d4 (g : Nat) (w : World) (a b c d : Nat) : K1 g w ((((w.drewN a).drewN b).drewN c).drewN d) := (k1d3 g w a b c).then (K1.drewN g _ d)
/-- What arith tells. -/
def ArZPost (g : Nat) (S : List UInt8) (a : Nat) (b : Bool) (x : Ending) (w' : World) : Prop := match arN 0 (S.drop a) with
  | some y => x = .returned (.string (BA y.1)) ∧ ∃ a', a ≤ a' ∧ a' ≤ S.length ∧ S.drop a' = y.2 ∧ RdZ w' g S a' b
  | none => ∃ a', x = .returned (.string (BA [])) ∧ a' ≤ S.length ∧ RdZ w' g S a' true
theorem az_some {g a : Nat} {S : List UInt8} {b : Bool} {x : Ending} {w' : World} {y : List UInt8 × List UInt8} (h : arN 0 (S.drop a) = some y) (hx : x = .returned (.string (BA y.1))) {a' : Nat} (h1 : a ≤ a') (h2 : a' ≤ S.length) (h3 : S.drop a' = y.2) (hr : RdZ w' g S a' b) : ArZPost g S a b x w' := by
  unfold ArZPost; rw [h]; exact ⟨hx, a', h1, h2, h3, hr⟩
theorem az_none {g a : Nat} {S : List UInt8} {b : Bool} {x : Ending} {w' : World} (h : arN 0 (S.drop a) = none) (hx : x = .returned (.string (BA []))) {a' : Nat} (h2 : a' ≤ S.length) (hr : RdZ w' g S a' true) : ArZPost g S a b x w' := by
  unfold ArZPost; rw [h]; exact ⟨a', hx, h2, hr⟩
theorem arN_end {r : List UInt8} (h : (r.take 2 == [41, 41]) = true) : arN 0 r = some ([], r.drop 2) := by
  have h' : r.take 2 = [41, 41] := by simpa using h
  cases r with
  | nil => simp at h'
  | cons c r =>
    unfold arN
    rw [if_pos ⟨rfl, h'⟩]; rfl
theorem arN_step {o : Int} {c : UInt8} {r : List UInt8} (h : ¬ (o = 0 ∧ (c :: r).take 2 = [41, 41])) : arN o (c :: r) = (arN (if c = 40 then o + 1 else if c = 41 then o - 1 else o) r).map (fun x => (c :: x.1, x.2)) := by
  conv => lhs; unfold arN
  rw [if_neg h]
set_option maxHeartbeats 16000000 in
/-- arith. -/
theorem z_arith (w : World) (g : Nat) (S : List UInt8) (a : Nat) (b : Bool) (h : RdZ w g S a b) (hS9 : S.length ≤ 1000000) (ha : a ≤ S.length) :
    Calls Tryd.prog 134 #[.pointer (some ⟨g, 0, none⟩)] w fun x w' => ArZPost g S a b x w' ∧ K1 g w w' := by
  obtain ⟨⟨c0, c1, c2⟩, f0, f1, f2⟩ := h.cells
  have H := Lw.hid h
  have hs := BA_size S
  obtain ⟨R0, hR0⟩ : ∃ R0, arN 0 (S.drop a) = R0 := ⟨_, rfl⟩
  have HR0 := Lw.hid hR0
  have HR1 : Hid ((arN 0 (S.drop (a + 0))).map (fun x => ((S.drop a).take 0 ++ x.1, x.2)) = R0) := Lw.hid (by rw [Nat.add_zero, hR0]; cases R0 <;> rfl)
  obtain ⟨N, hN⟩ : ∃ N, S.length = N := ⟨_, rfl⟩
  have HN := Lw.hid hN
  rw [hN] at hs hS9 ha
  clear h hN hR0
  go_enter Tryd.func134, Tryd.ntmps134
  go_wp2_with fail
  clear c0 c1 c2 f0 f1 f2
  go_loopg [4] (N - a) (fun gk s3 wx => ∃ (k : Nat) (o : Int), gk = N - (a + k) ∧ a + k ≤ N ∧ -(k : Int) ≤ o ∧ o ≤ (k : Int) ∧ s3 = .int .i64 o ∧ (arN o (S.drop (a + k))).map (fun x => ((S.drop a).take k ++ x.1, x.2)) = R0 ∧ RdZ wx g S (a + k) b ∧ K1 g w wx)
  case atStart => exact ⟨0, 0, rfl, ha, by decide, by decide, rfl, HR1.out, H.out, K1.refl g w⟩
  case round =>
    obtain ⟨k, o, rfl, hk, ho1, ho2, rfl, hR, hz, hkk⟩ := hrel
    obtain ⟨⟨c0, c1, c2⟩, f0, f1, f2⟩ := hz.cells
    have HR := Lw.hid hR; have HZ := Lw.hid hz; have HK := Lw.hid hkk
    have hgl : g < wr.heap.size := hz.lt
    clear hR HR1 hz hkk
    by_cases hlt : a + k < N
    · obtain ⟨c, r, hcr⟩ : ∃ c r, S.drop (a + k) = c :: r := by
        cases h : S.drop (a + k) with
        | nil => have := congrArg List.length h; rw [List.length_drop, HN.out] at this; simp at this; omega
        | cons c r => exact ⟨c, r, rfl⟩
      have HAT := Lw.hid (fun wx (hz : RdZ wx g S (a + k) b) (p : List UInt8) (h1 : 1 ≤ p.length) (h2 : p.length ≤ 10) (c : Bool) (hc : ((S.drop (a + k)).take p.length == p) = c) => z_at wx g S (a + k) b hz (by rw [HN.out]; exact hS9) (by omega) p h1 h2 c hc)
      rw [hcr] at HAT HR
      have hd2 : S.drop (a + (k + 1)) = r := by rw [← Nat.add_assoc, ← List.drop_drop, hcr]; rfl
      have hgk : (S.drop a).take (k + 1) = (S.drop a).take k ++ [c] := by
        have h5 : k < (S.drop a).length := by rw [List.length_drop, HN.out]; omega
        rw [take_snoc _ k h5]
        congr 2
        have h6 : (S.drop a).drop k = c :: r := by rw [List.drop_drop, hcr]
        rw [List.drop_eq_getElem_cons h5] at h6
        exact (List.cons.inj h6).1
      have HD2 := Lw.hid hd2; have HGK := Lw.hid hgk; have HCR := Lw.hid hcr
      have HATA := fun (p : List UInt8) (h1 : 1 ≤ p.length) (h2 : p.length ≤ 10) (t : Bool) (hc : ((c :: r).take p.length == p) = t) => Lw.hid (fun wx (hz : RdZ wx g S (a + k) b) => HAT.out wx hz p h1 h2 t hc)
      clear hd2 hgk hcr HAT
      have eX : (BA S).extract a (a + k) = BA ((S.drop a).take k) := by rw [BA_extract, List.drop_take, Nat.add_sub_cancel_left]
      by_cases hA : o = 0 ∧ (c :: r).take 2 = [41, 41]
      · obtain ⟨rfl, h2⟩ := hA
        have h2b : ((c :: r).take 2 == [41, 41]) = true := by simpa using h2
        have HT := HATA [41, 41] (by decide) (by decide) true h2b
        have HE : Hid (arN 0 (S.drop a) = some ((S.drop a).take k, (c :: r).drop 2)) := Lw.hid (by
          rw [HR0.out, ← HR.out, arN_end h2b]
          simp)
        have h3 : a + k + 2 ≤ N := by
          have h5 := congrArg List.length h2
          rw [List.length_take, ← HCR.out, List.length_drop, HN.out] at h5
          simp at h5; omega
        have HD3 : Hid (S.drop (a + k + 2) = (c :: r).drop 2) := Lw.hid (by rw [← HCR.out, List.drop_drop])
        clear h2 h2b HATA
        go_wp2_with fail
        go_quiet (fail)
        go_wp2_with fail
        refine (HT.out _ (by exact HZ.out)).mono ?_
        rintro x _ ⟨rfl, n1, rfl⟩
        go_wp2_with fail
        go_quiet (fail)
        go_wp2_with fail
        go_ret
        exact ⟨az_some HE.out (by first | rfl | (show Ending.returned (.string ((BA S).extract a (a + k))) = _; rw [eX])) (a' := a + k + 2) (by omega) (by rw [HN.out]; exact h3) HD3.out (by exact RdZ.at' (by exact HZ.out) _ (by omega)), by exact (K1.set (HK.out.then (K1.drewN g wr _)) _).then (K1.drewN g _ _)⟩
      · have HSTEP : Hid ((arN (if c = 40 then o + 1 else if c = 41 then o - 1 else o) (S.drop (a + (k + 1)))).map (fun x => ((S.drop a).take (k + 1) ++ x.1, x.2)) = R0) := Lw.hid (by
          rw [HD2.out, ← HR.out, arN_step hA, HGK.out]
          cases arN (if c = 40 then o + 1 else if c = 41 then o - 1 else o) r <;> simp)
        have HT2 : Hid (o = 0 → ∀ wx, RdZ wx g S (a + k) b → Calls Tryd.prog 133 #[.pointer (some ⟨g, 0, none⟩), .string (BA [41, 41])] wx fun x w' => x = .returned (.bool false) ∧ ∃ n', w' = wx.drewN n') := Lw.hid (fun ho wx hz => (HATA [41, 41] (by decide) (by decide) false (by rw [beq_eq_false_iff_ne]; exact fun e => hA ⟨ho, e⟩)).out wx hz)
        clear hA
        have nxt : ∀ o', (if c = 40 then o + 1 else if c = 41 then o - 1 else o) = o' → Hid ((arN o' (S.drop (a + (k + 1)))).map (fun x => ((S.drop a).take (k + 1) ++ x.1, x.2)) = R0) := fun o' e => Lw.hid (by rw [← e]; exact HSTEP.out)
        by_cases h40 : c = 40
        · have H40 := HATA [40] (by decide) (by decide) true (by rw [h40]; rfl)
          have H41 := HATA [41] (by decide) (by decide) false (by rw [h40]; rfl)
          have HNX := nxt (o + 1) (if_pos h40)
          by_cases hoz : o = 0
          · have bo : (o == 0) = true := by rw [hoz]; rfl
            have HT := Lw.hid (HT2.out hoz)
            clear HATA hoz HT2 nxt HSTEP h40
            go_wp2_with fail
            go_quiet (fail)
            go_wp2_with fail
            refine (HT.out _ (by exact HZ.out)).mono ?_
            rintro x _ ⟨rfl, n0, rfl⟩
            go_wp2_with fail
            refine (H40.out _ (by exact HZ.out)).mono ?_
            rintro x _ ⟨rfl, n1, rfl⟩
            go_wp2_with fail
            refine (H41.out _ (by exact HZ.out)).mono ?_
            rintro x _ ⟨rfl, n2, rfl⟩
            go_wp2_with fail
            go_roundg (N - (a + (k + 1)))
            case measure => omega
            case rel => exact ⟨k + 1, o + 1, rfl, by omega, by omega, by omega, by first | rfl | go_num, HNX.out, by exact RdZ.at' (by exact HZ.out) _ (by omega), by exact K1.set (HK.out.then (K1.drewN g wr _)) _⟩
          · have bo : (o == 0) = false := by rw [beq_eq_false_iff_ne]; exact hoz
            clear HATA hoz HT2 nxt HSTEP h40
            go_wp2_with fail
            go_quiet (fail)
            go_wp2_with fail
            refine (H40.out _ (by exact HZ.out)).mono ?_
            rintro x _ ⟨rfl, n1, rfl⟩
            go_wp2_with fail
            refine (H41.out _ (by exact HZ.out)).mono ?_
            rintro x _ ⟨rfl, n2, rfl⟩
            go_wp2_with fail
            go_roundg (N - (a + (k + 1)))
            case measure => omega
            case rel => exact ⟨k + 1, o + 1, rfl, by omega, by omega, by omega, by first | rfl | go_num, HNX.out, by exact RdZ.at' (by exact HZ.out) _ (by omega), by exact K1.set (HK.out.then (K1.drewN g wr _)) _⟩
        by_cases h41 : c = 41
        · have H40 := HATA [40] (by decide) (by decide) false (by rw [h41]; rfl)
          have H41 := HATA [41] (by decide) (by decide) true (by rw [h41]; rfl)
          have HNX := nxt (o - 1) (by rw [if_neg h40, if_pos h41])
          by_cases hoz : o = 0
          · have bo : (o == 0) = true := by rw [hoz]; rfl
            have HT := Lw.hid (HT2.out hoz)
            clear HATA hoz HT2 nxt HSTEP h40
            go_wp2_with fail
            go_quiet (fail)
            go_wp2_with fail
            refine (HT.out _ (by exact HZ.out)).mono ?_
            rintro x _ ⟨rfl, n0, rfl⟩
            go_wp2_with fail
            refine (H40.out _ (by exact HZ.out)).mono ?_
            rintro x _ ⟨rfl, n1, rfl⟩
            go_wp2_with fail
            refine (H41.out _ (by exact HZ.out)).mono ?_
            rintro x _ ⟨rfl, n2, rfl⟩
            go_wp2_with fail
            go_roundg (N - (a + (k + 1)))
            case measure => omega
            case rel => exact ⟨k + 1, o - 1, rfl, by omega, by omega, by omega, by first | rfl | go_num, HNX.out, by exact RdZ.at' (by exact HZ.out) _ (by omega), by exact K1.set (HK.out.then (K1.drewN g wr _)) _⟩
          · have bo : (o == 0) = false := by rw [beq_eq_false_iff_ne]; exact hoz
            clear HATA hoz HT2 nxt HSTEP h40
            go_wp2_with fail
            go_quiet (fail)
            go_wp2_with fail
            refine (H40.out _ (by exact HZ.out)).mono ?_
            rintro x _ ⟨rfl, n1, rfl⟩
            go_wp2_with fail
            refine (H41.out _ (by exact HZ.out)).mono ?_
            rintro x _ ⟨rfl, n2, rfl⟩
            go_wp2_with fail
            go_roundg (N - (a + (k + 1)))
            case measure => omega
            case rel => exact ⟨k + 1, o - 1, rfl, by omega, by omega, by omega, by first | rfl | go_num, HNX.out, by exact RdZ.at' (by exact HZ.out) _ (by omega), by exact K1.set (HK.out.then (K1.drewN g wr _)) _⟩
        have H40 := HATA [40] (by decide) (by decide) false (by rw [beq_eq_false_iff_ne]; intro e; exact h40 (List.cons.inj (show (c :: r.take 0 : List UInt8) = [40] from e)).1)
        have H41 := HATA [41] (by decide) (by decide) false (by rw [beq_eq_false_iff_ne]; intro e; exact h41 (List.cons.inj (show (c :: r.take 0 : List UInt8) = [41] from e)).1)
        have HNX := nxt o (by rw [if_neg h40, if_neg h41])
        by_cases hoz : o = 0
        · have bo : (o == 0) = true := by rw [hoz]; rfl
          have HT := Lw.hid (HT2.out hoz)
          clear HATA hoz HT2 nxt HSTEP h40
          go_wp2_with fail
          go_quiet (fail)
          go_wp2_with fail
          refine (HT.out _ (by exact HZ.out)).mono ?_
          rintro x _ ⟨rfl, n0, rfl⟩
          go_wp2_with fail
          refine (H40.out _ (by exact HZ.out)).mono ?_
          rintro x _ ⟨rfl, n1, rfl⟩
          go_wp2_with fail
          refine (H41.out _ (by exact HZ.out)).mono ?_
          rintro x _ ⟨rfl, n2, rfl⟩
          go_wp2_with fail
          go_roundg (N - (a + (k + 1)))
          case measure => omega
          case rel => exact ⟨k + 1, o, rfl, by omega, by omega, by omega, by first | rfl | go_num, HNX.out, by exact RdZ.at' (by exact HZ.out) _ (by omega), by exact K1.set (HK.out.then (K1.drewN g wr _)) _⟩
        · have bo : (o == 0) = false := by rw [beq_eq_false_iff_ne]; exact hoz
          clear HATA hoz HT2 nxt HSTEP h40
          go_wp2_with fail
          go_quiet (fail)
          go_wp2_with fail
          refine (H40.out _ (by exact HZ.out)).mono ?_
          rintro x _ ⟨rfl, n1, rfl⟩
          go_wp2_with fail
          refine (H41.out _ (by exact HZ.out)).mono ?_
          rintro x _ ⟨rfl, n2, rfl⟩
          go_wp2_with fail
          go_roundg (N - (a + (k + 1)))
          case measure => omega
          case rel => exact ⟨k + 1, o, rfl, by omega, by omega, by omega, by first | rfl | go_num, HNX.out, by exact RdZ.at' (by exact HZ.out) _ (by omega), by exact K1.set (HK.out.then (K1.drewN g wr _)) _⟩
    · have hke : a + k = N := by omega
      have HE : Hid (arN 0 (S.drop a) = none) := Lw.hid (by
        rw [HR0.out, ← HR.out]
        have : S.drop (a + k) = [] := List.drop_eq_nil_of_le (by rw [HN.out]; omega)
        rw [this]
        unfold arN; rfl)
      go_wp2_with fail
      go_quiet (fail)
      go_wp2_with fail
      go_ret
      exact ⟨az_none HE.out rfl (a' := a + k) (by rw [HN.out]; omega) (RdZ.bad' (w := wr.drewN _) HZ.out true), (HK.out.then (K1.drewN g wr _)).set _⟩
theorem tw_in {f : UInt8 → Bool} : ∀ {r : List UInt8} {m : Nat}, m < (r.takeWhile f).length → ∃ c, r[m]? = some c ∧ f c = true
  | [], m, h => by simp at h
  | c :: r, m, h => by
    rw [List.takeWhile_cons] at h
    split at h
    · rename_i hc
      cases m with
      | zero => exact ⟨c, rfl, hc⟩
      | succ m => exact tw_in (r := r) (by simpa using h)
    · simp at h
theorem tw_out {f : UInt8 → Bool} : ∀ {r : List UInt8}, r.length = (r.takeWhile f).length ∨ ∃ c, r[(r.takeWhile f).length]? = some c ∧ f c = false
  | [] => .inl rfl
  | c :: r => by
    rw [List.takeWhile_cons]
    by_cases hc : f c = true
    · rw [if_pos hc]
      rcases tw_out (f := f) (r := r) with h | ⟨d, h1, h2⟩
      · left; simp only [List.length_cons]; omega
      · right; exact ⟨d, by simpa using h1, h2⟩
    · rw [if_neg hc]
      right
      exact ⟨c, rfl, by simpa using hc⟩
set_option maxHeartbeats 8000000 in
/-- single. -/
theorem z_single (w : World) (g : Nat) (S : List UInt8) (a : Nat) (b : Bool) (h : RdZ w g S a b) (hS9 : S.length ≤ 1000000) (r : List UInt8) (hr : S.drop a = 39 :: r) :
    Calls Tryd.prog 119 #[.pointer (some ⟨g, 0, none⟩)] w fun x w' => x = .returned (.string (BA (cutR 39 r).1)) ∧ RdZ w' g S (a + 1 + (cutR 39 r).1.length + 1) b ∧ S.drop (a + 1 + (cutR 39 r).1.length + 1) = (cutR 39 r).2 ∧ K1 g w w' := by
  obtain ⟨⟨c0, c1, c2⟩, f0, f1, f2⟩ := h.cells
  have H := Lw.hid h
  have hs := BA_size S
  have hlen : a + 1 + r.length = S.length := by
    have h1 := congrArg List.length hr
    rw [List.length_drop, List.length_cons] at h1
    omega
  have hd1 : S.drop (a + 1) = r := by rw [← List.drop_drop, hr]; rfl
  have HCUT : Hid (S.drop (a + 1 + (cutR 39 r).1.length + 1) = (cutR 39 r).2) := Lw.hid (by
    show S.drop (a + 1 + (r.takeWhile (· != 39)).length + 1) = (r.dropWhile (· != 39)).drop 1
    rw [Nat.add_assoc, ← List.drop_drop, hd1, ← List.drop_drop, drop_takeWhile])
  obtain ⟨M, hM⟩ : ∃ M, (r.takeWhile (· != 39)).length = M := ⟨_, rfl⟩
  have HIN : Hid (∀ m, m < M → ∃ c, r[m]? = some c ∧ (c != 39) = true) := Lw.hid (fun m h => tw_in (by rw [hM]; exact h))
  have HOUT : Hid (r.length = M ∨ ∃ c, r[M]? = some c ∧ (c != 39) = false) := Lw.hid (by have := tw_out (f := (· != (39 : UInt8))) (r := r); rw [hM] at this; exact this)
  have HTW : Hid ((cutR 39 r).1 = r.take M) := Lw.hid (by
    show r.takeWhile (· != 39) = _
    rw [← hM]; exact takeWhile_take _ _)
  have hML : M ≤ r.length := by rw [← hM]; have := takeWhile_len (fun c : UInt8 => c != 39) r; omega
  have HML : Hid ((cutR 39 r).1.length = M) := Lw.hid hM
  obtain ⟨N, hN⟩ : ∃ N, S.length = N := ⟨_, rfl⟩
  have HN := Lw.hid hN
  rw [hN] at hs hS9 hlen
  obtain ⟨L, hL⟩ : ∃ L, r.length = L := ⟨_, rfl⟩
  rw [hL] at hlen hML HOUT
  have HD1 := Lw.hid hd1
  clear h hr hd1 hM hN hL
  go_enter Tryd.func119, Tryd.ntmps119
  go_wp2_with fail
  clear c0 c1 c2 f0 f1 f2
  obtain ⟨f, hf⟩ : ∃ f, a + 1 = f := ⟨_, rfl⟩
  have HF := Lw.hid hf
  have hfN : f ≤ N := by omega
  have e9 : ((a : Int) + 1) = (f : Int) := by omega
  rw [e9]
  clear hf e9
  have HZ0 : Hid (RdZ (w.setCell ⟨g, 1, none⟩ (.int .i64 (f : Int))) g S (a + 1) b) := Lw.hid (H.out.at' _ (by have := HF.out; omega))
  go_loopg [] (M + 1) (fun gk wx => ∃ m e : Nat, gk = M + 1 - m ∧ m ≤ M ∧ e = a + 1 + m ∧ RdZ wx g S e b ∧ K1 g w wx)
  case atStart => exact ⟨0, a + 1, rfl, Nat.zero_le _, rfl, HZ0.out, (K1.refl g w).set _⟩
  case round =>
    obtain ⟨m, e, rfl, hm, he, hz, hk⟩ := hrel
    obtain ⟨⟨c0, c1, c2⟩, f0, f1, f2⟩ := hz.cells
    have HZ := Lw.hid hz; have HK := Lw.hid hk; have HEE := Lw.hid he
    have hea : f ≤ e := by have := HF.out; omega
    have heN : e ≤ N := by omega
    have hgl : g < wr.heap.size := hz.lt
    clear hz hk HZ0
    have eX : (BA S).extract f e = BA (r.take m) := by rw [← HF.out, he, BA_extract, List.drop_take, Nat.add_sub_cancel_left, HD1.out]
    by_cases hx : m < M
    · obtain ⟨c, hc, hne⟩ := HIN.out m hx
      have g0 := BA_get (l := S) (k := e) (c := c) (by rw [he, ← List.getElem?_drop, HD1.out]; exact hc)
      have hb : ((c.toNat : Int) != 39) = true := by
        have h1 : ¬ c = 39 := by simpa using hne
        have := u8ne (k := 39) rfl h1
        simpa using this
      have hlt : e < N := by omega
      have hdl : decide (e < N) = true := decide_eq_true hlt
      clear hc hne he
      go_wp2_with fail
      go_quiet (fail)
      go_wp2_with fail
      go_roundg (M + 1 - (m + 1))
      case measure => omega
      case rel => exact ⟨m + 1, e + 1, rfl, hx, by have := HEE.out; omega, by exact RdZ.at' (by exact HZ.out) _ (by omega), by exact K1.set (HK.out.then (K1.drewN g wr _)) _⟩
    · obtain rfl : m = M := by omega
      rw [← HTW.out] at eX
      have HFIN : Hid (∀ n1 A, A = ((e + 1 : Nat) : Int) → RdZ ((wr.drewN n1).setCell ⟨g, 1, none⟩ (.int .i64 A)) g S (a + 1 + (cutR 39 r).1.length + 1) b) := Lw.hid (fun n1 A hA => by rw [HML.out, ← HEE.out]; exact RdZ.at' (w := wr.drewN n1) HZ.out _ hA)
      rcases HOUT.out with hle | ⟨c, hc, hne⟩
      · have hge : N ≤ e := by omega
        have hdl : decide (e < N) = false := decide_eq_false (by omega)
        clear he
        go_wp2_with fail
        go_quiet (fail)
        go_wp2_with fail
        go_quiet (fail)
        go_wp2_with fail
        go_ret
        exact ⟨by first | rfl | (show Ending.returned (.string ((BA S).extract f e)) = _; rw [eX]), HFIN.out _ _ (by omega), HCUT.out, by exact K1.set (HK.out.then (K1.drewN g wr _)) _⟩
      · have g0 := BA_get (l := S) (k := e) (c := c) (by rw [he, ← List.getElem?_drop, HD1.out]; exact hc)
        have hlt : e < N := by
          have h5 := (List.getElem?_eq_some_iff.1 hc).1
          have h6 := congrArg List.length HD1.out
          rw [List.length_drop, HN.out] at h6
          omega
        have hb : ((c.toNat : Int) != 39) = false := by
          have h1 : c = 39 := by simpa using hne
          rw [h1]; rfl
        have hdl : decide (e < N) = true := decide_eq_true hlt
        clear hc hne he
        go_wp2_with fail
        go_quiet (fail)
        go_wp2_with fail
        go_quiet (fail)
        go_wp2_with fail
        go_ret
        exact ⟨by first | rfl | (show Ending.returned (.string ((BA S).extract f e)) = _; rw [eX]), HFIN.out _ _ (by omega), HCUT.out, by exact K1.set (HK.out.then (K1.drewN g wr _)) _⟩
def escZ (l : List UInt8) : List UInt8 := l.flatMap fun c => if oddB c then [92, c] else [c]
theorem escZ_next {k : Nat} {p : List UInt8} {c : UInt8} (h : p[k]? = some c) : escZ (p.take (k + 1)) = escZ (p.take k) ++ (if oddB c then [92, c] else [c]) := by
  unfold escZ; rw [List.take_add_one, h, List.flatMap_append]; simp
theorem escZ_len (s : List UInt8) : (escZ s).length ≤ 2 * s.length := by
  induction s with
  | nil => exact Nat.le_refl _
  | cons c s ih =>
    show ((if oddB c then [92, c] else [c]) ++ escZ s).length ≤ _
    rw [List.length_append, List.length_cons]
    split <;> (simp; omega)
theorem has_next {k : Nat} {p : List UInt8} {c : UInt8} (h : p[k]? = some c) : (p.take (k + 1)).contains 39 = ((p.take k).contains 39 || (39 == c)) := by
  rw [List.take_add_one, h]
  simp only [Option.toList_some, List.contains_eq_mem, List.mem_append, List.mem_singleton]
  by_cases h1 : 39 ∈ List.take k p <;> by_cases h2 : (39 : UInt8) = c <;> simp [h1, h2]
set_option maxHeartbeats 8000000 in
/-- quote. -/
theorem z_quote (w : World) (s : List UInt8) (hs9 : s.length ≤ 1000000) :
    Calls Tryd.prog 59 #[.string (BA s)] w fun x w' => x = .returned (.string (BA (quoteF s))) ∧ Kept (fun _ => False) w w' := by
  have hs := BA_size s
  have HQ : Hid (quoteF s = if s.contains 39 then [34] ++ escZ s ++ [34] else [39] ++ s ++ [39]) := Lw.hid rfl
  have HEL := Lw.hid (escZ_len s)
  obtain ⟨N, hN⟩ : ∃ N, s.length = N := ⟨_, rfl⟩
  have HN := Lw.hid hN
  rw [hN] at hs hs9 HEL
  clear hN
  go_enter Tryd.func59, Tryd.ntmps59
  go_wp2_with fail
  go_loopg [3, 4, 5] N (fun gk s2 s3 s4 wx => ∃ k : Nat, gk = N - k ∧ k ≤ N ∧ s2 = .bool ((s.take k).contains 39) ∧ s3 = .string (BA (escZ (s.take k))) ∧ s4 = .int .i64 (k : Int) ∧ Kept (fun _ => False) w wx)
  case atStart => exact ⟨0, rfl, Nat.zero_le _, rfl, rfl, rfl, Kept.refl _ w⟩
  case round =>
    obtain ⟨k, rfl, hk, rfl, rfl, rfl, hkk⟩ := hrel
    have HK := Lw.hid hkk
    clear hkk
    by_cases hlt : k < N
    · obtain ⟨c, hc⟩ : ∃ c, s[k]? = some c := ⟨_, List.getElem?_eq_getElem (by rw [HN.out]; exact hlt)⟩
      have g0 := BA_get hc
      have hn1 := escZ_next hc
      have hn2 := has_next hc
      have eX : (BA s).extract k (k + 1) = BA [c] := by
        rw [BA_extract, List.take_add_one, hc, List.drop_append]
        have : (s.take k).length = k := by rw [List.length_take, HN.out]; omega
        rw [List.drop_eq_nil_of_le (by omega), this]
        simp
      have zO : (BA (escZ (s.take k))).size ≤ 2000000 := by rw [BA_size]; have := escZ_len (s.take k); rw [List.length_take, HN.out] at this; omega
      obtain ⟨O, hO⟩ : ∃ O, escZ (s.take k) = O := ⟨_, rfl⟩
      obtain ⟨t, ht⟩ : ∃ t, (s.take k).contains 39 = t := ⟨_, rfl⟩
      rw [hO] at hn1 zO
      rw [ht] at hn2
      rw [hO, ht]
      have HSP := Lw.hid (fun wx => z_special wx c)
      have HN1 := Lw.hid hn1; have HN2 := Lw.hid hn2
      have z1 : (BA (O ++ [92])).size ≤ 2000001 := by rw [BA_size] at zO ⊢; simp; omega
      have bO1 : BA O ++ ⟨#[92]⟩ = BA (O ++ [92]) := BA_append O [92]
      have bO2 : BA (O ++ [92]) ++ BA [c] = BA (O ++ [92, c]) := by rw [BA_append, List.append_assoc]; rfl
      have bO3 : BA O ++ BA [c] = BA (O ++ [c]) := BA_append O [c]
      have zc : (BA [c]).size = 1 := BA_size [c]
      clear hc hn1 hn2 hO ht HQ
      by_cases h39 : c = 39
      · have b39 : ((c.toNat : Int) == 39) = true := by rw [h39]; rfl
        have hod : oddB c = false := by rw [h39]; decide
        rw [hod] at HSP HN1
        have HT2 : Hid ((s.take (k + 1)).contains 39 = true) := Lw.hid (by rw [HN2.out, h39]; simp)
        clear h39 hod
        go_wp2_with fail
        refine (HSP.out _).mono ?_
        rintro x _ ⟨rfl, rfl⟩
        go_wp2_with fail
        go_roundg (N - (k + 1))
        case measure => omega
        case rel => exact ⟨k + 1, rfl, hlt, by rw [HT2.out], by first | (rw [HN1.out]; rfl) | (rw [HN1.out, bO3]; rfl), by go_num, HK.out⟩
      · have b39 : ((c.toNat : Int) == 39) = false := u8ne (k := 39) rfl h39
        have HT2 : Hid ((s.take (k + 1)).contains 39 = t) := Lw.hid (by rw [HN2.out]; have : ((39 : UInt8) == c) = false := beq_eq_false_iff_ne.2 (fun e => h39 e.symm); rw [this, Bool.or_false])
        clear h39
        cases hod : oddB c with
        | true =>
          rw [hod] at HSP HN1
          clear hod
          go_wp2_with fail
          refine (HSP.out _).mono ?_
          rintro x _ ⟨rfl, rfl⟩
          go_wp2_with fail
          go_roundg (N - (k + 1))
          case measure => omega
          case rel => exact ⟨k + 1, rfl, hlt, by rw [HT2.out], by first | (rw [HN1.out]; rfl) | (rw [HN1.out]; simp), by go_num, HK.out⟩
        | false =>
          rw [hod] at HSP HN1
          clear hod
          go_wp2_with fail
          refine (HSP.out _).mono ?_
          rintro x _ ⟨rfl, rfl⟩
          go_wp2_with fail
          go_roundg (N - (k + 1))
          case measure => omega
          case rel => exact ⟨k + 1, rfl, hlt, by rw [HT2.out], by first | (rw [HN1.out]; rfl) | (rw [HN1.out]; simp), by go_num, HK.out⟩
    · obtain rfl : k = N := by omega
      have htk : s.take k = s := List.take_of_length_le (by rw [HN.out]; exact Nat.le_refl _)
      rw [htk]
      have zE : (BA (escZ s)).size ≤ 2000000 := by rw [BA_size]; have := HEL.out; omega
      have bE1 : (⟨#[34]⟩ : ByteArray) ++ BA (escZ s) = BA (34 :: escZ s) := BA_append [34] (escZ s)
      have bE2 : BA (34 :: escZ s) ++ (⟨#[34]⟩ : ByteArray) = BA ([34] ++ escZ s ++ [34]) := BA_append (34 :: escZ s) [34]
      have zE1 : (BA (34 :: escZ s)).size ≤ 2000001 := by rw [BA_size] at zE ⊢; simp; omega
      have bS1 : (⟨#[39]⟩ : ByteArray) ++ BA s = BA (39 :: s) := BA_append [39] s
      have bS2 : BA (39 :: s) ++ (⟨#[39]⟩ : ByteArray) = BA ([39] ++ s ++ [39]) := BA_append (39 :: s) [39]
      have zS1 : (BA (39 :: s)).size ≤ 2000001 := by rw [BA_size]; simp only [List.length_cons, HN.out]; omega
      cases hct : s.contains 39 with
      | true =>
        have HQT : Hid (quoteF s = [34] ++ escZ s ++ [34]) := Lw.hid (by rw [HQ.out, hct]; rfl)
        clear HQ
        go_wp2_with fail
        go_ret
        rw [HQT.out]
        exact ⟨rfl, HK.out⟩
      | false =>
        have HQT : Hid (quoteF s = [39] ++ s ++ [39]) := Lw.hid (by rw [HQ.out, hct]; rfl)
        clear HQ
        go_wp2_with fail
        go_ret
        rw [HQT.out]
        exact ⟨rfl, HK.out⟩
end Go.Proofs.YtifcgeanippepaaDoor
