/- resume.Ask: what is had; has, May. -/
import Derived.Test.YtbmfnepbdfnlaaaSpan
import Derived.Deep.LoopGhost
namespace Go.Proofs.Ytbmfnepbdfnlaaa
open Go Go.RowKit Go.Lw
set_option maxRecDepth 100000
set_option linter.unusedVariables false
set_option linter.unusedSimpArgs false
structure Hv where
  id : Nat
  out : Nat
  er : Nat
  st : Bool
deriving DecidableEq
def Hv.cells (h : Hv) : List Value := [u32v h.id, u32v h.out, u32v h.er, .bool h.st]
def Hv.v (h : Hv) : Value := .agg #[u32v h.id, u32v h.out, u32v h.er, .bool h.st]
structure Hv.ok (h : Hv) : Prop where
  id : h.id < 4294967296
  out : h.out < 4294967296
  er : h.er < 4294967296
def RdH (w : World) (v : Value) (l : List Hv) : Prop := Rd w 4 v l.length (l.flatMap Hv.cells) ∧ ∀ h ∈ l, h.ok
theorem RdH.kept {S : Nat → Prop} {a b : World} {v : Value} {l : List Hv} (h : RdH a v l) (k : Kept S a b) (hd : ∀ i, blk v i → ¬ S i) : RdH b v l := ⟨Rd.kept k h.1 hd, h.2⟩
theorem RdH.keptF {a b : World} {v : Value} {l : List Hv} (h : RdH a v l) (k : Kept (fun _ => False) a b) : RdH b v l := h.kept k (fun _ _ h => h)
theorem RdH.keeps {R : Nat → Prop} {a b : World} {v : Value} {l : List Hv} (h : RdH a v l) (k : Keeps R a b) (hd : ∀ i, blk v i → R i) : RdH b v l :=
  ⟨h.1.of_cells fun g off j u hg hc => k.cell hc (hd g hg), h.2⟩
theorem RdH.shape {w : World} {v : Value} {l : List Hv} (h : RdH w v l) : ∃ a cap, v = .slice a l.length cap ∧ l.length ≤ cap ∧ cap ≤ 9223372036854775807 ∧
    ∀ k (hk : k < l.length), ∃ g off, a = some ⟨g, off, none⟩ ∧ w.cell? ⟨g, off + k * 4, none⟩ = some (u32v l[k].id) ∧ w.cell? ⟨g, off + k * 4 + 1, none⟩ = some (u32v l[k].out) ∧ w.cell? ⟨g, off + k * 4 + 2, none⟩ = some (u32v l[k].er) ∧ w.cell? ⟨g, off + k * 4 + 3, none⟩ = some (.bool l[k].st) := by
  obtain ⟨hlx, ad, cap, rfl, h1, h2, hc⟩ := id h.1
  unfold maxLen at h2
  refine ⟨ad, cap, rfl, h1, by omega, fun k hk => ?_⟩
  obtain ⟨g, off, rfl, c0, cj⟩ := h.1.elem (fun _ _ => rfl) (by decide) k hk
  have c1 := cj 1 (by decide)
  have c2 := cj 2 (by decide)
  have c3 := cj 3 (by decide)
  exact ⟨g, off, rfl, c0, c1, c2, c3⟩
theorem is_any (w : World) (h : Hv) (B n : Nat) (hB : w.cell? ⟨B, 0, none⟩ = some (u32v n)) :
    Calls Try.prog 61 #[.agg #[u32v h.id, u32v h.out, u32v h.er, .bool h.st], .pointer (some ⟨B, 0, none⟩)] w fun x w' => x = .returned (.bool (decide (h.id = n))) ∧ Kept (fun _ => False) w w' := by
  have hb := World.block_lt_of_cell? w _ hB
  have K1 : Hid (Kept (fun _ => False) w (w.alloc (.cells #[u32v h.id, u32v h.out, u32v h.er, .bool h.st] 35))) := Lw.hid ((Kept.refl _ w).alloc _)
  have e1 : (w.alloc (.cells #[u32v h.id, u32v h.out, u32v h.er, .bool h.st] 35)).cell? ⟨B, 0, none⟩ = some (u32v n) := K1.out.cell hB (fun h => h)
  have hcmp : ((h.id : Int) == (n : Int)) = decide (h.id = n) := by
    by_cases e : h.id = n
    · simp [e]
    · have : ¬ (h.id : Int) = (n : Int) := by omega
      simp [e, this]
  go_enter Try.func61, Try.ntmps61
  go_wp2
  go_ret
  exact ⟨rfl, K1.out⟩
def hasF (l : List Hv) (n : Nat) : Bool := l.any fun h => decide (h.id = n)
theorem hasF_none {l : List Hv} {n k : Nat} (hk : k < l.length) (h : hasF (l.take k) n = false) (e : ¬ l[k].id = n) : hasF (l.take (k + 1)) n = false := by
  unfold hasF at *
  rw [take_snoc l k hk, List.any_append, h]
  simp [e]
theorem hasF_some {l : List Hv} {n k : Nat} (hk : k < l.length) (e : l[k].id = n) : hasF l n = true := by
  unfold hasF
  rw [List.any_eq_true]
  exact ⟨l[k], List.getElem_mem hk, by simp [e]⟩
def IxPost (l : List Hv) (n : Nat) (i : Int) : Prop := (hasF l n = true → 0 ≤ i) ∧ (hasF l n = false → i = -1)
set_option maxHeartbeats 4000000 in
theorem index_any (w : World) (v : Value) (l : List Hv) (hl : RdH w v l) (B n : Nat) (hB : w.cell? ⟨B, 0, none⟩ = some (u32v n)) (hl9 : l.length ≤ 1000000) :
    Calls Try.prog 66 #[v, .func (.func 61) #[] #[.pointer (some ⟨B, 0, none⟩)]] w fun x w' => ∃ i : Int, x = .returned (.int .i64 i) ∧ IxPost l n i ∧ Kept (fun _ => False) w w' := by
  obtain ⟨ad, cap, rfl, h1, h2, hc⟩ := hl.shape
  have HC := Lw.hid hc
  obtain ⟨m, hm⟩ : ∃ m, l.length = m := ⟨_, rfl⟩
  have HM := Lw.hid hm
  rw [hm] at h1 hl9 ⊢
  clear hc hl hm
  go_enter Try.func66, Try.ntmps66
  go_wp2_with fail
  go_loopg [8] m (fun gk i wr => ∃ k : Nat, gk = m - k ∧ k ≤ m ∧ i = .int .i64 k ∧ hasF (l.take k) n = false ∧ Kept (fun _ => False) w wr)
  case atStart => exact ⟨0, rfl, Nat.zero_le _, rfl, rfl, Kept.refl _ _⟩
  case round =>
    obtain ⟨k, rfl, hk, rfl, hn, hkk⟩ := hrel
    have HKK := Lw.hid hkk; have HN := Lw.hid hn
    clear hkk hn
    by_cases hlt : k < m
    · obtain ⟨g, off, rfl, c0, c1, c2, c3⟩ := HC.out k (by rw [HM.out]; exact hlt)
      obtain ⟨t, ht⟩ : ∃ t, l[k]'(by rw [HM.out]; exact hlt) = t := ⟨_, rfl⟩
      rw [ht] at c0 c1 c2 c3
      have HT := Lw.hid ht
      have b0 := HKK.out.cell c0 (fun h => h); have b1 := HKK.out.cell c1 (fun h => h); have b2 := HKK.out.cell c2 (fun h => h); have b3 := HKK.out.cell c3 (fun h => h)
      have hBr := HKK.out.cell hB (fun h => h)
      clear c0 c1 c2 c3 ht
      go_wp2_with fail
      refine (is_any wr t B n hBr).mono ?_
      rintro x w4 ⟨rfl, k4⟩
      have K4 := Lw.hid (HKK.out.trans k4 (fun _ _ h => h))
      clear k4
      by_cases e : t.id = n
      · have ed : decide (t.id = n) = true := by simp [e]
        rw [ed]
        go_wp2_with fail
        go_ret
        have hh : hasF l n = true := hasF_some (k := k) (by rw [HM.out]; exact hlt) (by rw [HT.out]; exact e)
        exact ⟨k, rfl, ⟨fun _ => by omega, fun h => by rw [hh] at h; cases h⟩, K4.out⟩
      · have ed : decide (t.id = n) = false := by simp [e]
        rw [ed]
        go_wp2_with fail
        go_roundg (m - (k + 1))
        case measure => omega
        case rel => exact ⟨k + 1, rfl, hlt, by go_num, hasF_none (by rw [HM.out]; exact hlt) HN.out (by rw [HT.out]; exact e), K4.out⟩
    · obtain rfl : k = m := by omega
      go_wp2_with fail
      go_ret
      have hh : hasF l n = false := by have := HN.out; rwa [List.take_of_length_le (by rw [HM.out]; exact Nat.le_refl _)] at this
      exact ⟨-1, rfl, ⟨(fun h => by rw [hh] at h; cases h), fun _ => rfl⟩, HKK.out⟩
theorem contains_any (w : World) (v : Value) (l : List Hv) (hl : RdH w v l) (B n : Nat) (hB : w.cell? ⟨B, 0, none⟩ = some (u32v n)) (hl9 : l.length ≤ 1000000) :
    Calls Try.prog 60 #[v, .func (.func 61) #[] #[.pointer (some ⟨B, 0, none⟩)]] w fun x w' => x = .returned (.bool (hasF l n)) ∧ Kept (fun _ => False) w w' := by
  obtain ⟨ad, cap, rfl, h1, h2, hc⟩ := hl.shape
  have HL := Lw.hid hl
  clear hc hl
  go_enter Try.func60, Try.ntmps60
  go_wp2_with fail
  refine (index_any w _ l HL.out B n hB hl9).mono ?_
  rintro x w4 ⟨i, rfl, hi, k4⟩
  have hd : decide (0 ≤ i) = hasF l n := by
    cases e : hasF l n with
    | true => have := hi.1 e; simp [this]
    | false => have := hi.2 e; simp [this]
  have HD := Lw.hid hd
  go_wp2_with fail
  go_ret
  exact ⟨rfl, k4⟩
/-- An Ask's value. -/
abbrev askV (n : Nat) (v : Value) : Value := .agg #[u32v n, v]
theorem has_any (w : World) (v : Value) (l : List Hv) (hl : RdH w v l) (nx n : Nat) (hl9 : l.length ≤ 1000000) :
    Calls Try.prog 43 #[.agg #[u32v nx, v], u32v n] w fun x w' => x = .returned (.bool (hasF l n)) ∧ Kept (fun _ => False) w w' := by
  obtain ⟨ad, cap, rfl, h1, h2, hc⟩ := hl.shape
  have HL := Lw.hid hl
  clear hc hl
  obtain ⟨w1, hw1⟩ : ∃ w1, (w.alloc (.cells #[u32v nx, .slice ad l.length cap] 26)).alloc (.cells #[u32v n] 24) = w1 := ⟨_, rfl⟩
  have K1 : Hid (Kept (fun _ => False) w w1) := Lw.hid (by rw [← hw1]; exact ((Kept.refl _ w).alloc _).alloc _)
  have b1 : w1.cell? ⟨w.heap.size + 1, 0, none⟩ = some (u32v n) := by
    rw [← hw1]
    have := heap_alloc (w.alloc (.cells #[u32v nx, .slice ad l.length cap] 26)) (.cells #[u32v n] 24)
    rw [show (w.alloc (.cells #[u32v nx, .slice ad l.length cap] 26)).heap.size = w.heap.size + 1 by simp] at this
    exact heap_cell this 0
  have HW := Lw.hid hw1
  clear hw1
  go_enter Try.func43, Try.ntmps43
  go_wp2_with fail
  rw [HW.out]
  refine (contains_any w1 _ l (HL.out.keptF K1.out) _ n b1 hl9).mono ?_
  rintro x w4 ⟨rfl, k4⟩
  have K4 := Lw.hid (K1.out.trans k4 (fun _ _ h => h))
  go_wp2_with fail
  go_ret
  exact ⟨rfl, K4.out⟩
end Go.Proofs.Ytbmfnepbdfnlaaa
