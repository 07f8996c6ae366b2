/- PatternKnown, walked. -/
import Derived.Test.YtgedgnhloibclaaQuoteP
import Derived.Test.YtgedgnhloibclaaMapLit
namespace Go.Proofs.Ytgedgnhloibclaa
open Go Go.RowKit Go.Lw
set_option maxRecDepth 100000
set_option linter.unusedVariables false
attribute [local go_sem] BA_toList
def known1 : List (List UInt8 × List UInt8) := [([92, 46, 120], [46, 120]), ([46, 91, 97, 93], [46, 97]), ([46, 42], [46]), ([91, 97, 93, 42], [97, 98, 99]), ([42, 97, 42, 98], [120, 97, 97, 97, 98]), ([120, 42, 121, 42, 122], [120, 121, 97, 121, 122]), ([91, 99, 45, 97, 93, 120, 91, 98, 93], [91, 99, 45, 97, 93, 120, 91, 98, 93]), ([91, 42, 93], [42]), ([91, 91, 93], [91]), ([91, 97, 92, 45, 99, 93], [45]), ([91, 92, 93, 93], [93]), ([91, 97, 45, 99, 45, 101, 93], [45]), ([91, 97, 45, 93], [45]), ([91, 45, 97, 93], [45]), ([91, 97, 45, 99, 93], [98]), ([91, 33, 93, 93], [120]), ([91, 93, 93], [93]), ([91, 33, 93], [91, 33, 93]), ([91, 33], [91, 33]), ([91, 93], [91, 93]), ([91, 97], [91, 97]), ([91], [91]), ([97, 92], [97, 92]), ([92], [92]), ([92, 42], [42]), ([97], [97]), ([63], [97]), ([42, 42], []), ([42], [97, 98, 99]), ([], [])]
def known2 : List (List UInt8 × List UInt8) := [([42, 42, 97], [98]), ([92, 97], [98]), ([97, 42, 98], [97, 98, 99]), ([91, 93, 97, 93], [98]), ([91, 33, 97, 45, 99, 93], [98]), ([91, 97, 45, 99, 93], [100]), ([97, 63], [97]), ([42, 46, 97], [46, 97]), ([91, 33, 120, 93, 97], [46, 97]), ([91, 46, 93, 97], [46, 97]), ([63, 97], [46, 97]), ([42], [46, 97]), ([63], []), ([97], []), ([], [97])]
def oddK : List UInt8 := [91, 99, 45, 97, 93, 120, 91, 98, 93]
def test1 (p : List UInt8 × List UInt8) : Bool := (if p.1 == oddK then !(matchF p.1 p.2) && !(matchF p.1 [97, 120, 98]) && !(matchF p.1 [99, 120, 98]) else matchF p.1 p.2) && decide (p.1.length ≤ 100) && decide (p.2.length ≤ 100)
def test2 (p : List UInt8 × List UInt8) : Bool := !(matchF p.1 p.2) && decide (p.1.length ≤ 100) && decide (p.2.length ≤ 100)
theorem all1 : known1.all test1 = true := by decide +kernel
theorem all2 : known2.all test2 = true := by decide +kernel
abbrev vOf (l : List (List UInt8 × List UInt8)) : List (List UInt8 × Value) := l.map fun p => (p.1, .string (BA p.2))
theorem vOf_mem {l : List (List UInt8 × List UInt8)} {ks : List UInt8} {v : Value} (h : assocS (vOf l) ks = some v) : ∃ c, (ks, c) ∈ l ∧ v = .string (BA c) := by
  have := assocS_mem h
  obtain ⟨p, hp, e⟩ := List.mem_map.1 this
  cases e
  exact ⟨p.2, hp, rfl⟩
theorem t1_open {ks c : List UInt8} (h : (ks, c) ∈ known1) : ks.length ≤ 100 ∧ c.length ≤ 100 ∧ ((ks = oddK ∧ matchF ks c = false ∧ matchF ks [97, 120, 98] = false ∧ matchF ks [99, 120, 98] = false) ∨ ((ks == oddK) = false ∧ matchF ks c = true)) := by
  have := List.all_eq_true.1 all1 _ h
  unfold test1 at this
  simp only [Bool.and_eq_true, decide_eq_true_eq] at this
  refine ⟨this.1.2, this.2, ?_⟩
  have h2 := this.1.1
  by_cases e : (ks == oddK) = true
  · left
    rw [if_pos e] at h2
    simp only [Bool.and_eq_true, Bool.not_eq_true'] at h2
    exact ⟨beq_iff_eq.1 e, h2.1.1, h2.1.2, h2.2⟩
  · right
    rw [if_neg e] at h2
    exact ⟨by simpa using e, h2⟩
theorem t2_open {ks c : List UInt8} (h : (ks, c) ∈ known2) : ks.length ≤ 100 ∧ c.length ≤ 100 ∧ matchF ks c = false := by
  have := List.all_eq_true.1 all2 _ h
  unfold test2 at this
  simp only [Bool.and_eq_true, decide_eq_true_eq, Bool.not_eq_true'] at this
  exact ⟨this.1.2, this.2, this.1.1⟩
set_option maxHeartbeats 8000000 in
theorem pknown_any (w : World) : Calls Try.prog 7 #[] w fun e w' => e = .returned (.bool true) ∧ Kept (fun _ => False) w w' := by
  have hmm := @run_makeMap Try.prog
  have HM := Lw.hid (SMap.made w w Try.prog 9 (Kept.refl _ w))
  go_enter Try.func7, Try.ntmps7
  go_wp2_with (first | (refine wpList_insert_const rfl _ _ _ _ rfl 9 9 Try.underlying9 Try.underlying37 _ _ _ rfl HM.out (by unfold maxLen; omega) (by unfold maxLen; simp) rfl ?_; clear HM; intro w9 hm9; have HM := Lw.hid hm9; clear hm9) | (at_range; refine wpList_range_lit rfl _ _ rfl 9 9 Try.underlying9 Try.underlying37 _ _ _ rfl HM.out ?_; clear HM; intro w1 cnt1 hr1 hk1))
  obtain ⟨r1, hr1e⟩ : ∃ r1, w9.heap.size = r1 := ⟨_, rfl⟩
  rw [hr1e] at hr1 ⊢
  have hr1' : SRange w w1 Try.prog 9 w.heap.size r1 30 (vOf known1) cnt1 := hr1
  have HR1 := Lw.hid hr1'
  clear hr1 hk1 hr1e hr1'
  go_frame
  go_loopg [] cnt1 (fun gk wx => SRange w wx Try.prog 9 w.heap.size r1 30 (vOf known1) gk)
  case atStart => exact HR1.out
  case round =>
    have HR := Lw.hid hrel
    clear hrel HR1
    have HM := Lw.hid (SMap.made w wr Try.prog 9 HR.out.kept)
    go_wp2_with (first | (at_next; refine wpList_next_lit rfl _ rfl 9 Try.underlying9 _ _ _ _ _ rfl HR.out ?_ ?_) | (refine wpList_insert_const rfl _ _ _ _ rfl 9 9 Try.underlying9 Try.underlying37 _ _ _ rfl HM.out (by unfold maxLen; omega) (by unfold maxLen; simp) rfl ?_; clear HM; intro w9 hm9; have HM := Lw.hid hm9; clear hm9) | (at_range; refine wpList_range_lit rfl _ _ rfl 9 9 Try.underlying9 Try.underlying37 _ _ _ rfl HM.out ?_; clear HM; intro w1 cnt1' hr1 hk1))
    case refine_2 =>
      intro ks v w2 cnt2 hmem hr2 hlt2 hkk2 hen
      have HR2 := Lw.hid hr2
      obtain ⟨c, hc, rfl⟩ := vOf_mem hmem.out
      obtain ⟨hl1, hl2, ho⟩ := t1_open hc
      have HL := Lw.hid (And.intro hl1 hl2)
      clear hr2 hkk2 hmem hc hl1 hl2 HR
      rcases ho with ⟨rfl, h1, h2, h3⟩ | ⟨h0, h1⟩
      · have H1 := Lw.hid h1; have H2 := Lw.hid h2; have H3 := Lw.hid h3
        clear h1 h2 h3
        go_wp2_with fail
        refine (match_any _ oddK c (by simp [oddK]) (by have := HL.out; omega)).mono ?_
        rw [H1.out]
        rintro e w31 ⟨rfl, k3⟩
        have HR2 := Lw.hid (HR2.out.keep k3)
        clear k3
        go_wp2_with fail
        refine (match_any _ oddK [97, 120, 98] (by simp [oddK]) (by simp)).mono ?_
        rw [H2.out]
        rintro e w32 ⟨rfl, k3⟩
        have HR2 := Lw.hid (HR2.out.keep k3)
        clear k3
        go_wp2_with fail
        refine (match_any _ oddK [99, 120, 98] (by simp [oddK]) (by simp)).mono ?_
        rw [H3.out]
        rintro e w33 ⟨rfl, k3⟩
        have HR2 := Lw.hid (HR2.out.keep k3)
        clear k3
        go_wp2_with fail
        go_roundg cnt2
        case measure => exact hlt2
        case rel => exact HR2.out
      · have H1 := Lw.hid h1
        have h0' : (ks == [91, 99, 45, 97, 93, 120, 91, 98, 93]) = false := h0
        clear h1 h0
        go_wp2_with fail
        refine (match_any _ ks c (by have := HL.out; omega) (by have := HL.out; omega)).mono ?_
        rw [H1.out]
        rintro e w3 ⟨rfl, k3⟩
        have HR3 := Lw.hid (HR2.out.keep k3)
        clear k3
        go_wp2_with fail
        go_roundg cnt2
        case measure => exact hlt2
        case rel => exact HR3.out
    skip
    obtain ⟨r2, hr2e⟩ : ∃ r2, w9.heap.size = r2 := ⟨_, rfl⟩
    obtain ⟨b2, hb2e⟩ : ∃ b2, wr.heap.size = b2 := ⟨_, rfl⟩
    rw [hr2e, hb2e] at hr1
    rw [hr2e, hb2e]
    have hr1' : SRange w w1 Try.prog 9 b2 r2 15 (vOf known2) cnt1' := hr1
    have HR2 := Lw.hid hr1'
    clear hr1 hk1 hr2e hb2e hr1' HR
    obtain ⟨wo, hwo⟩ : ∃ wo, wr = wo := ⟨_, rfl⟩
    clear hwo
    go_frame
    go_loopg [] cnt1' (fun gk wx => SRange w wx Try.prog 9 b2 r2 15 (vOf known2) gk)
    case atStart => exact HR2.out
    case round =>
      have HR := Lw.hid hrel
      clear hrel HR2
      go_wp2_with (at_next; refine wpList_next_lit rfl _ rfl 9 Try.underlying9 _ _ _ _ _ rfl HR.out ?_ ?_)
      case refine_2 =>
        intro ks v w2 cnt2 hmem hr2 hlt2 hkk2 hen
        have HR2 := Lw.hid hr2
        obtain ⟨c, hc, rfl⟩ := vOf_mem hmem.out
        obtain ⟨hl1, hl2, h1⟩ := t2_open hc
        have HL := Lw.hid (And.intro hl1 hl2)
        have H1 := Lw.hid h1
        clear hr2 hkk2 hmem hc hl1 hl2 HR h1
        go_wp2_with fail
        refine (match_any _ ks c (by have := HL.out; omega) (by have := HL.out; omega)).mono ?_
        rw [H1.out]
        rintro e w3 ⟨rfl, k3⟩
        have HR3 := Lw.hid (HR2.out.keep k3)
        clear k3
        go_wp2_with fail
        go_roundg cnt2
        case measure => exact hlt2
        case rel => exact HR3.out
      have K0 := Lw.hid HR.out.kept
      clear HR
      refine (alive_any _ [91, 97] (by simp)).mono ?_
      rw [show aliveF [91, 97] = false from by decide +kernel]
      rintro e w60 ⟨rfl, k6⟩
      have K1 := Lw.hid (K0.out.trans k6 (fun _ _ h => h))
      clear k6
      go_wp2_with fail
      refine (alive_any _ [91, 97, 93] (by simp)).mono ?_
      rw [show aliveF [91, 97, 93] = true from by decide +kernel]
      rintro e w61 ⟨rfl, k6⟩
      have K2 := Lw.hid (K1.out.trans k6 (fun _ _ h => h))
      clear k6
      go_wp2_with fail
      refine (alive_any _ [92, 42, 92, 63, 92, 91, 97, 93] (by simp)).mono ?_
      rw [show aliveF [92, 42, 92, 63, 92, 91, 97, 93] = false from by decide +kernel]
      rintro e w62 ⟨rfl, k6⟩
      have K3 := Lw.hid (K2.out.trans k6 (fun _ _ h => h))
      clear k6
      go_wp2_with fail
      refine (alive_any _ [] (by simp)).mono ?_
      rw [show aliveF [] = false from by decide +kernel]
      rintro e w63 ⟨rfl, k6⟩
      have K4 := Lw.hid (K3.out.trans k6 (fun _ _ h => h))
      clear k6
      go_wp2_with fail
      refine (quote_any _ [97, 42, 91, 92, 93, 63] (by simp)).mono ?_
      rw [show quoteF [97, 42, 91, 92, 93, 63] = [97, 92, 42, 92, 91, 92, 92, 93, 92, 63] from by decide +kernel]
      rintro e w7 ⟨rfl, k7⟩
      have K5 := Lw.hid (K4.out.trans k7 (fun _ _ h => h))
      clear k7
      go_wp2_with fail
      refine (pwakes_any _).mono ?_
      rintro e w8 ⟨rfl, k8⟩
      have K6 := Lw.hid (K5.out.trans k8 (fun _ _ h => h))
      clear k8
      go_wp2_with fail
      go_ret
      exact ⟨rfl, K6.out⟩
theorem pknown_below (w : World) : Calls Try.prog 7 #[] w fun e w' => e = .returned (.bool true) ∧ Below w.heap.size w w' := (pknown_any w).mono fun _ _ ⟨e, k⟩ => ⟨e, Below.of_kept k⟩
end Go.Proofs.Ytgedgnhloibclaa
