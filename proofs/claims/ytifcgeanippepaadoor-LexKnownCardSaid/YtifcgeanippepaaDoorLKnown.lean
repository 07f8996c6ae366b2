/- LexKnown, walked. -/
import Derived.Test.YtifcgeanippepaaDoorLexK
import Derived.Test.YtifcgeanippepaaDoorMapLit
namespace Go.Proofs.YtifcgeanippepaaDoor
open Go Go.RowKit Go.Lw
set_option maxRecDepth 100000
set_option linter.unusedVariables false
attribute [local go_sem] BA_toList
theorem repeatL_one (c : UInt8) : ∀ n : Nat, Lib.repeatL [c] n = List.replicate n c
  | 0 => rfl
  | n + 1 => by
    have := repeatL_one c n
    rw [List.replicate_succ, ← this]
    rfl
theorem rep_any (w : World) (c : UInt8) (n : Nat) (hn : n ≤ 3000) : Calls Tryd.prog 25 #[.string (BA [c]), .int .i64 (n : Int)] w fun e w' => e = .returned (.string (BA (List.replicate n c))) ∧ Kept (fun _ => False) w w' := by
  refine (Tryd.strings_Repeat (BA [c]) n w (by omega) (by rw [BA_size]; simp; omega)).mono ?_
  rintro e w' ⟨rfl, hb⟩
  rw [BA_list, repeatL_one]
  exact ⟨rfl, (Kept.of_below hb).mono (fun k hk h => by omega)⟩
theorem piece_x (r : List UInt8) : pieceR false 0 (120 :: r) = .ok r := by
  unfold pieceR
  obtain ⟨k, hk⟩ : ∃ k, need (.piece false) (120 :: r).length = k + 1 := ⟨need (.piece false) (120 :: r).length - 1, by unfold need; simp⟩
  rw [hk]
  unfold scan
  simp
theorem word_x : ∀ (m n : Nat), m < n → wordF n (List.replicate m 120) = .ok []
  | 0, n + 1, _ => rfl
  | m + 1, n + 1, h => by
    rw [List.replicate_succ, word_step (by decide) (piece_x _)]
    exact word_x m n (by omega)
theorem oper_x (r : List UInt8) : operF (120 :: r) = none := by
  unfold operF
  rw [List.find?_eq_none]
  intro o ho
  simp only [opsL, List.mem_cons, List.not_mem_nil, or_false] at ho
  rcases ho with rfl | rfl | rfl | rfl | rfl | rfl | rfl | rfl | rfl | rfl | rfl | rfl | rfl | rfl | rfl | rfl | rfl | rfl <;> simp
theorem lex_x : lexT (List.replicate 2048 120) = .ok [⟨1, List.replicate 2048 120, 0⟩] := by
  unfold lexT
  rw [List.length_replicate, if_neg (by decide), if_neg (by simp [okB])]
  have e : List.replicate 2048 (120 : UInt8) = 120 :: List.replicate 2047 120 := List.replicate_succ
  have hw : wordF ((List.replicate 2047 (120 : UInt8)).length + 2) (120 :: List.replicate 2047 120) = .ok [] := by
    rw [← e]; exact word_x 2048 _ (by simp)
  rw [e, lex_word (m := 2048) (by decide) (by decide) (oper_x _) hw]
  show Except.map _ (.ok []) = _
  rw [← e]
  simp [Except.map]
theorem lex_x2 : lexT (List.replicate 2049 120) = .error 3 := by
  unfold lexT
  rw [List.length_replicate, if_pos (by decide)]
def lknown : List (List UInt8 × List UInt8) := [([97, 62, 98, 124, 99], [98, 105, 98, 103, 98]), ([34, 92, 34, 34], [98]), ([34, 39, 34], [98]), ([34, 40, 34], [98]), ([36, 123, 97, 58, 45, 32, 40, 120, 41, 32, 59, 32, 35, 32, 121, 125], [98]), ([42, 63, 91, 97, 93], [98]), ([195, 169], [98]), ([33], [98]), ([97, 61, 123, 98], [98]), ([123, 32, 125], [98, 98]), ([39, 97, 10, 59, 98, 39], [98]), ([34, 97, 10, 59, 98, 34], [98]), ([36, 40, 40, 32, 59, 32, 124, 32, 38, 32, 41, 41, 120], [98]), ([36, 40, 40, 49, 43, 40, 50, 41, 41, 41], [98]), ([36, 97, 36, 98, 36, 123, 99, 125, 36, 63], [98]), ([36], [98]), ([34, 34], [98]), ([39, 39], [98]), ([92, 35], [98]), ([97, 35, 98, 32, 35, 32, 99], [98]), ([35, 120, 10, 35, 121], [99]), ([97, 32, 50], [98, 98]), ([50, 62, 97, 32, 50, 62, 62, 98, 32, 50, 50, 62, 99, 32, 50, 32, 62, 100], [107, 98, 108, 98, 98, 105, 98, 98, 105, 98]), ([60, 97, 62, 98, 62, 62, 99, 50, 62, 100], [104, 98, 105, 98, 106, 98, 105, 98]), ([97, 59, 98, 38, 38, 99, 124, 124, 100, 124, 101], [98, 100, 98, 101, 98, 102, 98, 103, 98]), ([97, 10, 98], [98, 99, 98]), ([97], [98]), ([32, 9], []), ([], [])]
def badL : List (List UInt8) := [[38], [97, 32, 38, 32, 98], [97, 38], [60, 60], [60, 38], [60, 62], [62, 38, 49], [62, 124], [50, 62, 38, 49], [50, 62, 124, 97], [40], [41], [97, 40, 98, 41], [96, 97, 96], [34, 96, 34], [39], [34], [92], [97, 92, 10], [36, 40, 97, 41], [36, 40, 40, 49, 41], [36, 40, 40, 49, 41, 41, 41, 97, 41], [36, 40, 40, 39, 49, 39, 41, 41], [36, 40, 40, 10, 41, 41], [36, 40, 40, 36, 97, 41, 41], [36, 123], [36, 123, 97], [36, 123, 97, 10, 125], [34, 36, 123, 97, 34, 125], [0], [127], [13]]
def lkTest (p : List UInt8 × List UInt8) : Bool := kindsF p.1 == p.2 && decide (p.1.length ≤ 100)
theorem lk_all : lknown.all lkTest = true := by decide +kernel
def bdTest (s : List UInt8) : Bool := kindsF s == [33] && decide (s.length ≤ 100)
theorem bad_all : badL.all bdTest = true := by decide +kernel
theorem lk_open {ks c : List UInt8} (h : (ks, c) ∈ lknown) : ks.length ≤ 100 ∧ kindsF ks = c := by
  have := List.all_eq_true.1 lk_all _ h
  simp only [lkTest, Bool.and_eq_true, decide_eq_true_eq, beq_iff_eq] at this
  exact ⟨this.2, this.1⟩
theorem bad_open {s : List UInt8} (h : s ∈ badL) : s.length ≤ 100 ∧ kindsF s = [33] := by
  have := List.all_eq_true.1 bad_all _ h
  simp only [bdTest, Bool.and_eq_true, decide_eq_true_eq, beq_iff_eq] at this
  exact ⟨this.2, this.1⟩
def bS (s : List UInt8) : Value := .string (BA s)
theorem bad_len : badL.length = 32 := rfl
abbrev vOf (l : List (List UInt8 × List UInt8)) : List (List UInt8 × Value) := l.map fun p => (p.1, .string (BA p.2))
theorem vOf_mem {l : List (List UInt8 × List UInt8)} {ks : List UInt8} {v : Value} (h : assocS (vOf l) ks = some v) : ∃ c, (ks, c) ∈ l ∧ v = .string (BA c) := by
  have := assocS_mem h
  obtain ⟨p, hp, e⟩ := List.mem_map.1 this
  cases e
  exact ⟨p.2, hp, rfl⟩
theorem bs_cell {wx : World} {g k : Nat} (h : Rd wx 1 (.slice (some ⟨g, 0, none⟩) 32 32) 32 (badL.map bS)) {s : List UInt8} (hk : badL[k]? = some s) : wx.cell? ⟨g, k, none⟩ = some (.string (BA s)) := by
  obtain ⟨_, a, cap, e, _, _, hc⟩ := h
  cases e
  obtain ⟨g', off, e2, h2⟩ := hc k (bS s) (by rw [List.getElem?_map, hk]; rfl)
  cases e2
  rw [Nat.zero_add] at h2
  exact h2
set_option maxHeartbeats 16000000 in
theorem lknown_any (w : World) (hE : LEnv w) : Calls Tryd.prog 6 #[] w fun e w' => e = .returned (.bool true) ∧ Kept (fun _ => False) w w' := by
  have HE := Lw.hid hE
  clear hE
  have hmm := @run_makeMap Tryd.prog
  have HM := Lw.hid (SMap.made w w Tryd.prog 9 (Kept.refl _ w))
  go_enter Tryd.func6, Tryd.ntmps6
  go_wp2_with (first | (refine wpList_insert_const rfl _ _ _ _ rfl 9 9 Tryd.underlying9 Tryd.underlying51 _ _ _ rfl HM.out (by unfold maxLen; omega) (by unfold maxLen; simp) rfl ?_; clear HM; intro w9 hm9; have HM := Lw.hid hm9; clear hm9) | (at_range; refine wpList_range_lit rfl _ _ rfl 9 9 Tryd.underlying9 Tryd.underlying51 _ _ _ rfl HM.out ?_; clear HM; intro w1 cnt1 hr1 hk1))
  obtain ⟨r1, hr1e⟩ : ∃ r1, w9.heap.size = r1 := ⟨_, rfl⟩
  rw [hr1e] at hr1 ⊢
  have hr1' : SRange w w1 Tryd.prog 9 w.heap.size r1 29 (vOf lknown) cnt1 := hr1
  have HR1 := Lw.hid hr1'
  clear hr1 hk1 hr1e hr1'
  go_frame
  go_loopg [] cnt1 (fun gk wx => SRange w wx Tryd.prog 9 w.heap.size r1 29 (vOf lknown) gk)
  case atStart => exact HR1.out
  case round =>
    have HR := Lw.hid hrel
    clear hrel HR1
    have K0 := Lw.hid HR.out.kept
    have HRD := Lw.hid (Rd.lit wr (badL.map bS) 9 1 wr.heap.size 32 rfl rfl (by decide))
    have HRK := Lw.hid (K0.out.alloc (.cells (badL.map bS).toArray 9))
    go_wp2_with (at_next; refine wpList_next_lit rfl _ rfl 9 Tryd.underlying9 _ _ _ _ _ rfl HR.out ?_ ?_)
    case refine_2 =>
      intro ks v w2 cnt2 hmem hr2 hlt2 hkk2 hen
      have HR2 := Lw.hid hr2
      obtain ⟨c, hc, rfl⟩ := vOf_mem hmem.out
      obtain ⟨hl1, h1⟩ := lk_open hc
      have HL := Lw.hid hl1; have H1 := Lw.hid h1
      clear hr2 hkk2 hmem hc hl1 HR h1 HRD HRK K0
      go_wp2_with fail
      refine (kinds_any _ ks (HE.out.kept HR2.out.kept) (by have := HL.out; omega)).mono ?_
      rw [H1.out]
      rintro e w3 ⟨rfl, k3⟩
      have HR3 := Lw.hid (HR2.out.keep k3)
      have hbb : (BA c != BA c) = false := by rw [bne, BA_beq]; simp
      clear k3
      go_wp2_with fail
      go_roundg cnt2
      case measure => exact hlt2
      case rel => exact HR3.out
    clear HR
    obtain ⟨g, hg⟩ : ∃ g, wr.heap.size = g := ⟨_, rfl⟩
    rw [hg] at HRD
    rw [hg]
    clear hg
    obtain ⟨wo, rfl⟩ : ∃ wo : World, wo = wr := ⟨_, rfl⟩
    go_loopg [5, 35] 32 (fun gk s5 s35 wx => ∃ k : Nat, gk = 32 - k ∧ k ≤ 32 ∧ s35 = .int .i64 (k : Int) ∧ Rd wx 1 (.slice (some ⟨g, 0, none⟩) 32 32) 32 (badL.map bS) ∧ Kept (fun _ => False) w wx)
    case atStart => exact ⟨0, rfl, Nat.zero_le _, rfl, HRD.out, HRK.out⟩
    case round =>
      obtain ⟨k, rfl, hk, rfl, hrd, hkw⟩ := hrel
      have HRD := Lw.hid hrd; have HKW := Lw.hid hkw
      clear hrd hkw HRK K0
      by_cases hlt : k < 32
      · obtain ⟨s, hs⟩ : ∃ s, badL[k]? = some s := ⟨_, List.getElem?_eq_getElem (by rw [bad_len]; exact hlt)⟩
        have hc := bs_cell HRD.out hs
        obtain ⟨hl1, h1⟩ := bad_open (List.mem_of_getElem? hs)
        have HL := Lw.hid hl1; have H1 := Lw.hid h1
        clear hs hl1 h1
        go_wp2_with fail
        refine (kinds_any _ s (HE.out.kept HKW.out) (by have := HL.out; omega)).mono ?_
        rw [H1.out]
        rintro e w3 ⟨rfl, k3⟩
        have HRD3 := Lw.hid (Rd.kept k3 HRD.out (fun _ _ h => h)); have HKW3 := Lw.hid (HKW.out.trans k3 (fun _ _ h => h))
        clear k3
        go_wp2_with fail
        go_roundg (32 - (k + 1))
        case measure => omega
        case rel => exact ⟨k + 1, rfl, hlt, by go_num, HRD3.out, HKW3.out⟩
      · obtain rfl : k = 32 := by omega
        have K0 := Lw.hid HKW.out
        clear HKW HRD hk hlt
        go_wp2_with fail
        refine (rep_any _ 120 2049 (by decide)).mono ?_
        rintro e w7 ⟨rfl, k7⟩
        have K1 := Lw.hid (K0.out.trans k7 (fun _ _ h => h))
        clear k7
        obtain ⟨q2049, hq⟩ : ∃ q, List.replicate 2049 (120 : UInt8) = q := ⟨_, rfl⟩
        have HQ2049 := Lw.hid hq
        rw [hq]
        clear hq
        go_wp2_with fail
        refine (lex_err _ q2049 3 (HE.out.kept K1.out) (by rw [← HQ2049.out]; exact lex_x2) (by rw [← HQ2049.out]; simp)).mono ?_
        rintro e w8 ⟨rfl, k7⟩
        have K2 := Lw.hid (K1.out.trans k7 (fun _ _ h => h))
        clear k7
        go_wp2_with fail
        refine (rep_any _ 120 2048 (by decide)).mono ?_
        rintro e w7 ⟨rfl, k7⟩
        have K3 := Lw.hid (K2.out.trans k7 (fun _ _ h => h))
        clear k7
        obtain ⟨q2048, hq⟩ : ∃ q, List.replicate 2048 (120 : UInt8) = q := ⟨_, rfl⟩
        have HQ2048 := Lw.hid hq
        rw [hq]
        clear hq
        go_wp2_with fail
        refine (lex_ok _ q2048 [⟨1, q2048, 0⟩] (HE.out.kept K3.out) (by rw [← HQ2048.out]; exact lex_x) (by rw [← HQ2048.out]; simp)).mono ?_
        rintro e w8 ⟨⟨v9, rfl, _, _, _⟩, k7⟩
        have K4 := Lw.hid (K3.out.trans k7 (fun _ _ h => h))
        clear k7
        go_wp2_with fail
        refine (piece_fn _ [] (by simp)).mono ?_
        rw [show pieceT [] = (0, 4) from by decide +kernel]
        rintro e w8 ⟨rfl, k7⟩
        have K5 := Lw.hid (K4.out.trans k7 (fun _ _ h => h))
        clear k7
        go_wp2_with fail
        refine (piece_fn _ [32, 120] (by simp)).mono ?_
        rw [show pieceT [32, 120] = (0, 1) from by decide +kernel]
        rintro e w8 ⟨rfl, k7⟩
        have K6 := Lw.hid (K5.out.trans k7 (fun _ _ h => h))
        clear k7
        go_wp2_with fail
        refine (piece_fn _ [39, 97, 32, 98, 39, 99] (by simp)).mono ?_
        rw [show pieceT [39, 97, 32, 98, 39, 99] = (5, 0) from by decide +kernel]
        rintro e w8 ⟨rfl, k7⟩
        have K7 := Lw.hid (K6.out.trans k7 (fun _ _ h => h))
        clear k7
        go_wp2_with fail
        refine (piece_fn _ [36, 97, 98, 95, 49, 45, 99] (by simp)).mono ?_
        rw [show pieceT [36, 97, 98, 95, 49, 45, 99] = (5, 0) from by decide +kernel]
        rintro e w8 ⟨rfl, k7⟩
        have K8 := Lw.hid (K7.out.trans k7 (fun _ _ h => h))
        clear k7
        go_wp2_with fail
        refine (piece_fn _ [40] (by simp)).mono ?_
        rw [show pieceT [40] = (0, 5) from by decide +kernel]
        rintro e w8 ⟨rfl, k7⟩
        have K9 := Lw.hid (K8.out.trans k7 (fun _ _ h => h))
        clear k7
        go_wp2_with fail
        refine (name_any _ [97, 95, 57] (by simp)).mono ?_
        rw [show nameB [97, 95, 57] = true from by decide +kernel]
        rintro e w6 ⟨rfl, rfl⟩
        go_wp2_with fail
        refine (name_any _ [95] (by simp)).mono ?_
        rw [show nameB [95] = true from by decide +kernel]
        rintro e w6 ⟨rfl, rfl⟩
        go_wp2_with fail
        refine (name_any _ [57, 97] (by simp)).mono ?_
        rw [show nameB [57, 97] = false from by decide +kernel]
        rintro e w6 ⟨rfl, rfl⟩
        go_wp2_with fail
        refine (name_any _ [] (by simp)).mono ?_
        rw [show nameB [] = false from by decide +kernel]
        rintro e w6 ⟨rfl, rfl⟩
        go_wp2_with fail
        refine (name_any _ [97, 45, 98] (by simp)).mono ?_
        rw [show nameB [97, 45, 98] = false from by decide +kernel]
        rintro e w6 ⟨rfl, rfl⟩
        go_wp2_with fail
        refine (rep_any _ 120 32 (by decide)).mono ?_
        rintro e w7 ⟨rfl, k7⟩
        have K10 := Lw.hid (K9.out.trans k7 (fun _ _ h => h))
        clear k7
        obtain ⟨q32, hq⟩ : ∃ q, List.replicate 32 (120 : UInt8) = q := ⟨_, rfl⟩
        have HQ32 := Lw.hid hq
        rw [hq]
        clear hq
        go_wp2_with fail
        refine (name_any _ q32 (by rw [← HQ32.out]; simp)).mono ?_
        rw [show nameB q32 = true from by rw [← HQ32.out]; decide +kernel]
        rintro e w6 ⟨rfl, rfl⟩
        go_wp2_with fail
        refine (rep_any _ 120 33 (by decide)).mono ?_
        rintro e w7 ⟨rfl, k7⟩
        have K11 := Lw.hid (K10.out.trans k7 (fun _ _ h => h))
        clear k7
        obtain ⟨q33, hq⟩ : ∃ q, List.replicate 33 (120 : UInt8) = q := ⟨_, rfl⟩
        have HQ33 := Lw.hid hq
        rw [hq]
        clear hq
        go_wp2_with fail
        refine (name_any _ q33 (by rw [← HQ33.out]; simp)).mono ?_
        rw [show nameB q33 = false from by rw [← HQ33.out]; decide +kernel]
        rintro e w6 ⟨rfl, rfl⟩
        go_wp2_with fail
        refine (join_nil _).mono ?_
        rintro e w6 ⟨rfl, rfl⟩
        go_wp2_with fail
        refine (tells_any _ (HE.out.kept K11.out)).mono ?_
        rintro e w8 ⟨rfl, k7⟩
        have K12 := Lw.hid (K11.out.trans k7 (fun _ _ h => h))
        clear k7
        go_wp2_with fail
        go_ret
        exact ⟨rfl, K12.out⟩
theorem lknown_below (w : World) (hE : LEnv w) : Calls Tryd.prog 6 #[] w fun e w' => e = .returned (.bool true) ∧ Below w.heap.size w w' := (lknown_any w hE).mono fun _ _ ⟨e, k⟩ => ⟨e, Below.of_kept k⟩
end Go.Proofs.YtifcgeanippepaaDoor
