/- package word: the reader's small methods. -/
import Derived.Test.YtifcgeanippepaaDoorM12
import Derived.Test.YtifcgeanippepaaDoorM15
namespace Go.Proofs.YtifcgeanippepaaDoor
open Go Go.RowKit Go.Lw
set_option maxRecDepth 100000
set_option linter.unusedVariables false
set_option linter.unusedSimpArgs false
attribute [local go_sem] BA_toList
/-- Block g is a reader: what is left; is a brace none? -/
def RdrAt (w : World) (g : Nat) (st : Rst) : Prop := w.heap[g]? = some (.cells #[.string (BA st.s), .bool st.bad] 95 (0, 0))
theorem RdrAt.cells {w : World} {g : Nat} {st : Rst} (h : RdrAt w g st) :
    (w.cell? ⟨g, 0, none⟩ = some (.string (BA st.s)) ∧ w.cell? ⟨g, 1, none⟩ = some (.bool st.bad)) ∧ (w.frozen? ⟨g, 0, none⟩ = false ∧ w.frozen? ⟨g, 1, none⟩ = false) :=
  ⟨⟨heap_cell h 0, heap_cell h 1⟩, heap_free h 0, heap_free h 1⟩
theorem RdrAt.kept {S : Nat → Prop} {w w' : World} {g : Nat} {st : Rst} (h : RdrAt w g st) (k : Kept S w w') (hg : ¬ S g) : RdrAt w' g st := k.heap h hg
theorem RdrAt.lt {w : World} {g : Nat} {st : Rst} (h : RdrAt w g st) : g < w.heap.size := heap_lt h
theorem RdrAt.left {w : World} {g : Nat} {s : List UInt8} {b : Bool} (h : RdrAt w g ⟨s, b⟩) (r : List UInt8) : RdrAt (w.setCell ⟨g, 0, none⟩ (.string (BA r))) g ⟨r, b⟩ := heap_set h 0 _
theorem RdrAt.bad' {w : World} {g : Nat} {s : List UInt8} {b : Bool} (h : RdrAt w g ⟨s, b⟩) (c : Bool) : RdrAt (w.setCell ⟨g, 1, none⟩ (.bool c)) g ⟨s, c⟩ := heap_set h 1 _
theorem RdrAt.drewN {w : World} {g : Nat} {st : Rst} (h : RdrAt w g st) (n : Nat) : RdrAt (w.drewN n) g st := h
set_option maxHeartbeats 1000000 in
/-- starts. -/
theorem starts_any (w : World) (g : Nat) (s p : List UInt8) (b : Bool) (h : RdrAt w g ⟨s, b⟩) (hs9 : s.length ≤ 1000000) (hp : p.length ≤ 1000000) (c : Bool) (hc : (s.take p.length == p) = c) :
    Calls Tryd.prog 86 #[.pointer (some ⟨g, 0, none⟩), .string (BA p)] w fun x w' => x = .returned (.bool c) ∧ RdrAt w' g ⟨if c then s.drop p.length else s, b⟩ ∧ K1 g w w' := by
  obtain ⟨⟨c0, c1⟩, f0, f1⟩ := h.cells
  have H := Lw.hid h
  have hv : Hid (cutpF s p = if c then (s.drop p.length, true) else (s, false)) := Lw.hid (by unfold cutpF; rw [hc])
  clear h hc
  cases c with
  | true =>
    go_enter Tryd.func86, Tryd.ntmps86
    go_wp2_with fail
    refine (cutp_any w s p (by omega) (by omega)).mono ?_
    rw [hv.out]
    rintro e _ ⟨rfl, rfl⟩
    simp only [if_true]
    go_wp2_with fail
    go_ret
    exact ⟨rfl, H.out.left _, K1.set (K1.refl _ _) _⟩
  | false =>
    go_enter Tryd.func86, Tryd.ntmps86
    go_wp2_with fail
    refine (cutp_any w s p (by omega) (by omega)).mono ?_
    rw [hv.out]
    rintro e _ ⟨rfl, rfl⟩
    simp only [Bool.false_eq_true, if_false]
    go_wp2_with fail
    go_ret
    exact ⟨rfl, H.out, K1.refl _ _⟩
theorem cutR_lib (c : UInt8) (r : List UInt8) : (Lib.cut r [c]).1 = (cutR c r).1 ∧ (Lib.cut r [c]).2.1 = (cutR c r).2 := by
  unfold Lib.cut cutR
  rw [Lib.index_one]
  induction r with
  | nil => exact ⟨rfl, rfl⟩
  | cons b l ih =>
    unfold Lib.indexByte
    rw [List.takeWhile_cons, List.dropWhile_cons]
    by_cases h : b = c
    · subst h; simp
    · have hb : (b == c) = false := beq_eq_false_iff_ne.2 h
      have hb2 : (b != c) = true := by simp [bne, hb]
      have hge := Lib.indexByte_ge l c
      rw [hb, hb2, if_pos rfl, if_pos rfl]
      simp only [Bool.false_eq_true, if_false]
      by_cases h2 : Lib.indexByte l c = -1
      · rw [h2] at ih ⊢
        simp at ih ⊢
        exact ih
      · have h3 : (Lib.indexByte l c == -1) = false := beq_eq_false_iff_ne.2 h2
        rw [h3]
        simp only [Bool.false_eq_true, if_false]
        obtain ⟨k, hk⟩ := Int.eq_ofNat_of_zero_le (show 0 ≤ Lib.indexByte l c by omega)
        rw [hk] at ih ⊢
        rw [if_pos (by omega)] at ih
        rw [if_pos (by omega), show ((k : Int) + 1).toNat = k + 1 by omega, show (k + 1 + [c].length) = (k + [c].length) + 1 by omega]
        simp only [Int.toNat_natCast] at ih
        exact ⟨congrArg (b :: ·) ih.1, ih.2⟩
set_option maxHeartbeats 1000000 in
/-- cut, up to a byte. -/
theorem rcut_any (w : World) (g : Nat) (s : List UInt8) (b : Bool) (h : RdrAt w g ⟨s, b⟩) (hs9 : s.length ≤ 1000000) (hE : LEnv w) :
    Calls Tryd.prog 90 #[.pointer (some ⟨g, 0, none⟩), .string ⟨#[39]⟩] w fun x w' => x = .returned (.string (BA (cutR 39 s).1)) ∧ RdrAt w' g ⟨(cutR 39 s).2, b⟩ ∧ K1 g w w' := by
  obtain ⟨⟨c0, c1⟩, f0, f1⟩ := h.cells
  have H := Lw.hid h
  obtain ⟨m, hm⟩ := hE.max
  have hz : (BA s).size < 4294967281 := by rw [BA_size]; omega
  have C := Lw.hid (Tryd.strings_Cut (BA s) ⟨#[39]⟩ m w hz hm)
  clear h hE hm hz
  go_enter Tryd.func90, Tryd.ntmps90
  go_wp2_with fail
  refine C.out.mono ?_
  rw [BA_list, (cutR_lib 39 s).1, (cutR_lib 39 s).2]
  rintro e _ ⟨rfl, n, rfl⟩
  go_wp2_with fail
  go_ret
  exact ⟨rfl, (H.out.drewN n).left _, K1.set (K1.drewN g w n) _⟩
theorem all_take {f : UInt8 → Bool} : ∀ (r : List UInt8) (m : Nat), m ≤ r.length → (r.take m).all f = decide (m ≤ (r.takeWhile f).length)
  | [], m, h => by
    have : m = 0 := by simpa using h
    subst this; rfl
  | c :: r, 0, _ => by simp
  | c :: r, m + 1, h => by
    have ih := all_take (f := f) r m (by simpa using h)
    rw [List.take_succ_cons, List.all_cons, ih, List.takeWhile_cons]
    cases hc : f c with
    | true => simp
    | false => simp
theorem nameT_len (s : List UInt8) : (nameT s).length ≤ 32 ∧ (nameT s).length ≤ s.length := by
  cases s with
  | nil => exact ⟨Nat.zero_le _, Nat.zero_le _⟩
  | cons c r =>
    unfold nameT
    simp only
    split
    · have := takeWhile_len (fun c => letterB c false) r
      rw [List.length_take, List.length_cons, List.length_cons]
      omega
    · exact ⟨Nat.zero_le _, Nat.zero_le _⟩
theorem takeWhile_take (f : UInt8 → Bool) (r : List UInt8) : r.takeWhile f = r.take (r.takeWhile f).length := by
  conv => rhs; arg 2; rw [← List.takeWhile_append_dropWhile (p := f) (l := r)]
  rw [List.take_left]
theorem nameT_take (s : List UInt8) : s.take (nameT s).length = nameT s := by
  cases s with
  | nil => rfl
  | cons c r =>
    unfold nameT
    simp only
    split
    · have e := takeWhile_take (fun c => letterB c false) r
      generalize (r.takeWhile (fun c => letterB c false)).length = m at e
      rw [e, ← List.take_succ_cons, List.take_take, List.length_take, List.take_eq_take_iff]
      simp
    · rfl
/-- One byte more is a name, or is none. -/
theorem nameT_step {s : List UInt8} {m : Nat} (hm : m < s.length) (h : m ≤ (nameT s).length) : nameB (s.take (m + 1)) = decide (m < (nameT s).length) := by
  cases s with
  | nil => simp at hm
  | cons c r =>
    rw [List.take_succ_cons]
    have hr : m ≤ r.length := by simp at hm; omega
    unfold nameT at h ⊢
    simp only at h ⊢
    show (letterB c true && (r.take m).all (fun c => letterB c false) && decide ((r.take m).length < 32)) = _
    rw [all_take r m hr, List.length_take, Nat.min_eq_left hr]
    by_cases hc : letterB c true = true
    · simp only [hc, if_true] at h ⊢
      simp only [List.length_take, List.length_cons, Bool.true_and] at h ⊢
      rw [Bool.eq_iff_iff]
      simp only [Bool.and_eq_true, decide_eq_true_eq]
      omega
    · simp [hc]
set_option maxHeartbeats 4000000 in
/-- name. -/
theorem rname_any (w : World) (g : Nat) (s : List UInt8) (b : Bool) (h : RdrAt w g ⟨s, b⟩) (hs9 : s.length ≤ 1000000) :
    Calls Tryd.prog 113 #[.pointer (some ⟨g, 0, none⟩)] w fun x w' => x = .returned (.string (BA (nameT s))) ∧ RdrAt w' g ⟨s.drop (nameT s).length, b⟩ ∧ K1 g w w' := by
  obtain ⟨⟨c0, c1⟩, f0, f1⟩ := h.cells
  have H := Lw.hid h
  have hs := BA_size s
  obtain ⟨N, hN⟩ : ∃ N, s.length = N := ⟨_, rfl⟩
  have HN := Lw.hid hN
  obtain ⟨M, hM⟩ : ∃ M, (nameT s).length = M := ⟨_, rfl⟩
  have HM := Lw.hid hM
  have hMN : M ≤ N := by rw [← hM, ← hN]; exact (nameT_len s).2
  rw [hN] at hs hs9
  clear h hN hM
  go_enter Tryd.func113, Tryd.ntmps113
  go_wp2_with fail
  go_loopg [3] (M + 1) (fun gk s3 wx => ∃ m : Nat, gk = M + 1 - m ∧ m ≤ M ∧ s3 = .int .i64 (m : Int) ∧ wx = w)
  case atStart => exact ⟨0, rfl, Nat.zero_le _, rfl, rfl⟩
  case round =>
    obtain ⟨m, rfl, hm, rfl, rfl⟩ := hrel
    have fin : m = M → Hid (s.take m = nameT s ∧ s.drop m = s.drop (nameT s).length) := fun e => Lw.hid (by rw [e, ← HM.out, nameT_take]; exact ⟨rfl, rfl⟩)
    have eH := BA_head s m
    have eT := BA_tail s m N HN.out.symm
    by_cases hlt : m < N
    · have eH1 := BA_head s (m + 1)
      have hlen : (s.take (m + 1)).length ≤ 1000000 := by rw [List.length_take]; omega
      have HS := Lw.hid (nameT_step (s := s) (m := m) (by rw [HN.out]; exact hlt) (by rw [HM.out]; exact hm))
      rw [HM.out] at HS
      have HC := Lw.hid (name_any wr (s.take (m + 1)) hlen)
      clear hlen
      by_cases hx : m < M
      · have hd : decide (m < M) = true := decide_eq_true hx
        rw [hd] at HS
        rw [HS.out] at HC
        go_wp2_with fail
        refine HC.out.mono ?_
        rintro x _ ⟨rfl, rfl⟩
        go_wp2_with fail
        go_roundg (M + 1 - (m + 1))
        case measure => omega
        case rel => exact ⟨m + 1, rfl, hx, by go_num, rfl⟩
      · have hd : decide (m < M) = false := decide_eq_false hx
        have FIN := fin (by omega)
        rw [hd] at HS
        rw [HS.out] at HC
        clear fin
        go_wp2_with fail
        refine HC.out.mono ?_
        rintro x _ ⟨rfl, rfl⟩
        go_wp2_with fail
        go_ret
        rw [← FIN.out.2, ← FIN.out.1]
        exact ⟨rfl, H.out.left _, K1.set (K1.refl _ _) _⟩
    · have FIN := fin (by omega)
      clear fin
      go_wp2_with fail
      go_ret
      rw [← FIN.out.2, ← FIN.out.1]
      exact ⟨rfl, H.out.left _, K1.set (K1.refl _ _) _⟩
/-- What arith tells. -/
def ArithPost (g : Nat) (s : List UInt8) (b : Bool) (x : Ending) (w' : World) : Prop := match arithW 0 s with
  | some y => x = .returned (.string (BA y.1)) ∧ RdrAt w' g ⟨y.2, b⟩
  | none => x = .returned (.string (BA [])) ∧ RdrAt w' g ⟨s, true⟩
theorem ap_some {g : Nat} {s : List UInt8} {b : Bool} {x : Ending} {w' : World} {y : List UInt8 × List UInt8} (h : arithW 0 s = some y) (hx : x = .returned (.string (BA y.1))) (hr : RdrAt w' g ⟨y.2, b⟩) : ArithPost g s b x w' := by
  unfold ArithPost; rw [h]; exact ⟨hx, hr⟩
theorem ap_none {g : Nat} {s : List UInt8} {b : Bool} {x : Ending} {w' : World} (h : arithW 0 s = none) (hx : x = .returned (.string (BA []))) (hr : RdrAt w' g ⟨s, true⟩) : ArithPost g s b x w' := by
  unfold ArithPost; rw [h]; exact ⟨hx, hr⟩
theorem arith_more {s : List UInt8} {k : Nat} {c : UInt8} {R : Option (List UInt8 × List UInt8)} (h : s[k]? = some c) (y : Option (List UInt8 × List UInt8)) (hR : ((y.map fun x => (c :: x.1, x.2)).map fun x => (s.take k ++ x.1, x.2)) = R) : (y.map fun x => (s.take (k + 1) ++ x.1, x.2)) = R := by
  have hk : k < s.length := (List.getElem?_eq_some_iff.1 h).1
  rw [List.getElem?_eq_getElem hk] at h
  rw [← hR, take_snoc s k hk, Option.some.inj h]
  cases y <;> simp
set_option maxHeartbeats 8000000 in
/-- arith. -/
theorem rarith_any (w : World) (g : Nat) (s : List UInt8) (b : Bool) (h : RdrAt w g ⟨s, b⟩) (hs9 : s.length ≤ 1000000) :
    Calls Tryd.prog 112 #[.pointer (some ⟨g, 0, none⟩)] w fun x w' => ArithPost g s b x w' ∧ K1 g w w' := by
  obtain ⟨⟨c0, c1⟩, f0, f1⟩ := h.cells
  have H := Lw.hid h
  have hs := BA_size s
  obtain ⟨N, hN⟩ : ∃ N, s.length = N := ⟨_, rfl⟩
  have HN := Lw.hid hN
  obtain ⟨R0, hR0⟩ : ∃ R0, arithW 0 s = R0 := ⟨_, rfl⟩
  have HR0 := Lw.hid hR0
  have HR1 : Hid ((arithW 0 (s.drop 0)).map (fun x => (s.take 0 ++ x.1, x.2)) = R0) := Lw.hid (by rw [List.drop_zero, hR0]; cases R0 <;> rfl)
  rw [hN] at hs hs9
  clear h hN hR0
  go_enter Tryd.func112, Tryd.ntmps112
  go_wp2_with fail
  go_loopg [3, 11] N (fun gk s3 s11 wx => ∃ k o : Nat, gk = N - k ∧ k ≤ N ∧ o ≤ k ∧ s3 = .int .i64 (o : Int) ∧ s11 = .int .i64 (k : Int) ∧ (arithW o (s.drop k)).map (fun x => (s.take k ++ x.1, x.2)) = R0 ∧ wx = w)
  case atStart => exact ⟨0, 0, rfl, Nat.zero_le _, Nat.le_refl _, rfl, rfl, HR1.out, rfl⟩
  case round =>
    obtain ⟨k, o, rfl, hk, hok, rfl, rfl, hR, rfl⟩ := hrel
    have HR := Lw.hid hR
    clear hR HR1
    by_cases hlt : k < N
    · obtain ⟨c, hc⟩ : ∃ c, s[k]? = some c := ⟨_, List.getElem?_eq_getElem (by rw [HN.out]; exact hlt)⟩
      obtain ⟨r, hr⟩ : ∃ r, s.drop k = c :: r := by
        have hk' : k < s.length := by rw [HN.out]; exact hlt
        rw [List.getElem?_eq_getElem hk'] at hc
        exact ⟨s.drop (k + 1), by rw [List.drop_eq_getElem_cons hk', Option.some.inj hc]⟩
      have g0 := BA_get hc
      have HC := Lw.hid hc
      have hr2 : s.drop (k + 1) = r := by rw [← List.drop_drop, hr]; rfl
      have HR2 := Lw.hid hr2
      have HRD := Lw.hid hr
      rw [hr] at HR
      have eH := BA_head s k
      have eT := BA_tail s k N HN.out.symm
      have eT2 := BA_tail s (k + 2) N HN.out.symm
      rw [hr] at eT
      have hl2 : (s.drop (k + 1)).length = N - (k + 1) := by rw [List.length_drop, HN.out]
      rw [hr2] at hl2
      have HL2 := Lw.hid hl2
      clear hc hr hr2 hl2
      by_cases h40 : c = 40
      · have b40 : ((c.toNat : Int) == 40) = true := by rw [h40]; rfl
        have HE : Hid ((arithW (o + 1) (s.drop (k + 1))).map (fun x => (s.take (k + 1) ++ x.1, x.2)) = R0) := Lw.hid (by
          rw [HR2.out]
          refine arith_more HC.out _ ?_
          rw [← HR.out]
          conv => rhs; unfold arithW
          rw [if_pos h40])
        clear h40
        go_wp2_with fail
        go_roundg (N - (k + 1))
        case measure => omega
        case rel => exact ⟨k + 1, o + 1, rfl, hlt, by omega, by go_num, by go_num, HE.out, rfl⟩
      · have b40 : ((c.toNat : Int) == 40) = false := u8ne (k := 40) rfl h40
        by_cases h41 : c = 41
        · have b41 : ((c.toNat : Int) == 41) = true := by rw [h41]; rfl
          by_cases ho : 0 < o
          · have HE : Hid ((arithW (o - 1) (s.drop (k + 1))).map (fun x => (s.take (k + 1) ++ x.1, x.2)) = R0) := Lw.hid (by
              rw [HR2.out]
              refine arith_more HC.out _ ?_
              rw [← HR.out]
              conv => rhs; unfold arithW
              rw [if_neg h40, if_pos ⟨h41, ho⟩])
            clear h40 h41
            go_wp2_with fail
            go_roundg (N - (k + 1))
            case measure => omega
            case rel => exact ⟨k + 1, o - 1, rfl, hlt, by omega, by go_num, by go_num, HE.out, rfl⟩
          · obtain rfl : o = 0 := by omega
            have hcl : (c :: r).length ≤ 4000000000000000000 := by rw [List.length_cons, HL2.out]; omega
            by_cases h2 : r.take 1 = [41]
            · have HH := Lw.hid (hasp_any wr (c :: r) [41, 41] hcl (by decide) true (by
                rw [h41]
                show ((41 :: r.take 1 : List UInt8) == [41, 41]) = true
                rw [h2]; rfl))
              have HE : Hid (arithW 0 s = some (s.take k, s.drop (k + 2))) := Lw.hid (by
                rw [HR0.out, ← HR.out]
                unfold arithW
                rw [if_neg h40, if_neg (fun x => Nat.lt_irrefl 0 x.2), if_pos ⟨h41, h2⟩]
                have : s.drop (k + 2) = r.drop 1 := by rw [← HR2.out, List.drop_drop]
                rw [this]; simp)
              have hk2 : k + 2 ≤ N := by
                have h3 := congrArg List.length h2
                rw [List.length_take, HL2.out] at h3
                simp at h3; omega
              clear h40 h41 h2 hcl
              go_wp2_with fail
              refine HH.out.mono ?_
              rintro e _ ⟨rfl, rfl⟩
              go_wp2_with fail
              go_ret
              exact ⟨ap_some HE.out rfl (H.out.left _), K1.set (K1.refl _ _) _⟩
            · have HH := Lw.hid (hasp_any wr (c :: r) [41, 41] hcl (by decide) false (by
                rw [h41]
                apply beq_eq_false_iff_ne.2
                intro e
                have e' : (41 :: r.take 1 : List UInt8) = [41, 41] := e
                exact h2 (List.cons.inj e').2))
              have HE : Hid ((arithW 0 (s.drop (k + 1))).map (fun x => (s.take (k + 1) ++ x.1, x.2)) = R0) := Lw.hid (by
                rw [HR2.out]
                refine arith_more HC.out _ ?_
                rw [← HR.out]
                conv => rhs; unfold arithW
                rw [if_neg h40, if_neg (fun x => Nat.lt_irrefl 0 x.2), if_neg (fun x => h2 x.2)])
              clear h40 h41 h2 hcl
              go_wp2_with fail
              refine HH.out.mono ?_
              rintro e _ ⟨rfl, rfl⟩
              go_wp2_with fail
              go_roundg (N - (k + 1))
              case measure => omega
              case rel => exact ⟨k + 1, 0, rfl, hlt, by omega, rfl, by go_num, HE.out, rfl⟩
        · have b41 : ((c.toNat : Int) == 41) = false := u8ne (k := 41) rfl h41
          have hcl : (c :: r).length ≤ 4000000000000000000 := by rw [List.length_cons, HL2.out]; omega
          have HH := Lw.hid (hasp_any wr (c :: r) [41, 41] hcl (by decide) false (by
            apply beq_eq_false_iff_ne.2
            intro e
            have e' : (c :: r.take 1 : List UInt8) = [41, 41] := e
            exact h41 (List.cons.inj e').1))
          have HE : Hid ((arithW o (s.drop (k + 1))).map (fun x => (s.take (k + 1) ++ x.1, x.2)) = R0) := Lw.hid (by
            rw [HR2.out]
            refine arith_more HC.out _ ?_
            rw [← HR.out]
            conv => rhs; unfold arithW
            rw [if_neg h40, if_neg (fun x => h41 x.1), if_neg (fun x => h41 x.1)])
          clear h40 h41 hcl
          go_wp2_with fail
          refine HH.out.mono ?_
          rintro e _ ⟨rfl, rfl⟩
          go_wp2_with fail
          go_roundg (N - (k + 1))
          case measure => omega
          case rel => exact ⟨k + 1, o, rfl, hlt, by omega, rfl, by go_num, HE.out, rfl⟩
    · obtain rfl : k = N := by omega
      have HE : Hid (arithW 0 s = none) := Lw.hid (by
        rw [HR0.out, ← HR.out, List.drop_eq_nil_of_le (by rw [HN.out]; exact Nat.le_refl _)]
        rfl)
      go_wp2_with fail
      go_ret
      exact ⟨ap_none HE.out rfl (H.out.bad' true), K1.set (K1.refl _ _) _⟩
end Go.Proofs.YtifcgeanippepaaDoor
/- package word: pair. -/
namespace Go.Proofs.YtifcgeanippepaaDoor
open Go Go.RowKit Go.Lw
set_option maxRecDepth 100000
set_option linter.unusedVariables false
set_option linter.unusedSimpArgs false
attribute [local go_sem] BA_toList
/-- A part as a value; its Or lies at o. -/
def PV (p : Prt) (o : Value) : Value := .agg #[.int .i64 p.kind, .string (BA p.text), o, .bool p.quoted]
theorem EPt : ElemT Tryd.prog 42 46 4 56 := ElemT.of (z := .agg #[.int .i64 0, .string ⟨#[]⟩, .slice none 0 0, .bool false]) Tryd.underlying42 (by kernel_rfl) rfl (by decide)
theorem contains_odd : ∀ t : List UInt8, t.length ≤ 1 → Lib.contains [36, 34, 92, 96] t = t.all oddB
  | [], _ => by decide
  | [c], _ => by
    unfold Lib.contains
    rw [Lib.index_one]
    show _ = (oddB c && true)
    rw [Bool.and_true]
    unfold oddB
    by_cases h1 : c = 36
    · subst h1; decide
    · by_cases h2 : c = 34
      · subst h2; decide
      · by_cases h3 : c = 92
        · subst h3; decide
        · by_cases h4 : c = 96
          · subst h4; decide
          · have e : ∀ {a b : UInt8}, ¬ b = a → (a == b) = false := fun h => beq_eq_false_iff_ne.2 (fun x => h x.symm)
            have e' : ∀ {a b : UInt8}, ¬ b = a → (b == a) = false := fun h => beq_eq_false_iff_ne.2 h
            simp [Lib.indexByte, e h1, e h2, e h3, e h4, e' h1, e' h2, e' h3, e' h4]
  | _ :: _ :: _, h => by simp at h
theorem lvNum (lv : Lv) : lv.num = (match lv with | .bare => 0 | .dbl => 1 | .brc => 2 : Int) := by cases lv <;> rfl
set_option maxHeartbeats 4000000 in
/-- pair. -/
theorem pair_any (lv : Lv) (w : World) (g : Nat) (s : List UInt8) (b : Bool) (h : RdrAt w g ⟨s, b⟩) (hs9 : s.length ≤ 1000000) (hE : LEnv w) :
    Calls Tryd.prog 88 #[.pointer (some ⟨g, 0, none⟩), .int .i64 lv.num] w fun x w' => x = .returned (PV (pairR lv s).1 (.slice none 0 0)) ∧ RdrAt w' g ⟨(pairR lv s).2, b⟩ ∧ K1 g w w' := by
  obtain ⟨⟨c0, c1⟩, f0, f1⟩ := h.cells
  have H := Lw.hid h
  have HE := Lw.hid hE
  have hs := BA_size s
  obtain ⟨N, hN⟩ : ∃ N, s.length = N := ⟨_, rfl⟩
  have HN := Lw.hid hN
  rw [hN] at hs hs9
  obtain ⟨M, hM⟩ : ∃ M, min N 1 = M := ⟨_, rfl⟩
  have eH := BA_head s M
  have eT := BA_tail s M N hN.symm
  have hMN : M ≤ N := by omega
  have hmin : (min (N : Int) 1) = (M : Int) := by omega
  have hgl := h.lt
  have hT : (BA (s.take M)).size = M := by rw [BA_size, List.length_take]; omega
  have HTK : Hid (s.take M = s.take 1 ∧ s.drop M = s.drop 1) := Lw.hid (by
    cases s with
    | nil => simp
    | cons c r => have : M = 1 := by simp at hN; omega
                  rw [this]; exact ⟨rfl, rfl⟩)
  clear h hN hE
  have keep : ∀ (o1 o2 : Obj) (r : List UInt8), RdrAt (((w.setCell ⟨g, 0, none⟩ (.string (BA r))).alloc o1).alloc o2).drew.drew g ⟨r, b⟩ ∧ K1 g w (((w.setCell ⟨g, 0, none⟩ (.string (BA r))).alloc o1).alloc o2).drew.drew := fun o1 o2 r =>
    ⟨(H.out.left r).kept ((((Kept.refl (fun _ => False) _).alloc o1).alloc o2).drew.drew) (fun h => h), ((((K1.set (K1.refl g w) _).alloc o1).alloc o2).drew.drew)⟩
  have HKEEP := Lw.hid keep
  clear keep
  have HPR : ∀ lv, Hid ((pairR lv s).2 = s.drop M) := fun lv => Lw.hid HTK.out.2.symm
  have HPT : ∀ lv, Hid ((pairR lv s).1 = .mk 1 (if lv = .dbl ∧ (s.take M).all oddB = false then 92 :: s.take M else s.take M) [] true) := fun lv => Lw.hid (by unfold pairR; rw [HTK.out.1])
  cases lv
  case bare =>
    have e0 : (pairR .bare s).1 = .mk 1 (s.take M) [] true := (HPT .bare).out
    rw [show Lv.num .bare = 0 from rfl, e0, (HPR .bare).out]
    clear HPT HPR e0
    go_enter Tryd.func88, Tryd.ntmps88
    go_wp2_with fail
    go_region
    go_wp2_with fail
    go_region
    go_wp2_with fail
    exact bodyPost_ret (v := PV (.mk 1 (s.take M) [] true) (.slice none 0 0)) (by simp [results, go_sem, PV, Prt.kind, Prt.text, Prt.quoted]) rfl ⟨rfl, HKEEP.out _ _ _⟩
  case brc =>
    have e0 : (pairR .brc s).1 = .mk 1 (s.take M) [] true := (HPT .brc).out
    rw [show Lv.num .brc = 2 from rfl, e0, (HPR .brc).out]
    clear HPT HPR e0
    go_enter Tryd.func88, Tryd.ntmps88
    go_wp2_with fail
    go_region
    go_wp2_with fail
    go_region
    go_wp2_with fail
    exact bodyPost_ret (v := PV (.mk 1 (s.take M) [] true) (.slice none 0 0)) (by simp [results, go_sem, PV, Prt.kind, Prt.text, Prt.quoted]) rfl ⟨rfl, HKEEP.out _ _ _⟩
  case dbl =>
    have hl1 : (s.take M).length ≤ 1 := by rw [List.length_take]; omega
    have hz : (BA [36, 34, 92, 96]).size < 4294967281 := by decide
    have CO : ∀ (w' : World), K1 g w (w') → Calls Tryd.prog 111 #[.string (BA [36, 34, 92, 96]), .string (BA (s.take M))] w' fun e w2 => e = .returned (.bool ((s.take M).all oddB)) ∧ w2 = w' := by
      intro w' k
      obtain ⟨m, hm⟩ := HE.out.max
      have hm' : w'.cell? ⟨2, 0, none⟩ = some (.int .i64 m) := k.cell hm (fun e => by
        have e' : 2 = g := e
        rw [e', H.out.cells.1.1] at hm
        cases hm)
      have := Tryd.strings_Contains (BA [36, 34, 92, 96]) (BA (s.take M)) m w' hz hm'
      rwa [BA_list, BA_list, contains_odd _ hl1] at this
    cases ho : (s.take M).all oddB with
    | true =>
      have e0 : (pairR .dbl s).1 = .mk 1 (s.take M) [] true := by rw [(HPT .dbl).out, ho]; simp
      rw [show Lv.num .dbl = 1 from rfl, e0, (HPR .dbl).out]
      rw [ho] at CO
      have HCO := Lw.hid CO
      clear HPT HPR e0 CO ho hl1 hz
      go_enter Tryd.func88, Tryd.ntmps88
      go_wp2_with fail
      go_region
      go_wp2_with fail
      go_region
      go_wp2_with fail
      refine (HCO.out _ ((((K1.set (K1.refl g w) _).alloc _).alloc _).drew.drew)).mono ?_
      rintro e _ ⟨rfl, rfl⟩
      go_wp2_with fail
      exact bodyPost_ret (v := PV (.mk 1 (s.take M) [] true) (.slice none 0 0)) (by simp [results, go_sem, PV, Prt.kind, Prt.text, Prt.quoted]) rfl ⟨rfl, HKEEP.out _ _ _⟩
    | false =>
      have e0 : (pairR .dbl s).1 = .mk 1 (92 :: s.take M) [] true := by rw [(HPT .dbl).out, ho]; simp
      rw [show Lv.num .dbl = 1 from rfl, e0, (HPR .dbl).out]
      rw [ho] at CO
      have HCO := Lw.hid CO
      clear HPT HPR e0 CO ho hl1 hz
      have hcat : (⟨#[92]⟩ : ByteArray) ++ BA (s.take M) = BA (92 :: s.take M) := BA_append [92] (s.take M)
      go_enter Tryd.func88, Tryd.ntmps88
      go_wp2_with fail
      go_region
      go_wp2_with fail
      go_region
      go_wp2_with fail
      refine (HCO.out _ ((((K1.set (K1.refl g w) _).alloc _).alloc _).drew.drew)).mono ?_
      rintro e _ ⟨rfl, rfl⟩
      go_wp2_with fail
      exact bodyPost_ret (v := PV (.mk 1 (92 :: s.take M) [] true) (.slice none 0 0)) (by simp [results, go_sem, PV, Prt.kind, Prt.text, Prt.quoted]) rfl ⟨rfl, HKEEP.out _ _ _⟩
end Go.Proofs.YtifcgeanippepaaDoor
