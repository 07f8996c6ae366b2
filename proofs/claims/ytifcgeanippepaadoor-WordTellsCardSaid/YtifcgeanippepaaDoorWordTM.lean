/- package word: quote, text, Text. -/
import Derived.Test.YtifcgeanippepaaDoorM20
import Derived.Test.YtifcgeanippepaaDoorSoftTailM
namespace Go.Proofs.YtifcgeanippepaaDoor
open Go Go.RowKit Go.Lw
set_option maxRecDepth 100000
set_option linter.unusedVariables false
set_option linter.unusedSimpArgs false
attribute [local go_sem] BA_toList
theorem oddV_any (w : World) (c : UInt8) : Calls Tryd.prog 20 #[.string ⟨#[36, 34, 92, 96]⟩, .int .u8 (c.toNat : Int)] w fun e w' => (∃ i : Int, e = .returned (.int .i64 i) ∧ decide (0 ≤ i) = oddB c) ∧ w' = w := by
  refine (idx_any [36, 34, 92, 96] c _ rfl w).mono ?_
  rintro e w' ⟨rfl, hw⟩
  refine ⟨⟨_, rfl, ?_⟩, hw⟩
  have h := contains_odd [c] (Nat.le_refl _)
  unfold Lib.contains at h
  rw [Lib.index_one] at h
  rw [h]
  show (oddB c && true) = _
  rw [Bool.and_true]
theorem idx_contains (s : List UInt8) (c : UInt8) : decide (0 ≤ Lib.indexByte s c) = s.contains c := by
  induction s with
  | nil => rfl
  | cons b l ih =>
    unfold Lib.indexByte
    by_cases h : b = c
    · subst h; simp
    · have hb : (b == c) = false := beq_eq_false_iff_ne.2 h
      have hge := Lib.indexByte_ge l c
      rw [hb]
      simp only [Bool.false_eq_true, if_false]
      have hc : (b :: l).contains c = l.contains c := by
        rw [List.contains_cons]
        have : (c == b) = false := beq_eq_false_iff_ne.2 (fun e => h e.symm)
        rw [this, Bool.false_or]
      rw [hc, ← ih]
      by_cases h2 : Lib.indexByte l c = -1
      · rw [h2]; rfl
      · have h3 : (Lib.indexByte l c == -1) = false := beq_eq_false_iff_ne.2 h2
        rw [h3]
        simp only [Bool.false_eq_true, if_false]
        rw [decide_eq_true (by omega), decide_eq_true (by omega)]
def escF (l : List UInt8) : List UInt8 := l.flatMap fun c => if oddB c then [92, c] else [c]
theorem esc_next {k : Nat} {p : List UInt8} {c : UInt8} (h : p[k]? = some c) : escF (p.take (k + 1)) = escF (p.take k) ++ (if oddB c then [92, c] else [c]) := by
  unfold escF; rw [List.take_add_one, h, List.flatMap_append]; simp
theorem esc_len (s : List UInt8) : (escF s).length ≤ 2 * s.length := by
  induction s with
  | nil => exact Nat.le_refl _
  | cons c s ih =>
    show ((if oddB c then [92, c] else [c]) ++ escF s).length ≤ _
    rw [List.length_append, List.length_cons]
    split <;> (simp; omega)
set_option maxHeartbeats 8000000 in
theorem wquote_any (w : World) (s : List UInt8) (hs9 : s.length ≤ 1000000000) :
    Calls Tryd.prog 94 #[.string (BA s)] w fun x w' => x = .returned (.string (BA (quoteF s))) ∧ w' = w := by
  have hC := Tryd.strings_Contains_one (BA s) 39 w
  rw [BA_list, idx_contains] at hC
  have hs := BA_size s
  obtain ⟨N, hN⟩ : ∃ N, s.length = N := ⟨_, rfl⟩
  have HN := Lw.hid hN
  rw [hN] at hs hs9
  clear hN
  cases hc : s.contains 39 with
  | false =>
    rw [hc] at hC
    have HC := Lw.hid hC
    have HQ : Hid (quoteF s = 39 :: s ++ [39]) := Lw.hid (by unfold quoteF; rw [hc]; rfl)
    have a1 : (⟨#[39]⟩ : ByteArray) ++ BA s = BA (39 :: s) := BA_append [39] s
    have a2 : BA (39 :: s) ++ (⟨#[39]⟩ : ByteArray) = BA (39 :: s ++ [39]) := BA_append (39 :: s) [39]
    have z1 : (BA (39 :: s)).size = N + 1 := by rw [BA_size, List.length_cons, HN.out]
    clear hC hc
    go_enter Tryd.func94, Tryd.ntmps94
    go_wp2_with fail
    refine HC.out.mono ?_
    rintro x _ ⟨rfl, rfl⟩
    go_wp2_with fail
    go_ret
    rw [HQ.out]
    exact ⟨rfl, rfl⟩
  | true =>
    rw [hc] at hC
    have HC := Lw.hid hC
    have HQ : Hid (quoteF s = 34 :: escF s ++ [34]) := Lw.hid (by unfold quoteF; rw [hc]; rfl)
    clear hC hc
    go_enter Tryd.func94, Tryd.ntmps94
    go_wp2_with fail
    refine HC.out.mono ?_
    rintro x wa ⟨rfl, rfl⟩
    go_wp2_with fail
    go_loopg [3, 13] N (fun gk s3 s13 wx => ∃ j : Nat, gk = N - j ∧ j ≤ N ∧ s3 = .string (BA (34 :: escF (s.take j))) ∧ s13 = .int .i64 (j : Int) ∧ wx = wa)
    case atStart => exact ⟨0, rfl, Nat.zero_le _, rfl, rfl, rfl⟩
    case round =>
      obtain ⟨j, rfl, hj, rfl, rfl, rfl⟩ := hrel
      have zd := esc_len (s.take j)
      have zD : (BA (34 :: escF (s.take j))).size ≤ 2 * N + 1 := by rw [BA_size, List.length_cons]; rw [List.length_take] at zd; omega
      clear zd
      by_cases hlt : j < N
      · obtain ⟨c, hc⟩ : ∃ c, s[j]? = some c := ⟨_, List.getElem?_eq_getElem (by rw [HN.out]; exact hlt)⟩
        have g0 := BA_get hc
        have eX : (BA s).extract j (j + 1) = BA [c] := by
          rw [BA_extract]
          congr 1
          have hjl : j < s.length := by rw [HN.out]; exact hlt
          rw [List.getElem?_eq_getElem hjl] at hc
          rw [take_snoc s j hjl, Option.some.inj hc, List.drop_append_of_le_length (by rw [List.length_take]; omega), List.drop_eq_nil_of_le (by rw [List.length_take]; omega)]
          rfl
        have hc9 := c.toNat_lt
        have HDN := Lw.hid (esc_next hc)
        clear hc
        obtain ⟨D, hD⟩ : ∃ q, escF (s.take j) = q := ⟨_, rfl⟩
        rw [hD] at HDN zD ⊢
        clear hD
        have zc : (BA [c]).size = 1 := BA_size _
        have b1 : BA (34 :: D) ++ (⟨#[92]⟩ : ByteArray) = BA (34 :: (D ++ [92])) := BA_append (34 :: D) [92]
        have b2 : BA (34 :: (D ++ [92])) ++ BA [c] = BA (34 :: (D ++ [92, c])) := (BA_append (34 :: D ++ [92]) [c]).trans (by simp)
        have b3 : BA (34 :: D) ++ BA [c] = BA (34 :: (D ++ [c])) := BA_append (34 :: D) [c]
        have zm : (BA (34 :: (D ++ [92]))).size ≤ 2 * N + 2 := by rw [BA_size] at zD ⊢; simp at zD ⊢; omega
        have hodd := oddV_any wr c
        cases ho : oddB c with
        | true =>
          rw [ho] at HDN hodd
          have HO := Lw.hid hodd
          clear hodd ho
          go_wp2_with fail
          refine HO.out.mono ?_
          rintro x w3 ⟨⟨i, rfl, hi⟩, rfl⟩
          go_wp2_with fail
          go_roundg (N - (j + 1))
          case measure => omega
          case rel => exact ⟨j + 1, rfl, hlt, by rw [HDN.out]; rfl, by go_num, rfl⟩
        | false =>
          rw [ho] at HDN hodd
          have HO := Lw.hid hodd
          clear hodd ho
          go_wp2_with fail
          refine HO.out.mono ?_
          rintro x w3 ⟨⟨i, rfl, hi⟩, rfl⟩
          go_wp2_with fail
          go_roundg (N - (j + 1))
          case measure => omega
          case rel => exact ⟨j + 1, rfl, hlt, by rw [HDN.out]; rfl, by go_num, rfl⟩
      · obtain rfl : j = N := by omega
        have htk : s.take j = s := List.take_of_length_le (by rw [HN.out]; exact Nat.le_refl _)
        rw [htk] at zD ⊢
        have b1 : BA (34 :: escF s) ++ (⟨#[34]⟩ : ByteArray) = BA (34 :: escF s ++ [34]) := BA_append (34 :: escF s) [34]
        go_wp2_with fail
        go_ret
        rw [HQ.out]
        exact ⟨rfl, rfl⟩
/-- The contract of Text, for words of a size. -/
def CText (n : Nat) : Prop := ∀ (w : World) (F : Nat → Prop) (v : Value) (l : List Prt), szL l ≤ n → (textW l).length ≤ 1000000000 → WAt w F v l →
  Calls Tryd.prog 29 #[v] w fun x w' => x = .returned (.string (BA (textW l))) ∧ Kept (fun _ => False) w w'
theorem textW_cons (p : Prt) (l : List Prt) : textW (p :: l) = textP p ++ textW l := by show textP.textL _ = _; rw [textP.textL]
theorem textW_nil : textW [] = [] := by show textP.textL _ = _; rw [textP.textL]
theorem quoteF_len (t : List UInt8) : t.length + 2 ≤ (quoteF t).length := by
  have key : ∀ t : List UInt8, t.length ≤ (t.flatMap (fun c => if oddB c then [92, c] else [c])).length := by
    intro t
    induction t with
    | nil => exact Nat.le_refl _
    | cons c s ih =>
      rw [List.flatMap_cons, List.length_append, List.length_cons]
      have : 1 ≤ (if oddB c then [92, c] else [c] : List UInt8).length := by split <;> simp
      omega
  unfold quoteF
  split
  · have := key t; simp only [List.length_append, List.length_cons, List.length_nil]; omega
  · simp only [List.length_append, List.length_cons, List.length_nil]; omega
/-- The text of a part that is no Plain, ahead of quotes. -/
def coreF (k : Int) (t : List UInt8) (o : List Prt) : List UInt8 := if k = 2 then [36, 123] ++ t ++ [125] else if k = 3 then [36, 123] ++ t ++ [58, 45] ++ textW o ++ [125] else if k = 4 then [36, 63] else if k = 5 then [36, 40, 40] ++ t ++ [41, 41] else t
theorem textP_mk (k : Int) (t : List UInt8) (o : List Prt) (q : Bool) : textP (.mk k t o q) = if k = 1 then (if q then quoteF t else t) else if q then [34] ++ coreF k t o ++ [34] else coreF k t o := by
  rw [textP]; rfl
set_option maxHeartbeats 8000000 in
theorem text_plain_true (n : Nat) (HT : Hid (CText n)) (w : World) (F : Nat → Prop) (t : List UInt8) (o : List Prt) (oa : Option Addr) (on oc : Nat) (hn : szL o ≤ n) (hl : (textP (.mk 1 t o true)).length ≤ 1000000000) (ho : WAt w F (.slice oa on oc) o) :
    Calls Tryd.prog 58 #[.agg #[.int .i64 1, .string (BA t), .slice oa on oc, .bool true]] w fun x w' => x = .returned (.string (BA (textP (.mk 1 t o true)))) ∧ Kept (fun _ => False) w w' := by
  have HK : Hid (Kept (fun _ => False) w (w.alloc (.cells #[.int .i64 1, .string (BA t), .slice oa on oc, .bool true] 46))) := Lw.hid ((Kept.refl _ w).alloc _)
  have HX : Hid (textP (.mk 1 t o true) = quoteF t) := Lw.hid (by rw [textP_mk]; rfl)
  rw [HX.out] at hl ⊢
  have htl : t.length ≤ 1000000000 := by have := quoteF_len t; omega
  clear hl ho hn
  go_enter Tryd.func58, Tryd.ntmps58
  go_wp2_with fail
  refine (wquote_any _ t htl).mono ?_
  rintro x _ ⟨rfl, rfl⟩
  go_wp2_with fail
  go_ret
  exact ⟨rfl, HK.out⟩
set_option maxHeartbeats 8000000 in
theorem text_plain_false (n : Nat) (HT : Hid (CText n)) (w : World) (F : Nat → Prop) (t : List UInt8) (o : List Prt) (oa : Option Addr) (on oc : Nat) (hn : szL o ≤ n) (hl : (textP (.mk 1 t o false)).length ≤ 1000000000) (ho : WAt w F (.slice oa on oc) o) :
    Calls Tryd.prog 58 #[.agg #[.int .i64 1, .string (BA t), .slice oa on oc, .bool false]] w fun x w' => x = .returned (.string (BA (textP (.mk 1 t o false)))) ∧ Kept (fun _ => False) w w' := by
  have HK : Hid (Kept (fun _ => False) w (w.alloc (.cells #[.int .i64 1, .string (BA t), .slice oa on oc, .bool false] 46))) := Lw.hid ((Kept.refl _ w).alloc _)
  have HX : Hid (textP (.mk 1 t o false) = t) := Lw.hid (by rw [textP_mk]; rfl)
  rw [HX.out] at hl ⊢
  clear hl ho hn
  go_enter Tryd.func58, Tryd.ntmps58
  go_wp2_with fail
  go_ret
  exact ⟨rfl, HK.out⟩
set_option maxHeartbeats 8000000 in
theorem text_name_true (n : Nat) (HT : Hid (CText n)) (w : World) (F : Nat → Prop) (t : List UInt8) (o : List Prt) (oa : Option Addr) (on oc : Nat) (hn : szL o ≤ n) (hl : (textP (.mk 2 t o true)).length ≤ 1000000000) (ho : WAt w F (.slice oa on oc) o) :
    Calls Tryd.prog 58 #[.agg #[.int .i64 2, .string (BA t), .slice oa on oc, .bool true]] w fun x w' => x = .returned (.string (BA (textP (.mk 2 t o true)))) ∧ Kept (fun _ => False) w w' := by
  have HK : Hid (Kept (fun _ => False) w (w.alloc (.cells #[.int .i64 2, .string (BA t), .slice oa on oc, .bool true] 46))) := Lw.hid ((Kept.refl _ w).alloc _)
  have HX : Hid (textP (.mk 2 t o true) = [34] ++ ([36, 123] ++ t ++ [125]) ++ [34]) := Lw.hid (by rw [textP_mk]; unfold coreF; rfl)
  rw [HX.out] at hl ⊢
  have zt : (BA t).size ≤ 1000000000 := by rw [BA_size]; first | omega | (simp only [List.length_append, List.length_cons, List.length_nil] at hl; omega)
  have a1 : (⟨#[36, 123]⟩ : ByteArray) ++ BA t = BA ([36, 123] ++ t) := BA_append [36, 123] t
  have a2 : BA ([36, 123] ++ t) ++ (⟨#[125]⟩ : ByteArray) = BA ([36, 123] ++ t ++ [125]) := BA_append _ [125]
  have z1 : (BA ([36, 123] ++ t)).size ≤ 1000000002 := by rw [BA_size]; simp only [List.length_append, List.length_cons, List.length_nil] at hl ⊢; omega
  have y1 : (⟨#[34]⟩ : ByteArray) ++ BA ([36, 123] ++ t ++ [125]) = BA ([34] ++ ([36, 123] ++ t ++ [125])) := BA_append [34] _
  have y2 : BA ([34] ++ ([36, 123] ++ t ++ [125])) ++ (⟨#[34]⟩ : ByteArray) = BA ([34] ++ ([36, 123] ++ t ++ [125]) ++ [34]) := BA_append _ [34]
  have zy : (BA ([36, 123] ++ t ++ [125])).size ≤ 1000000000 := by rw [BA_size]; first | (simp only [List.length_append, List.length_cons, List.length_nil] at hl ⊢; omega) | (simp only [List.length_append, List.length_cons, List.length_nil] at hl; omega) | simp
  have zz : (BA ([34] ++ ([36, 123] ++ t ++ [125]))).size ≤ 1000000001 := by rw [BA_size]; first | (simp only [List.length_append, List.length_cons, List.length_nil] at hl ⊢; omega) | simp
  clear hl ho hn HX
  generalize BA ([36, 123] ++ t) = S0 at *
  generalize BA ([36, 123] ++ t ++ [125]) = SC at *
  generalize BA ([34] ++ ([36, 123] ++ t ++ [125])) = SD at *
  generalize BA ([34] ++ ([36, 123] ++ t ++ [125]) ++ [34]) = SE at *
  go_enter Tryd.func58, Tryd.ntmps58
  go_wp2_with fail
  go_ret
  exact ⟨rfl, HK.out⟩
set_option maxHeartbeats 8000000 in
theorem text_name_false (n : Nat) (HT : Hid (CText n)) (w : World) (F : Nat → Prop) (t : List UInt8) (o : List Prt) (oa : Option Addr) (on oc : Nat) (hn : szL o ≤ n) (hl : (textP (.mk 2 t o false)).length ≤ 1000000000) (ho : WAt w F (.slice oa on oc) o) :
    Calls Tryd.prog 58 #[.agg #[.int .i64 2, .string (BA t), .slice oa on oc, .bool false]] w fun x w' => x = .returned (.string (BA (textP (.mk 2 t o false)))) ∧ Kept (fun _ => False) w w' := by
  have HK : Hid (Kept (fun _ => False) w (w.alloc (.cells #[.int .i64 2, .string (BA t), .slice oa on oc, .bool false] 46))) := Lw.hid ((Kept.refl _ w).alloc _)
  have HX : Hid (textP (.mk 2 t o false) = [36, 123] ++ t ++ [125]) := Lw.hid (by rw [textP_mk]; unfold coreF; rfl)
  rw [HX.out] at hl ⊢
  have zt : (BA t).size ≤ 1000000000 := by rw [BA_size]; first | omega | (simp only [List.length_append, List.length_cons, List.length_nil] at hl; omega)
  have a1 : (⟨#[36, 123]⟩ : ByteArray) ++ BA t = BA ([36, 123] ++ t) := BA_append [36, 123] t
  have a2 : BA ([36, 123] ++ t) ++ (⟨#[125]⟩ : ByteArray) = BA ([36, 123] ++ t ++ [125]) := BA_append _ [125]
  have z1 : (BA ([36, 123] ++ t)).size ≤ 1000000002 := by rw [BA_size]; simp only [List.length_append, List.length_cons, List.length_nil] at hl ⊢; omega
  clear hl ho hn HX
  generalize BA ([36, 123] ++ t) = S0 at *
  generalize BA ([36, 123] ++ t ++ [125]) = SC at *
  go_enter Tryd.func58, Tryd.ntmps58
  go_wp2_with fail
  go_ret
  exact ⟨rfl, HK.out⟩
set_option maxHeartbeats 8000000 in
theorem text_status_true (n : Nat) (HT : Hid (CText n)) (w : World) (F : Nat → Prop) (t : List UInt8) (o : List Prt) (oa : Option Addr) (on oc : Nat) (hn : szL o ≤ n) (hl : (textP (.mk 4 t o true)).length ≤ 1000000000) (ho : WAt w F (.slice oa on oc) o) :
    Calls Tryd.prog 58 #[.agg #[.int .i64 4, .string (BA t), .slice oa on oc, .bool true]] w fun x w' => x = .returned (.string (BA (textP (.mk 4 t o true)))) ∧ Kept (fun _ => False) w w' := by
  have HK : Hid (Kept (fun _ => False) w (w.alloc (.cells #[.int .i64 4, .string (BA t), .slice oa on oc, .bool true] 46))) := Lw.hid ((Kept.refl _ w).alloc _)
  have HX : Hid (textP (.mk 4 t o true) = [34, 36, 63, 34]) := Lw.hid (by rw [textP_mk]; rfl)
  rw [HX.out]
  clear hl ho hn HX
  go_enter Tryd.func58, Tryd.ntmps58
  go_wp2_with fail
  go_ret
  exact ⟨rfl, HK.out⟩
set_option maxHeartbeats 8000000 in
theorem text_status_false (n : Nat) (HT : Hid (CText n)) (w : World) (F : Nat → Prop) (t : List UInt8) (o : List Prt) (oa : Option Addr) (on oc : Nat) (hn : szL o ≤ n) (hl : (textP (.mk 4 t o false)).length ≤ 1000000000) (ho : WAt w F (.slice oa on oc) o) :
    Calls Tryd.prog 58 #[.agg #[.int .i64 4, .string (BA t), .slice oa on oc, .bool false]] w fun x w' => x = .returned (.string (BA (textP (.mk 4 t o false)))) ∧ Kept (fun _ => False) w w' := by
  have HK : Hid (Kept (fun _ => False) w (w.alloc (.cells #[.int .i64 4, .string (BA t), .slice oa on oc, .bool false] 46))) := Lw.hid ((Kept.refl _ w).alloc _)
  have HX : Hid (textP (.mk 4 t o false) = [36, 63]) := Lw.hid (by rw [textP_mk]; rfl)
  rw [HX.out]
  clear hl ho hn HX
  go_enter Tryd.func58, Tryd.ntmps58
  go_wp2_with fail
  go_ret
  exact ⟨rfl, HK.out⟩
set_option maxHeartbeats 8000000 in
theorem text_arith_true (n : Nat) (HT : Hid (CText n)) (w : World) (F : Nat → Prop) (t : List UInt8) (o : List Prt) (oa : Option Addr) (on oc : Nat) (hn : szL o ≤ n) (hl : (textP (.mk 5 t o true)).length ≤ 1000000000) (ho : WAt w F (.slice oa on oc) o) :
    Calls Tryd.prog 58 #[.agg #[.int .i64 5, .string (BA t), .slice oa on oc, .bool true]] w fun x w' => x = .returned (.string (BA (textP (.mk 5 t o true)))) ∧ Kept (fun _ => False) w w' := by
  have HK : Hid (Kept (fun _ => False) w (w.alloc (.cells #[.int .i64 5, .string (BA t), .slice oa on oc, .bool true] 46))) := Lw.hid ((Kept.refl _ w).alloc _)
  have HX : Hid (textP (.mk 5 t o true) = [34] ++ ([36, 40, 40] ++ t ++ [41, 41]) ++ [34]) := Lw.hid (by rw [textP_mk]; unfold coreF; rfl)
  rw [HX.out] at hl ⊢
  have zt : (BA t).size ≤ 1000000000 := by rw [BA_size]; first | omega | (simp only [List.length_append, List.length_cons, List.length_nil] at hl; omega)
  have a1 : (⟨#[36, 40, 40]⟩ : ByteArray) ++ BA t = BA ([36, 40, 40] ++ t) := BA_append [36, 40, 40] t
  have a2 : BA ([36, 40, 40] ++ t) ++ (⟨#[41, 41]⟩ : ByteArray) = BA ([36, 40, 40] ++ t ++ [41, 41]) := BA_append _ [41, 41]
  have z1 : (BA ([36, 40, 40] ++ t)).size ≤ 1000000003 := by rw [BA_size]; simp only [List.length_append, List.length_cons, List.length_nil] at hl ⊢; omega
  have y1 : (⟨#[34]⟩ : ByteArray) ++ BA ([36, 40, 40] ++ t ++ [41, 41]) = BA ([34] ++ ([36, 40, 40] ++ t ++ [41, 41])) := BA_append [34] _
  have y2 : BA ([34] ++ ([36, 40, 40] ++ t ++ [41, 41])) ++ (⟨#[34]⟩ : ByteArray) = BA ([34] ++ ([36, 40, 40] ++ t ++ [41, 41]) ++ [34]) := BA_append _ [34]
  have zy : (BA ([36, 40, 40] ++ t ++ [41, 41])).size ≤ 1000000000 := by rw [BA_size]; first | (simp only [List.length_append, List.length_cons, List.length_nil] at hl ⊢; omega) | (simp only [List.length_append, List.length_cons, List.length_nil] at hl; omega) | simp
  have zz : (BA ([34] ++ ([36, 40, 40] ++ t ++ [41, 41]))).size ≤ 1000000001 := by rw [BA_size]; first | (simp only [List.length_append, List.length_cons, List.length_nil] at hl ⊢; omega) | simp
  clear hl ho hn HX
  generalize BA ([36, 40, 40] ++ t) = S0 at *
  generalize BA ([36, 40, 40] ++ t ++ [41, 41]) = SC at *
  generalize BA ([34] ++ ([36, 40, 40] ++ t ++ [41, 41])) = SD at *
  generalize BA ([34] ++ ([36, 40, 40] ++ t ++ [41, 41]) ++ [34]) = SE at *
  go_enter Tryd.func58, Tryd.ntmps58
  go_wp2_with fail
  go_ret
  exact ⟨rfl, HK.out⟩
set_option maxHeartbeats 8000000 in
theorem text_arith_false (n : Nat) (HT : Hid (CText n)) (w : World) (F : Nat → Prop) (t : List UInt8) (o : List Prt) (oa : Option Addr) (on oc : Nat) (hn : szL o ≤ n) (hl : (textP (.mk 5 t o false)).length ≤ 1000000000) (ho : WAt w F (.slice oa on oc) o) :
    Calls Tryd.prog 58 #[.agg #[.int .i64 5, .string (BA t), .slice oa on oc, .bool false]] w fun x w' => x = .returned (.string (BA (textP (.mk 5 t o false)))) ∧ Kept (fun _ => False) w w' := by
  have HK : Hid (Kept (fun _ => False) w (w.alloc (.cells #[.int .i64 5, .string (BA t), .slice oa on oc, .bool false] 46))) := Lw.hid ((Kept.refl _ w).alloc _)
  have HX : Hid (textP (.mk 5 t o false) = [36, 40, 40] ++ t ++ [41, 41]) := Lw.hid (by rw [textP_mk]; unfold coreF; rfl)
  rw [HX.out] at hl ⊢
  have zt : (BA t).size ≤ 1000000000 := by rw [BA_size]; first | omega | (simp only [List.length_append, List.length_cons, List.length_nil] at hl; omega)
  have a1 : (⟨#[36, 40, 40]⟩ : ByteArray) ++ BA t = BA ([36, 40, 40] ++ t) := BA_append [36, 40, 40] t
  have a2 : BA ([36, 40, 40] ++ t) ++ (⟨#[41, 41]⟩ : ByteArray) = BA ([36, 40, 40] ++ t ++ [41, 41]) := BA_append _ [41, 41]
  have z1 : (BA ([36, 40, 40] ++ t)).size ≤ 1000000003 := by rw [BA_size]; simp only [List.length_append, List.length_cons, List.length_nil] at hl ⊢; omega
  clear hl ho hn HX
  generalize BA ([36, 40, 40] ++ t) = S0 at *
  generalize BA ([36, 40, 40] ++ t ++ [41, 41]) = SC at *
  go_enter Tryd.func58, Tryd.ntmps58
  go_wp2_with fail
  go_ret
  exact ⟨rfl, HK.out⟩
set_option maxHeartbeats 8000000 in
theorem text_other_true (n : Nat) (HT : Hid (CText n)) (w : World) (F : Nat → Prop) (k : Int) (t : List UInt8) (o : List Prt) (oa : Option Addr) (on oc : Nat) (hk : k ≠ 1 ∧ k ≠ 2 ∧ k ≠ 3 ∧ k ≠ 4 ∧ k ≠ 5) (hn : szL o ≤ n) (hl : (textP (.mk k t o true)).length ≤ 1000000000) (ho : WAt w F (.slice oa on oc) o) :
    Calls Tryd.prog 58 #[.agg #[.int .i64 k, .string (BA t), .slice oa on oc, .bool true]] w fun x w' => x = .returned (.string (BA (textP (.mk k t o true)))) ∧ Kept (fun _ => False) w w' := by
  have HK : Hid (Kept (fun _ => False) w (w.alloc (.cells #[.int .i64 k, .string (BA t), .slice oa on oc, .bool true] 46))) := Lw.hid ((Kept.refl _ w).alloc _)
  have HX : Hid (textP (.mk k t o true) = [34] ++ (t) ++ [34]) := Lw.hid (by rw [textP_mk]; unfold coreF; simp [hk])
  rw [HX.out] at hl ⊢
  have zt : (BA t).size ≤ 1000000000 := by rw [BA_size]; first | omega | (simp only [List.length_append, List.length_cons, List.length_nil] at hl; omega)
  obtain ⟨h1, h2, h3, h4, h5⟩ := hk
  have b1 : (k == 1) = false := by simpa using h1
  have b2 : (k == 2) = false := by simpa using h2
  have b3 : (k == 3) = false := by simpa using h3
  have b4 : (k == 4) = false := by simpa using h4
  have b5 : (k == 5) = false := by simpa using h5
  clear h1 h2 h3 h4 h5
  have y1 : (⟨#[34]⟩ : ByteArray) ++ BA (t) = BA ([34] ++ (t)) := BA_append [34] _
  have y2 : BA ([34] ++ (t)) ++ (⟨#[34]⟩ : ByteArray) = BA ([34] ++ (t) ++ [34]) := BA_append _ [34]
  have zy : (BA (t)).size ≤ 1000000000 := by rw [BA_size]; first | (simp only [List.length_append, List.length_cons, List.length_nil] at hl ⊢; omega) | (simp only [List.length_append, List.length_cons, List.length_nil] at hl; omega) | simp
  have zz : (BA ([34] ++ (t))).size ≤ 1000000001 := by rw [BA_size]; first | (simp only [List.length_append, List.length_cons, List.length_nil] at hl ⊢; omega) | simp
  clear hl ho hn HX
  generalize BA ([34] ++ t) = SD at *
  generalize BA ([34] ++ t ++ [34]) = SE at *
  go_enter Tryd.func58, Tryd.ntmps58
  go_wp2_with fail
  go_ret
  exact ⟨rfl, HK.out⟩
set_option maxHeartbeats 8000000 in
theorem text_other_false (n : Nat) (HT : Hid (CText n)) (w : World) (F : Nat → Prop) (k : Int) (t : List UInt8) (o : List Prt) (oa : Option Addr) (on oc : Nat) (hk : k ≠ 1 ∧ k ≠ 2 ∧ k ≠ 3 ∧ k ≠ 4 ∧ k ≠ 5) (hn : szL o ≤ n) (hl : (textP (.mk k t o false)).length ≤ 1000000000) (ho : WAt w F (.slice oa on oc) o) :
    Calls Tryd.prog 58 #[.agg #[.int .i64 k, .string (BA t), .slice oa on oc, .bool false]] w fun x w' => x = .returned (.string (BA (textP (.mk k t o false)))) ∧ Kept (fun _ => False) w w' := by
  have HK : Hid (Kept (fun _ => False) w (w.alloc (.cells #[.int .i64 k, .string (BA t), .slice oa on oc, .bool false] 46))) := Lw.hid ((Kept.refl _ w).alloc _)
  have HX : Hid (textP (.mk k t o false) = t) := Lw.hid (by rw [textP_mk]; unfold coreF; simp [hk])
  rw [HX.out] at hl ⊢
  have zt : (BA t).size ≤ 1000000000 := by rw [BA_size]; first | omega | (simp only [List.length_append, List.length_cons, List.length_nil] at hl; omega)
  obtain ⟨h1, h2, h3, h4, h5⟩ := hk
  have b1 : (k == 1) = false := by simpa using h1
  have b2 : (k == 2) = false := by simpa using h2
  have b3 : (k == 3) = false := by simpa using h3
  have b4 : (k == 4) = false := by simpa using h4
  have b5 : (k == 5) = false := by simpa using h5
  clear h1 h2 h3 h4 h5
  clear hl ho hn HX
  go_enter Tryd.func58, Tryd.ntmps58
  go_wp2_with fail
  go_ret
  exact ⟨rfl, HK.out⟩
set_option maxHeartbeats 8000000 in
theorem text_default_true (n : Nat) (HT : Hid (CText n)) (w : World) (F : Nat → Prop) (t : List UInt8) (o : List Prt) (oa : Option Addr) (on oc : Nat) (hn : szL o ≤ n) (hl : (textP (.mk 3 t o true)).length ≤ 1000000000) (ho : WAt w F (.slice oa on oc) o) :
    Calls Tryd.prog 58 #[.agg #[.int .i64 3, .string (BA t), .slice oa on oc, .bool true]] w fun x w' => x = .returned (.string (BA (textP (.mk 3 t o true)))) ∧ Kept (fun _ => False) w w' := by
  have HK : Hid (Kept (fun _ => False) w (w.alloc (.cells #[.int .i64 3, .string (BA t), .slice oa on oc, .bool true] 46))) := Lw.hid ((Kept.refl _ w).alloc _)
  have HX : Hid (textP (.mk 3 t o true) = [34] ++ ([36, 123] ++ t ++ [58, 45] ++ textW o ++ [125]) ++ [34]) := Lw.hid (by rw [textP_mk]; rfl)
  rw [HX.out] at hl ⊢
  have zt : (BA t).size ≤ 1000000000 := by rw [BA_size]; first | omega | (simp only [List.length_append, List.length_cons, List.length_nil] at hl; omega)
  have htx : (textW o).length ≤ 1000000000 := by simp only [List.length_append, List.length_cons, List.length_nil] at hl; omega
  have a1 : (⟨#[36, 123]⟩ : ByteArray) ++ BA t = BA ([36, 123] ++ t) := BA_append [36, 123] t
  have a2 : BA ([36, 123] ++ t) ++ (⟨#[58, 45]⟩ : ByteArray) = BA ([36, 123] ++ t ++ [58, 45]) := BA_append _ [58, 45]
  have a3 : BA ([36, 123] ++ t ++ [58, 45]) ++ BA (textW o) = BA ([36, 123] ++ t ++ [58, 45] ++ textW o) := BA_append _ _
  have a4 : BA ([36, 123] ++ t ++ [58, 45] ++ textW o) ++ (⟨#[125]⟩ : ByteArray) = BA ([36, 123] ++ t ++ [58, 45] ++ textW o ++ [125]) := BA_append _ [125]
  have z1 : (BA ([36, 123] ++ t)).size ≤ 1000000002 := by rw [BA_size]; simp only [List.length_append, List.length_cons, List.length_nil] at hl ⊢; omega
  have z2 : (BA ([36, 123] ++ t ++ [58, 45])).size ≤ 1000000004 := by rw [BA_size]; simp only [List.length_append, List.length_cons, List.length_nil] at hl ⊢; omega
  have z3 : (BA ([36, 123] ++ t ++ [58, 45] ++ textW o)).size ≤ 1000000004 := by rw [BA_size]; simp only [List.length_append, List.length_cons, List.length_nil] at hl ⊢; omega
  have z4 : (BA (textW o)).size ≤ 1000000000 := by rw [BA_size]; exact htx
  have y1 : (⟨#[34]⟩ : ByteArray) ++ BA ([36, 123] ++ t ++ [58, 45] ++ textW o ++ [125]) = BA ([34] ++ ([36, 123] ++ t ++ [58, 45] ++ textW o ++ [125])) := BA_append [34] _
  have y2 : BA ([34] ++ ([36, 123] ++ t ++ [58, 45] ++ textW o ++ [125])) ++ (⟨#[34]⟩ : ByteArray) = BA ([34] ++ ([36, 123] ++ t ++ [58, 45] ++ textW o ++ [125]) ++ [34]) := BA_append _ [34]
  have zy : (BA ([36, 123] ++ t ++ [58, 45] ++ textW o ++ [125])).size ≤ 1000000000 := by rw [BA_size]; first | (simp only [List.length_append, List.length_cons, List.length_nil] at hl ⊢; omega) | (simp only [List.length_append, List.length_cons, List.length_nil] at hl; omega) | simp
  have zz : (BA ([34] ++ ([36, 123] ++ t ++ [58, 45] ++ textW o ++ [125]))).size ≤ 1000000001 := by rw [BA_size]; first | (simp only [List.length_append, List.length_cons, List.length_nil] at hl ⊢; omega) | simp
  have HP : Hid (PAt (w.alloc (.cells #[.int .i64 3, .string (BA t), .slice oa on oc, .bool true] 46)) w.heap.size 3 t (.slice oa on oc) true) := Lw.hid (heap_alloc w _)
  have HW : Hid (WAt (w.alloc (.cells #[.int .i64 3, .string (BA t), .slice oa on oc, .bool true] 46)) F (.slice oa on oc) o) := Lw.hid (ho.kept HK.out (fun _ _ h => h))
  clear hl ho HX
  generalize BA ([36, 123] ++ t) = S0 at *
  generalize BA ([36, 123] ++ t ++ [58, 45]) = S1 at *
  generalize BA ([36, 123] ++ t ++ [58, 45] ++ textW o) = S2 at *
  generalize BA ([36, 123] ++ t ++ [58, 45] ++ textW o ++ [125]) = SC at *
  generalize BA ([34] ++ ([36, 123] ++ t ++ [58, 45] ++ textW o ++ [125])) = SD at *
  generalize BA ([34] ++ ([36, 123] ++ t ++ [58, 45] ++ textW o ++ [125]) ++ [34]) = SE at *
  go_enter Tryd.func58, Tryd.ntmps58
  go_wp2_with fail
  generalize (w.alloc (.cells #[.int .i64 3, .string (BA t), .slice oa on oc, .bool true] 46)) = w1 at *
  obtain ⟨rb, hrb⟩ : ∃ rb, w.heap.size = rb := ⟨_, rfl⟩
  rw [hrb] at HP ⊢
  clear hrb
  refine wp_region_tail 9 [stV (.pointer (some ⟨rb, 1, none⟩)), stV (.string (BA t)), stV (.string S0), stV (.string S1), stV (.pointer (some ⟨rb, 2, none⟩)), stV (.slice oa on oc), stV (.string (BA (textW o))), stV (.string S2), stV (.string SC)] (by kernel_rfl) (by kernel_rfl) ?_ ?_
  · -- each operation by itself
    refine ssteps_cons (fun a' w' hI hag hf K hK => ?_) ?_
    · have s1 := hag.same 1 (by decide)
      clear hag
      go_wp2_with fail
      exact hK _ _ hI (Kept.refl _ _) rfl
    refine ssteps_cons (fun a' w' hI hag hf K hK => ?_) ?_
    · obtain ⟨⟨_, h0, rfl⟩, -⟩ : SFacts _ _ a' w' [0] := hf
      clear hag
      have hh : PAt w' rb 3 t (.slice oa on oc) true := hI.heap HP.out (fun h => h)
      obtain ⟨⟨p0, p1, p2, p3⟩, -⟩ := PAt.cells hh
      clear hh
      go_wp2_with fail
      exact hK _ _ hI (Kept.refl _ _) rfl
    refine ssteps_cons (fun a' w' hI hag hf K hK => ?_) ?_
    · obtain ⟨⟨_, h1, rfl⟩, -⟩ : SFacts _ _ a' w' [1] := hf
      clear hag
      go_wp2_with fail
      exact hK _ _ hI (Kept.refl _ _) rfl
    refine ssteps_cons (fun a' w' hI hag hf K hK => ?_) ?_
    · obtain ⟨⟨_, h2, rfl⟩, -⟩ : SFacts _ _ a' w' [2] := hf
      clear hag
      go_wp2_with fail
      exact hK _ _ hI (Kept.refl _ _) rfl
    refine ssteps_cons (fun a' w' hI hag hf K hK => ?_) ?_
    · have s1 := hag.same 1 (by decide)
      clear hag
      go_wp2_with fail
      exact hK _ _ hI (Kept.refl _ _) rfl
    refine ssteps_cons (fun a' w' hI hag hf K hK => ?_) ?_
    · obtain ⟨⟨_, h4, rfl⟩, -⟩ : SFacts _ _ a' w' [4] := hf
      clear hag
      have hh : PAt w' rb 3 t (.slice oa on oc) true := hI.heap HP.out (fun h => h)
      obtain ⟨⟨p0, p1, p2, p3⟩, -⟩ := PAt.cells hh
      clear hh
      go_wp2_with fail
      exact hK _ _ hI (Kept.refl _ _) rfl
    refine ssteps_cons (fun a' w' hI hag hf K hK => ?_) ?_
    · obtain ⟨⟨_, h5, rfl⟩, -⟩ : SFacts _ _ a' w' [5] := hf
      clear hag
      go_wp2_with fail
      refine (HT.out _ F (.slice oa on oc) o hn htx (HW.out.kept hI (fun _ _ h => h))).mono ?_
      rintro e wn ⟨rfl, hkn⟩
      go_wp2_with fail
      exact hK _ _ (hI.trans hkn (fun _ _ h => h)) hkn rfl
    refine ssteps_cons (fun a' w' hI hag hf K hK => ?_) ?_
    · obtain ⟨⟨_, h3, rfl⟩, ⟨_, h6, rfl⟩, -⟩ : SFacts _ _ a' w' [3, 6] := hf
      clear hag
      go_wp2_with fail
      exact hK _ _ hI (Kept.refl _ _) rfl
    refine ssteps_cons (fun a' w' hI hag hf K hK => ?_) ?_
    · obtain ⟨⟨_, h7, rfl⟩, -⟩ : SFacts _ _ a' w' [7] := hf
      clear hag
      go_wp2_with fail
      exact hK _ _ hI (Kept.refl _ _) rfl
    exact trivial
  · intro vs w' hI hvs
    have q0 : vs 0 = (.pointer (some ⟨rb, 1, none⟩)) := hvs 0 _ _ rfl rfl
    have q1 : vs 1 = (.string (BA t)) := hvs 1 _ _ rfl rfl
    have q2 : vs 2 = (.string S0) := hvs 2 _ _ rfl rfl
    have q3 : vs 3 = (.string S1) := hvs 3 _ _ rfl rfl
    have q4 : vs 4 = (.pointer (some ⟨rb, 2, none⟩)) := hvs 4 _ _ rfl rfl
    have q5 : vs 5 = (.slice oa on oc) := hvs 5 _ _ rfl rfl
    have q6 : vs 6 = (.string (BA (textW o))) := hvs 6 _ _ rfl rfl
    have q7 : vs 7 = (.string S2) := hvs 7 _ _ rfl rfl
    have q8 : vs 8 = (.string SC) := hvs 8 _ _ rfl rfl
    clear hvs
    simp only [List.take_succ_cons, List.take_zero, List.drop_succ_cons, List.drop_zero, putAll, Act.put, List.setIfInBounds_toArray, List.set_cons_zero, List.set_cons_succ, Nat.reduceAdd, q0, q1, q2, q3, q4, q5, q6, q7, q8]
    clear q0 q1 q2 q3 q4 q5 q6 q7 q8
    have KX := Lw.hid (HK.out.trans hI (fun _ _ h => h))
    have hh := hI.heap HP.out (fun h => h)
    obtain ⟨⟨p0, p1, p2, p3⟩, -⟩ := PAt.cells hh
    clear hh
    go_wp2_with fail
    go_ret
    exact ⟨rfl, KX.out⟩
set_option maxHeartbeats 8000000 in
theorem text_default_false (n : Nat) (HT : Hid (CText n)) (w : World) (F : Nat → Prop) (t : List UInt8) (o : List Prt) (oa : Option Addr) (on oc : Nat) (hn : szL o ≤ n) (hl : (textP (.mk 3 t o false)).length ≤ 1000000000) (ho : WAt w F (.slice oa on oc) o) :
    Calls Tryd.prog 58 #[.agg #[.int .i64 3, .string (BA t), .slice oa on oc, .bool false]] w fun x w' => x = .returned (.string (BA (textP (.mk 3 t o false)))) ∧ Kept (fun _ => False) w w' := by
  have HK : Hid (Kept (fun _ => False) w (w.alloc (.cells #[.int .i64 3, .string (BA t), .slice oa on oc, .bool false] 46))) := Lw.hid ((Kept.refl _ w).alloc _)
  have HX : Hid (textP (.mk 3 t o false) = [36, 123] ++ t ++ [58, 45] ++ textW o ++ [125]) := Lw.hid (by rw [textP_mk]; rfl)
  rw [HX.out] at hl ⊢
  have zt : (BA t).size ≤ 1000000000 := by rw [BA_size]; first | omega | (simp only [List.length_append, List.length_cons, List.length_nil] at hl; omega)
  have htx : (textW o).length ≤ 1000000000 := by simp only [List.length_append, List.length_cons, List.length_nil] at hl; omega
  have a1 : (⟨#[36, 123]⟩ : ByteArray) ++ BA t = BA ([36, 123] ++ t) := BA_append [36, 123] t
  have a2 : BA ([36, 123] ++ t) ++ (⟨#[58, 45]⟩ : ByteArray) = BA ([36, 123] ++ t ++ [58, 45]) := BA_append _ [58, 45]
  have a3 : BA ([36, 123] ++ t ++ [58, 45]) ++ BA (textW o) = BA ([36, 123] ++ t ++ [58, 45] ++ textW o) := BA_append _ _
  have a4 : BA ([36, 123] ++ t ++ [58, 45] ++ textW o) ++ (⟨#[125]⟩ : ByteArray) = BA ([36, 123] ++ t ++ [58, 45] ++ textW o ++ [125]) := BA_append _ [125]
  have z1 : (BA ([36, 123] ++ t)).size ≤ 1000000002 := by rw [BA_size]; simp only [List.length_append, List.length_cons, List.length_nil] at hl ⊢; omega
  have z2 : (BA ([36, 123] ++ t ++ [58, 45])).size ≤ 1000000004 := by rw [BA_size]; simp only [List.length_append, List.length_cons, List.length_nil] at hl ⊢; omega
  have z3 : (BA ([36, 123] ++ t ++ [58, 45] ++ textW o)).size ≤ 1000000004 := by rw [BA_size]; simp only [List.length_append, List.length_cons, List.length_nil] at hl ⊢; omega
  have z4 : (BA (textW o)).size ≤ 1000000000 := by rw [BA_size]; exact htx
  have HP : Hid (PAt (w.alloc (.cells #[.int .i64 3, .string (BA t), .slice oa on oc, .bool false] 46)) w.heap.size 3 t (.slice oa on oc) false) := Lw.hid (heap_alloc w _)
  have HW : Hid (WAt (w.alloc (.cells #[.int .i64 3, .string (BA t), .slice oa on oc, .bool false] 46)) F (.slice oa on oc) o) := Lw.hid (ho.kept HK.out (fun _ _ h => h))
  clear hl ho HX
  generalize BA ([36, 123] ++ t) = S0 at *
  generalize BA ([36, 123] ++ t ++ [58, 45]) = S1 at *
  generalize BA ([36, 123] ++ t ++ [58, 45] ++ textW o) = S2 at *
  generalize BA ([36, 123] ++ t ++ [58, 45] ++ textW o ++ [125]) = SC at *
  go_enter Tryd.func58, Tryd.ntmps58
  go_wp2_with fail
  generalize (w.alloc (.cells #[.int .i64 3, .string (BA t), .slice oa on oc, .bool false] 46)) = w1 at *
  obtain ⟨rb, hrb⟩ : ∃ rb, w.heap.size = rb := ⟨_, rfl⟩
  rw [hrb] at HP ⊢
  clear hrb
  refine wp_region_tail 9 [stV (.pointer (some ⟨rb, 1, none⟩)), stV (.string (BA t)), stV (.string S0), stV (.string S1), stV (.pointer (some ⟨rb, 2, none⟩)), stV (.slice oa on oc), stV (.string (BA (textW o))), stV (.string S2), stV (.string SC)] (by kernel_rfl) (by kernel_rfl) ?_ ?_
  · -- each operation by itself
    refine ssteps_cons (fun a' w' hI hag hf K hK => ?_) ?_
    · have s1 := hag.same 1 (by decide)
      clear hag
      go_wp2_with fail
      exact hK _ _ hI (Kept.refl _ _) rfl
    refine ssteps_cons (fun a' w' hI hag hf K hK => ?_) ?_
    · obtain ⟨⟨_, h0, rfl⟩, -⟩ : SFacts _ _ a' w' [0] := hf
      clear hag
      have hh : PAt w' rb 3 t (.slice oa on oc) false := hI.heap HP.out (fun h => h)
      obtain ⟨⟨p0, p1, p2, p3⟩, -⟩ := PAt.cells hh
      clear hh
      go_wp2_with fail
      exact hK _ _ hI (Kept.refl _ _) rfl
    refine ssteps_cons (fun a' w' hI hag hf K hK => ?_) ?_
    · obtain ⟨⟨_, h1, rfl⟩, -⟩ : SFacts _ _ a' w' [1] := hf
      clear hag
      go_wp2_with fail
      exact hK _ _ hI (Kept.refl _ _) rfl
    refine ssteps_cons (fun a' w' hI hag hf K hK => ?_) ?_
    · obtain ⟨⟨_, h2, rfl⟩, -⟩ : SFacts _ _ a' w' [2] := hf
      clear hag
      go_wp2_with fail
      exact hK _ _ hI (Kept.refl _ _) rfl
    refine ssteps_cons (fun a' w' hI hag hf K hK => ?_) ?_
    · have s1 := hag.same 1 (by decide)
      clear hag
      go_wp2_with fail
      exact hK _ _ hI (Kept.refl _ _) rfl
    refine ssteps_cons (fun a' w' hI hag hf K hK => ?_) ?_
    · obtain ⟨⟨_, h4, rfl⟩, -⟩ : SFacts _ _ a' w' [4] := hf
      clear hag
      have hh : PAt w' rb 3 t (.slice oa on oc) false := hI.heap HP.out (fun h => h)
      obtain ⟨⟨p0, p1, p2, p3⟩, -⟩ := PAt.cells hh
      clear hh
      go_wp2_with fail
      exact hK _ _ hI (Kept.refl _ _) rfl
    refine ssteps_cons (fun a' w' hI hag hf K hK => ?_) ?_
    · obtain ⟨⟨_, h5, rfl⟩, -⟩ : SFacts _ _ a' w' [5] := hf
      clear hag
      go_wp2_with fail
      refine (HT.out _ F (.slice oa on oc) o hn htx (HW.out.kept hI (fun _ _ h => h))).mono ?_
      rintro e wn ⟨rfl, hkn⟩
      go_wp2_with fail
      exact hK _ _ (hI.trans hkn (fun _ _ h => h)) hkn rfl
    refine ssteps_cons (fun a' w' hI hag hf K hK => ?_) ?_
    · obtain ⟨⟨_, h3, rfl⟩, ⟨_, h6, rfl⟩, -⟩ : SFacts _ _ a' w' [3, 6] := hf
      clear hag
      go_wp2_with fail
      exact hK _ _ hI (Kept.refl _ _) rfl
    refine ssteps_cons (fun a' w' hI hag hf K hK => ?_) ?_
    · obtain ⟨⟨_, h7, rfl⟩, -⟩ : SFacts _ _ a' w' [7] := hf
      clear hag
      go_wp2_with fail
      exact hK _ _ hI (Kept.refl _ _) rfl
    exact trivial
  · intro vs w' hI hvs
    have q0 : vs 0 = (.pointer (some ⟨rb, 1, none⟩)) := hvs 0 _ _ rfl rfl
    have q1 : vs 1 = (.string (BA t)) := hvs 1 _ _ rfl rfl
    have q2 : vs 2 = (.string S0) := hvs 2 _ _ rfl rfl
    have q3 : vs 3 = (.string S1) := hvs 3 _ _ rfl rfl
    have q4 : vs 4 = (.pointer (some ⟨rb, 2, none⟩)) := hvs 4 _ _ rfl rfl
    have q5 : vs 5 = (.slice oa on oc) := hvs 5 _ _ rfl rfl
    have q6 : vs 6 = (.string (BA (textW o))) := hvs 6 _ _ rfl rfl
    have q7 : vs 7 = (.string S2) := hvs 7 _ _ rfl rfl
    have q8 : vs 8 = (.string SC) := hvs 8 _ _ rfl rfl
    clear hvs
    simp only [List.take_succ_cons, List.take_zero, List.drop_succ_cons, List.drop_zero, putAll, Act.put, List.setIfInBounds_toArray, List.set_cons_zero, List.set_cons_succ, Nat.reduceAdd, q0, q1, q2, q3, q4, q5, q6, q7, q8]
    clear q0 q1 q2 q3 q4 q5 q6 q7 q8
    have KX := Lw.hid (HK.out.trans hI (fun _ _ h => h))
    have hh := hI.heap HP.out (fun h => h)
    obtain ⟨⟨p0, p1, p2, p3⟩, -⟩ := PAt.cells hh
    clear hh
    go_wp2_with fail
    go_ret
    exact ⟨rfl, KX.out⟩
/-- text. -/
theorem parttext_any (n : Nat) (HT : Hid (CText n)) (w : World) (F : Nat → Prop) (p : Prt) (oa : Option Addr) (on oc : Nat) (hn : szL p.orw ≤ n) (hl : (textP p).length ≤ 1000000000) (ho : WAt w F (.slice oa on oc) p.orw) :
    Calls Tryd.prog 58 #[.agg #[.int .i64 p.kind, .string (BA p.text), .slice oa on oc, .bool p.quoted]] w fun x w' => x = .returned (.string (BA (textP p))) ∧ Kept (fun _ => False) w w' := by
  obtain ⟨k, t, o, q⟩ := p
  by_cases h1 : k = 1
  · subst h1; cases q
    · exact text_plain_false n HT w F t o oa on oc hn hl ho
    · exact text_plain_true n HT w F t o oa on oc hn hl ho
  by_cases h2 : k = 2
  · subst h2; cases q
    · exact text_name_false n HT w F t o oa on oc hn hl ho
    · exact text_name_true n HT w F t o oa on oc hn hl ho
  by_cases h3 : k = 3
  · subst h3; cases q
    · exact text_default_false n HT w F t o oa on oc hn hl ho
    · exact text_default_true n HT w F t o oa on oc hn hl ho
  by_cases h4 : k = 4
  · subst h4; cases q
    · exact text_status_false n HT w F t o oa on oc hn hl ho
    · exact text_status_true n HT w F t o oa on oc hn hl ho
  by_cases h5 : k = 5
  · subst h5; cases q
    · exact text_arith_false n HT w F t o oa on oc hn hl ho
    · exact text_arith_true n HT w F t o oa on oc hn hl ho
  cases q
  · exact text_other_false n HT w F k t o oa on oc ⟨h1, h2, h3, h4, h5⟩ hn hl ho
  · exact text_other_true n HT w F k t o oa on oc ⟨h1, h2, h3, h4, h5⟩ hn hl ho
theorem textW_take {l : List Prt} {k : Nat} {p : Prt} (h : l[k]? = some p) : textW (l.take (k + 1)) = textW (l.take k) ++ textP p := by
  induction l generalizing k with
  | nil => simp at h
  | cons x l ih =>
    cases k with
    | zero =>
      simp at h; subst h
      rw [List.take_succ_cons, List.take_zero, List.take_zero, textW_cons, textW_nil, List.append_nil, List.nil_append]
    | succ k =>
      rw [List.take_succ_cons, List.take_succ_cons, textW_cons, textW_cons, ih (by simpa using h), List.append_assoc]
theorem textW_app : ∀ (a b : List Prt), textW (a ++ b) = textW a ++ textW b
  | [], b => by rw [textW_nil]; rfl
  | p :: a, b => by rw [List.cons_append, textW_cons, textW_cons, textW_app a b, List.append_assoc]
theorem textW_le (l : List Prt) (k : Nat) : (textW (l.take k)).length ≤ (textW l).length := by
  conv => rhs; rw [← List.take_append_drop k l, textW_app, List.length_append]
  omega
set_option maxHeartbeats 8000000 in
/-- Text. -/
theorem text_all (n : Nat) : CText n := by
  induction n using Nat.strongRecOn with
  | ind n ih =>
    intro w F v l hn htl hv
    obtain ⟨a, N, c, rfl⟩ := hv.slice
    have hN := hv.elem.1
    have hn9 := hv.max
    have HV := Lw.hid hv; have HN := Lw.hid hN; have HTL := Lw.hid htl; have HSZ := Lw.hid hn
    have HT : Hid (CText (n - 1)) := Lw.hid (ih (n - 1) (by have := szL_pos l; omega))
    clear ih hv hN htl hn
    go_enter Tryd.func29, Tryd.ntmps29
    go_wp2_with fail
    go_loopg [3, 8] N (fun gk s3 s8 wx => ∃ k : Nat, gk = N - k ∧ k ≤ N ∧ s3 = .string (BA (textW (l.take k))) ∧ s8 = .int .i64 (k : Int) ∧ Kept (fun _ => False) w wx)
    case atStart => exact ⟨0, rfl, Nat.zero_le _, by rw [List.take_zero, textW_nil]; rfl, rfl, Kept.refl _ _⟩
    case round =>
      obtain ⟨k, rfl, hk, rfl, rfl, hkk⟩ := hrel
      have HKK := Lw.hid hkk
      clear hkk
      by_cases hlt : k < N
      · obtain ⟨p, hp⟩ : ∃ p, l[k]? = some p := ⟨_, List.getElem?_eq_getElem (by rw [← HN.out]; exact hlt)⟩
        have hpm : p ∈ l := List.mem_of_getElem? hp
        have hps : szL p.orw ≤ n - 1 := by
          have h1 : szP p < szL l := szL_mem hpm
          have h2 := sizeOf_orw p
          have h3 := HSZ.out
          omega
        have hnx := textW_take hp
        have hle1 := textW_le l (k + 1)
        rw [hnx, List.length_append] at hle1
        have hpt : (textP p).length ≤ 1000000000 := by have := HTL.out; omega
        have zA : (BA (textW (l.take k))).size ≤ 1000000000 := by rw [BA_size]; have := HTL.out; omega
        have zB : (BA (textP p)).size ≤ 1000000000 := by rw [BA_size]; exact hpt
        have bA := BA_append (textW (l.take k)) (textP p)
        rw [← hnx] at bA
        obtain ⟨b1, o1, oa, on, oc, e1, p0, p1, p2, p3, hao⟩ := (HV.out.kept HKK.out (fun _ _ h => h)).elem.2 k p hp
        subst e1
        have HAO := Lw.hid (hao.kept ((Kept.refl (fun _ => False) wr).alloc (.cells #[.int .i64 p.kind, .string (BA p.text), .slice oa on oc, .bool p.quoted] 46)) (fun _ _ h => h))
        have hbl : b1 < wr.heap.size := World.block_lt_of_cell? wr _ p0
        have HC := Lw.hid (parttext_any (n - 1) HT _ F p oa on oc hps hpt HAO.out)
        have K2 := Lw.hid (HKK.out.alloc (.cells #[.int .i64 p.kind, .string (BA p.text), .slice oa on oc, .bool p.quoted] 46))
        clear hp hpm hps hnx hle1 hpt hao
        go_wp2_with fail
        refine HC.out.mono ?_
        rintro x w4 ⟨rfl, k4⟩
        have K4 := Lw.hid (K2.out.trans k4 (fun _ _ h => h))
        clear k4
        go_wp2_with fail
        go_roundg (N - (k + 1))
        case measure => omega
        case rel => exact ⟨k + 1, rfl, hlt, rfl, by go_num, K4.out⟩
      · obtain rfl : k = N := by omega
        have htk : l.take k = l := List.take_of_length_le (by rw [← HN.out]; exact Nat.le_refl _)
        rw [htk]
        go_wp2_with fail
        go_ret
        exact ⟨rfl, HKK.out⟩
theorem text_any {w : World} {F : Nat → Prop} {v : Value} {l : List Prt} (hl : (textW l).length ≤ 1000000000) (hv : WAt w F v l) :
    Calls Tryd.prog 29 #[v] w fun x w' => x = .returned (.string (BA (textW l))) ∧ Kept (fun _ => False) w w' := text_all (szL l) w F v l (Nat.le_refl _) hl hv
end Go.Proofs.YtifcgeanippepaaDoor
