/- LexAgain: like, EqualFunc, Join. -/
import Derived.Test.YtifcgeanippepaaDoorAgainQ
import Derived.Test.YtifcgeanippepaaDoorTilesH
namespace Go.Proofs.YtifcgeanippepaaDoor
open Go Go.RowKit Go.Lw
set_option maxRecDepth 100000
set_option linter.unusedVariables false
set_option linter.unusedSimpArgs false
attribute [local go_sem] BA_toList
theorem like_any (w : World) (kd : Nat) (tx : List UInt8) (p q : Int) :
    Calls Tryd.prog 14 #[.agg #[.int .i64 (kd : Int), .string (BA tx), .int .i64 p], .agg #[.int .i64 (kd : Int), .string (BA tx), .int .i64 q]] w fun x w' => x = .returned (.bool true) ∧ Kept (fun _ => False) w w' := by
  have hbx : (BA tx == BA tx) = true := by rw [BA_beq]; simp
  have K1 : Hid (Kept (fun _ => False) w ((w.alloc (.cells #[.int .i64 (kd : Int), .string (BA tx), .int .i64 p] 28)).alloc (.cells #[.int .i64 (kd : Int), .string (BA tx), .int .i64 q] 28))) := Lw.hid (((Kept.refl _ w).alloc _).alloc _)
  go_enter Tryd.func14, Tryd.ntmps14
  go_wp2_with fail
  go_ret
  exact ⟨rfl, K1.out⟩
set_option maxHeartbeats 8000000 in
theorem eqf_any (w : World) (v1 v2 : Value) (l m : List Tk) (h1 : w.ownsRow 0 28 3 v1 l.length (l.flatMap Tk.cells)) (h2 : w.ownsRow 0 28 3 v2 m.length (m.flatMap Tk.cells)) (he : l.map Tk.kt = m.map Tk.kt) (hl9 : l.length ≤ 2048) :
    Calls Tryd.prog 17 #[v1, v2, .func (.func 14) #[] #[]] w fun x w' => x = .returned (.bool true) ∧ Kept (fun _ => False) w w' := by
  have hlm : m.length = l.length := by have := congrArg List.length he; simpa using this.symm
  obtain ⟨ad1, cap1, rfl, c11, c12, c13⟩ := own_slice h1
  obtain ⟨ad2, cap2, rfl, c21, c22, c23⟩ := own_slice h2
  unfold maxLen at c12 c22
  have HO1 := Lw.hid h1; have HO2 := Lw.hid h2; have HC1 := Lw.hid c13; have HC2 := Lw.hid c23; have HEQ := Lw.hid he
  obtain ⟨n, hn⟩ : ∃ n, l.length = n := ⟨_, rfl⟩
  rw [hn] at hlm c11 hl9
  have HN := Lw.hid hn
  have HM := Lw.hid hlm
  rw [hlm] at c21
  rw [hn, hlm]
  clear h1 h2 c13 c23 he hn hlm
  have hnn : ((n : Int) != (n : Int)) = false := by simp
  go_enter Tryd.func17, Tryd.ntmps17
  go_wp2_with fail
  go_loopg [17] n (fun gk s17 wx => ∃ k : Nat, gk = n - k ∧ k ≤ n ∧ s17 = .int .i64 (k : Int) ∧ Kept (fun _ => False) w wx)
  case atStart => exact ⟨0, rfl, Nat.zero_le _, rfl, Kept.refl _ _⟩
  case round =>
    obtain ⟨k, rfl, hk, rfl, hkk⟩ := hrel
    have HKK := Lw.hid hkk
    have HW1 := Lw.hid (own_kept hkk HO1.out (fun _ _ h => h)); have HW2 := Lw.hid (own_kept hkk HO2.out (fun _ _ h => h))
    clear hkk
    by_cases hlt : k < n
    · obtain ⟨t, ht⟩ : ∃ t, l[k]? = some t := ⟨_, List.getElem?_eq_getElem (by rw [HN.out]; exact hlt)⟩
      obtain ⟨u, hu⟩ : ∃ u, m[k]? = some u := ⟨_, List.getElem?_eq_getElem (by rw [HM.out]; exact hlt)⟩
      obtain ⟨g1, rfl⟩ := HC1.out (by rw [HN.out]; omega)
      obtain ⟨g2, rfl⟩ := HC2.out (by rw [HM.out]; omega)
      obtain ⟨a0, a1, a2⟩ := tk_at HW1.out k t ht
      have hku : t.kt = u.kt := by
        have h3 : (l.map Tk.kt)[k]? = some t.kt := by rw [List.getElem?_map, ht]; rfl
        have h4 : (m.map Tk.kt)[k]? = some u.kt := by rw [List.getElem?_map, hu]; rfl
        rw [HEQ.out, h4] at h3
        exact (Option.some.inj h3).symm
      obtain ⟨kd, tx, p⟩ := t
      obtain ⟨kd2, tx2, q⟩ := u
      cases hku
      simp only at a0 a1 a2
      obtain ⟨b0, b1, b2⟩ := tk_at (own_kept ((Kept.refl (fun _ => False) wr).alloc (.cells #[.int .i64 (kd : Int), .string (BA tx), .int .i64 (p : Int)] 28)) HW2.out (fun _ _ h => h)) k ⟨kd, tx, q⟩ hu
      simp only at b0 b1 b2
      have K2 : Hid (Kept (fun _ => False) w ((wr.alloc (.cells #[.int .i64 (kd : Int), .string (BA tx), .int .i64 (p : Int)] 28)).alloc (.cells #[.int .i64 (kd : Int), .string (BA tx), .int .i64 (q : Int)] 28))) := Lw.hid ((HKK.out.alloc _).alloc _)
      clear ht hu
      go_wp2_with fail
      refine (like_any _ kd tx p q).mono ?_
      rintro x w4 ⟨rfl, k4⟩
      have K4 := Lw.hid (K2.out.trans k4 (fun _ _ h => h))
      clear k4
      go_wp2_with fail
      go_roundg (n - (k + 1))
      case measure => omega
      case rel => exact ⟨k + 1, rfl, hlt, by go_num, K4.out⟩
    · obtain rfl : k = n := by omega
      go_wp2_with fail
      go_ret
      exact ⟨rfl, HKK.out⟩
theorem ETs : ElemT Tryd.prog 32 9 1 16 := ElemT.of (z := .string ⟨#[]⟩) Tryd.underlying32 (by kernel_rfl) rfl (by decide)
def txV (l : List Tk) : List Value := l.map fun t => .string (BA t.text)
theorem txV_snoc {l : List Tk} {k : Nat} {t : Tk} (h : l[k]? = some t) : txV (l.take (k + 1)) = txV (l.take k) ++ [.string (BA t.text)] := by
  unfold txV
  rw [take_snoc l k (List.getElem?_eq_some_iff.1 h).1, List.map_append]
  rw [List.getElem?_eq_getElem (List.getElem?_eq_some_iff.1 h).1] at h
  rw [Option.some.inj h]; rfl
theorem join_lib : ∀ l : List Tk, Lib.join ((l.map fun t => BA t.text).map (·.data.toList)) [32] = joinK (l.map Tk.kt)
  | [] => rfl
  | [t] => Lib.join_one t.text [32]
  | t :: u :: l => by
    have ih := join_lib (u :: l)
    show t.text ++ ([32] ++ Lib.join (((u :: l).map fun t => BA t.text).map (·.data.toList)) [32]) = _
    rw [ih]
    rfl
theorem strs_cell {w : World} {g n c : Nat} {l : List Tk} (h : w.ownsRow 0 9 1 (.slice (some ⟨g, 0, none⟩) n c) l.length (txV l)) (j : Nat) (x : ByteArray) (hx : (l.map fun t => BA t.text)[j]? = some x) : w.cell? ⟨g, 0 + j, none⟩ = some (.string x) := by
  obtain ⟨_, a, cap, e, _, _, hc⟩ := Rd.own h
  cases e
  obtain ⟨g', off, e2, h2⟩ := hc j (.string x) (by
    unfold txV
    rw [List.getElem?_map] at hx ⊢
    cases hl : l[j]? with
    | none => rw [hl] at hx; cases hx
    | some t => rw [hl] at hx; cases hx; rfl)
  cases e2
  exact h2
set_option maxHeartbeats 8000000 in
theorem joink_any (w : World) (v : Value) (l : List Tk) (ho : w.ownsRow 0 28 3 v l.length (l.flatMap Tk.cells)) (hl9 : l.length ≤ 2048) (hj9 : (joinK (l.map Tk.kt)).length ≤ 1000000) :
    Calls Tryd.prog 15 #[v] w fun x w' => x = .returned (.string (BA (joinK (l.map Tk.kt)))) ∧ Kept (fun _ => False) w w' := by
  obtain ⟨ad, cap, rfl, hc1, hc2, hc3⟩ := own_slice ho
  unfold maxLen at hc2
  have HO := Lw.hid ho; have HC3 := Lw.hid hc3; have HJ := Lw.hid hj9
  obtain ⟨n, hn⟩ : ∃ n, l.length = n := ⟨_, rfl⟩
  have HN := Lw.hid hn
  rw [hn] at hc1 hl9 ⊢
  clear ho hn hc3 hj9
  go_enter Tryd.func15, Tryd.ntmps15
  go_wp2_with fail
  go_loopg [3, 8] n (fun gk s3 s8 wx => ∃ k : Nat, gk = n - k ∧ k ≤ n ∧ s8 = .int .i64 (k : Int) ∧ wx.ownsRow 0 9 1 s3 k (txV (l.take k)) ∧ (∀ i, blk s3 i → w.heap.size ≤ i) ∧ Kept (fun _ => False) w wx)
  case atStart => exact ⟨0, rfl, Nat.zero_le _, rfl, World.ownsRow_nil w 0 _ 1, (fun i hi => by cases hi), Kept.refl _ _⟩
  case round =>
    obtain ⟨k, rfl, hk, rfl, hos, hbs, hkk⟩ := hrel
    obtain ⟨ads, caps, rfl, d1, d2, d3⟩ := own_slice hos
    unfold maxLen at d2
    have HKK := Lw.hid hkk; have HOS := Lw.hid hos; have HBS := Lw.hid hbs; have HD3 := Lw.hid d3
    have HOW := Lw.hid (own_kept hkk HO.out (fun _ _ h => h))
    clear hkk hos hbs d3
    by_cases hlt : k < n
    · obtain ⟨t, ht⟩ : ∃ t, l[k]? = some t := ⟨_, List.getElem?_eq_getElem (by rw [HN.out]; exact hlt)⟩
      obtain ⟨g, rfl⟩ := HC3.out (by rw [HN.out]; omega)
      obtain ⟨c0, c1, c2⟩ := tk_at HOW.out k t ht
      have HTX := Lw.hid (txV_snoc ht)
      obtain ⟨kd, tx, ps⟩ := t
      simp only at c0 c1 c2 HTX
      have HO3 : Hid (((wr.alloc (.cells #[.int .i64 (kd : Int), .string (BA tx), .int .i64 (ps : Int)] 28)).alloc (.cells #[.string (BA tx)] 9)).ownsRow 0 9 1 (.slice ads k caps) k (txV (l.take k))) := Lw.hid (own_kept (((Kept.refl (fun _ => False) wr).alloc _).alloc _) HOS.out (fun _ _ h => h))
      have HR3 : Hid (Rd ((wr.alloc (.cells #[.int .i64 (kd : Int), .string (BA tx), .int .i64 (ps : Int)] 28)).alloc (.cells #[.string (BA tx)] 9)) 1 (.slice (some ⟨wr.heap.size + 1, 0, none⟩) 1 1) 1 [.string (BA tx)]) := Lw.hid (Rd.lit _ [.string (BA tx)] 9 1 (wr.heap.size + 1) 1 (by simp) rfl (by decide))
      have K3 : Hid (Kept (fun _ => False) w ((wr.alloc (.cells #[.int .i64 (kd : Int), .string (BA tx), .int .i64 (ps : Int)] 28)).alloc (.cells #[.string (BA tx)] 9))) := Lw.hid ((HKK.out.alloc _).alloc _)
      have HONE : Hid (∀ u ∈ ([.string (BA tx)] : List Value), u.oneCell' = true) := Lw.hid (fun u hu => by rw [List.mem_singleton.1 hu]; rfl)
      clear ht
      go_wp2_with (at_builtin; refine wpList_app rfl _ _ _ rfl ETs _ k _ rfl HO3.out _ 1 _ rfl HR3.out HONE.out (by unfold maxLen; omega) (by omega) ?_; intro ad' cap' w5 ho5 hg5 hf5)
      have K5 : Hid (Kept (fun _ => False) w w5) := Lw.hid (K3.out.grown hg5 (fun i hi hl => by have := HBS.out i hi; omega))
      have HO5 : Hid (w5.ownsRow 0 9 1 (.slice ad' (k + 1) cap') (k + 1) (txV (l.take (k + 1)))) := Lw.hid (by rw [HTX.out]; exact ho5)
      have HB5 : Hid (∀ i, blk (.slice ad' (k + 1) cap') i → w.heap.size ≤ i) := Lw.hid (fun i hi => by
        rcases hf5 i hi with h | h
        · exact HBS.out i h
        · have := K3.out.size; omega)
      clear ho5 hg5 hf5 HO3 HR3 HONE HTX
      go_wp2_with fail
      go_roundg (n - (k + 1))
      case measure => omega
      case rel => exact ⟨k + 1, rfl, hlt, by go_num, HO5.out, HB5.out, K5.out⟩
    · obtain rfl : k = n := by omega
      have HT : Hid (l.take k = l) := Lw.hid (List.take_of_length_le (by rw [HN.out]; exact Nat.le_refl _))
      go_wp2_with fail
      cases k with
      | zero =>
        have hnil : l = [] := List.length_eq_zero_iff.1 HN.out
        refine (Tryd.strings_Join_none ads caps ⟨#[32]⟩ wr).mono ?_
        rintro x w4 ⟨rfl, rfl⟩
        go_wp2_with fail
        go_ret
        rw [hnil]
        exact ⟨rfl, HKK.out⟩
      | succ k =>
        obtain ⟨g, rfl⟩ := HD3.out (by omega)
        have hos : wr.ownsRow 0 9 1 (.slice (some ⟨g, 0, none⟩) (k + 1) caps) l.length (txV l) := by
          have := HOS.out
          rw [HT.out] at this
          rw [HN.out]
          exact this
        have hg := own_lt HOS.out g rfl
        have hxl : (l.map fun t => BA t.text).length = k + 1 := by rw [List.length_map, HN.out]
        have h := Tryd.strings_Join g 0 caps (l.map fun t => BA t.text) (BA [32]) wr (fun j x hx => strs_cell hos j x hx) hg (by rw [hxl]; omega) (by rw [hxl]; exact d1) (by rw [BA_list, join_lib]; have := HJ.out; omega)
        rw [hxl, BA_list, join_lib] at h
        clear hos hxl
        refine h.mono ?_
        rintro x w4 ⟨rfl, hb⟩
        have K4 := Lw.hid (HKK.out.trans ((Kept.of_below hb).mono (fun i hi h => by omega)) (fun _ _ h => h))
        clear hb h
        go_wp2_with fail
        go_ret
        exact ⟨rfl, K4.out⟩
end Go.Proofs.YtifcgeanippepaaDoor
