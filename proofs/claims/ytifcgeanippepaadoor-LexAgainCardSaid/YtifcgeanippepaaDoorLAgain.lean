/- LexAgain, walked. -/
import Derived.Test.YtifcgeanippepaaDoorAgainG
import Derived.WalkLawsBesides
namespace Go.Proofs.YtifcgeanippepaaDoor
open Go Go.RowKit Go.Lw
set_option maxRecDepth 100000
set_option linter.unusedVariables false
set_option linter.unusedSimpArgs false
attribute [local go_sem] BA_toList
theorem BA_min2 (l : List UInt8) (m : Nat) (M : Int) (h : M = m) : (BA l).extract 0 (min (l.length : Int) M).toNat = BA (l.take m) := by
  subst h
  rw [BA_head]
  congr 1
  rw [show (min (l.length : Int) (m : Int)).toNat = min m l.length by omega]
  rw [List.take_eq_take_iff]; omega
theorem tiles_len {s : List UInt8} : ∀ (l : List Tk) (a : Nat), Tiled s a l → a ≤ s.length → l.length + a ≤ s.length
  | [], a, _, ha => by simpa using ha
  | t :: l, a, h, ha => by
    obtain ⟨h1, h2, _, _, h5, h6⟩ := h
    have ih := tiles_len l _ h6 h2
    have : 1 ≤ t.text.length := by
      have := text_ne h5
      cases e : t.text with
      | nil => exact absurd e this
      | cons c x => simp
    rw [List.length_cons]
    omega
/-- Lex, whatever comes. -/
theorem lex_some_any (w : World) (s : List UInt8) (hE : LEnv w) (hs9 : s.length ≤ 1000000) :
    Calls Tryd.prog 12 #[.string (BA s)] w fun x w' => (∃ v e, x = .returned (.tuple #[v, .int .i64 (e : Int)]) ∧ ((e : Int) ≠ 0 ∨ ∃ l, lexT s = .ok l)) ∧ Kept (fun _ => False) w w' := by
  cases h : lexT s with
  | error e =>
    refine (lex_err w s e hE h hs9).mono ?_
    rintro x w' ⟨rfl, k⟩
    exact ⟨⟨_, _, rfl, .inl (fun h0 => by
      have : e = 0 := by omega
      subst this
      exact lexT_ne0 h)⟩, k⟩
  | ok l =>
    refine (lex_ok w s l hE h hs9).mono ?_
    rintro x w' ⟨⟨v, rfl, _⟩, k⟩
    exact ⟨⟨v, 0, rfl, .inr ⟨l, rfl⟩⟩, k⟩
set_option maxHeartbeats 16000000 in
theorem lagain_any (w : World) (s0 t0 : List UInt8) (hE : LEnv w) (hs9 : s0.length ≤ 9223372036854775807) (ht9 : t0.length ≤ 9223372036854775807) :
    Calls Tryd.prog 3 #[.string (BA s0), .string (BA t0)] w fun x w' => x = .returned (.bool true) ∧ Kept (fun _ => False) w w' := by
  have HE := Lw.hid hE
  clear hE
  have hs0 := BA_size s0; have ht0 := BA_size t0
  have e1 := BA_min2 s0 300 300 rfl; have e2 := BA_min2 t0 300 300 rfl
  obtain ⟨s, hs⟩ : ∃ s, s0.take 300 = s := ⟨_, rfl⟩
  obtain ⟨t, ht⟩ : ∃ t, t0.take 300 = t := ⟨_, rfl⟩
  have hsl : s.length ≤ 300 := by rw [← hs]; exact List.length_take_le _ _
  have htl : t.length ≤ 300 := by rw [← ht]; exact List.length_take_le _ _
  rw [hs] at e1; rw [ht] at e2
  obtain ⟨n0, hn0⟩ : ∃ n, s0.length = n := ⟨_, rfl⟩
  obtain ⟨m0, hm0⟩ : ∃ n, t0.length = n := ⟨_, rfl⟩
  rw [hn0] at e1 hs0 hs9; rw [hm0] at e2 ht0 ht9
  have HSL := Lw.hid hsl; have HTL := Lw.hid htl
  clear hs ht hn0 hm0 hsl htl
  by_cases hok : (∃ a, lexT s = .ok a) ∧ ∃ b, lexT t = .ok b
  · obtain ⟨⟨a, ha⟩, b, hb⟩ := hok
    obtain ⟨⟨x1, hx1, q1⟩, ⟨x2, hx2, q2⟩, ⟨x3, hx3, q3⟩, hj⟩ := again_any ha hb HSL.out HTL.out
    have HA := Lw.hid ha; have HB := Lw.hid hb; have HX1 := Lw.hid hx1; have HX2 := Lw.hid hx2; have HX3 := Lw.hid hx3
    have Q1 := Lw.hid q1; have Q2 := Lw.hid q2; have Q3 := Lw.hid q3; have HJ := Lw.hid hj
    clear ha hb hx1 hx2 hx3 q1 q2 q3 hj
    go_enter Tryd.func3, Tryd.ntmps3
    go_wp2_with fail
    go_quiet (fail)
    go_wp2_with fail
    have K0 : Hid (Kept (fun _ => False) w (w.drewN nq)) := Lw.hid (kept_drewN' w nq)
    have HNA : Hid (a.length ≤ 300) := Lw.hid (by have := tiles_len a 0 (lexT_tiles HA.out) (Nat.zero_le _); have := HSL.out; omega)
    have HNB : Hid (b.length ≤ 300) := Lw.hid (by have := tiles_len b 0 (lexT_tiles HB.out) (Nat.zero_le _); have := HTL.out; omega)
    refine (lex_ok _ s a (HE.out.kept K0.out) HA.out (by have := HSL.out; omega)).mono ?_
    rintro x w1 ⟨⟨va, rfl, hoa, _, _⟩, k1⟩
    have K1 := Lw.hid (K0.out.trans k1 (fun _ _ h => h))
    obtain ⟨ada, cpa, rfl, _, _, _⟩ := own_slice hoa
    have HOA1 := Lw.hid hoa
    clear hoa k1
    go_wp2_with fail
    refine (lex_ok _ t b (HE.out.kept K1.out) HB.out (by have := HTL.out; omega)).mono ?_
    rintro x w2 ⟨⟨vb, rfl, hob, _, _⟩, k2⟩
    have K2 := Lw.hid (K1.out.trans k2 (fun _ _ h => h))
    have HOA := Lw.hid (own_kept k2 HOA1.out (fun _ _ h => h)); have HOB := Lw.hid hob
    obtain ⟨adb, cpb, rfl, _, _, _⟩ := own_slice hob
    clear hob k2 HOA1
    go_wp2_with fail
    refine (joink_any _ _ a HOA.out (by have := HNA.out; omega) (by have := HJ.out; omega)).mono ?_
    obtain ⟨J, hJ⟩ : ∃ J, joinK (a.map Tk.kt) = J := ⟨_, rfl⟩
    rw [hJ] at HX1 HX2 HJ
    rw [hJ]
    have HJJ := Lw.hid hJ
    clear hJ
    rintro x w3 ⟨rfl, k3⟩
    have K3 := Lw.hid k3
    clear k3
    go_wp2_with fail
    refine (lex_ok _ J x1 (HE.out.kept (K2.out.trans K3.out (fun _ _ h => h))) HX1.out (by have := HJ.out; omega)).mono ?_
    rintro x w4 ⟨⟨u1, rfl, ho1, _, hl1⟩, k4⟩
    have K4 := Lw.hid (K3.out.trans k4 (fun _ _ h => h)); have HO1 := Lw.hid ho1
    have HL1 := Lw.hid hl1
    clear ho1 k4 hl1 K3
    go_wp2_with fail
    refine (joink_any _ _ a (own_kept K4.out HOA.out (fun _ _ h => h)) (by have := HNA.out; omega) (by rw [HJJ.out]; have := HJ.out; omega)).mono ?_
    rw [HJJ.out]
    rintro x w5 ⟨rfl, k5⟩
    have K5 := Lw.hid (K4.out.trans k5 (fun _ _ h => h)); have K45 := Lw.hid k5
    clear k5
    obtain ⟨Y, hY⟩ : ∃ Y, J ++ [9, 32] = Y := ⟨_, rfl⟩
    have HYL : Hid (Y.length ≤ 602) := Lw.hid (by rw [← hY, List.length_append]; have := HJ.out; simp; omega)
    rw [hY] at HX2
    have hYj : Lib.join ([BA J, BA []].map (·.data.toList)) (BA [9, 32]).data.toList = Y := by rw [← hY]; show Lib.join [J, []] [9, 32] = _; simp [Lib.join, List.intercalate]
    have HYJ := Lw.hid hYj
    have a1 := BA_append [32, 9] Y; have a2 := BA_append ([32, 9] ++ Y) remark
    obtain ⟨X, hX⟩ : ∃ X, [32, 9] ++ Y ++ remark = X := ⟨_, rfl⟩
    have hZX : ([32, 9] ++ Y).length ≤ 604 := by rw [List.length_append]; have := HYL.out; simp; omega
    rw [hX] at HX2 a2
    have HXL : Hid (X.length ≤ 1000) := Lw.hid (by rw [← hX, List.length_append, List.length_append]; have := HYL.out; simp [remark]; omega)
    obtain ⟨Z, hZ⟩ : ∃ Z, [32, 9] ++ Y = Z := ⟨_, rfl⟩
    rw [hZ] at a1 a2 hZX
    have a1' : (⟨#[32, 9]⟩ : ByteArray) ++ BA Y = BA Z := a1
    have a2' : BA Z ++ (⟨#[35, 32, 39, 114, 101, 109, 97, 114, 107]⟩ : ByteArray) = BA X := a2
    have HA1 := Lw.hid a1'; have HA2 := Lw.hid a2'
    have z1 : (BA Z).size ≤ 700 := by rw [BA_size]; omega
    have z2 : (BA Y).size ≤ 700 := by rw [BA_size]; have := HYL.out; omega
    have HCW : Hid ((w5.alloc (.cells #[.string (BA J), .string ⟨#[]⟩] 9)).heap[w5.heap.size]? = some (.cells #[.string (BA J), .string ⟨#[]⟩] 9 (0, 0))) := Lw.hid (heap_alloc w5 _)
    have K6 : Hid (Kept (fun _ => False) w2 (w5.alloc (.cells #[.string (BA J), .string ⟨#[]⟩] 9))) := Lw.hid (K5.out.alloc _)
    have K46 : Hid (Kept (fun _ => False) w4 (w5.alloc (.cells #[.string (BA J), .string ⟨#[]⟩] 9))) := Lw.hid (K45.out.alloc _)
    clear hYj a1 a2 hX hY hZ hZX
    go_wp2_with fail
    have hjn := Tryd.strings_Join w5.heap.size 0 2 [BA J, BA []] (BA [9, 32]) (w5.alloc (.cells #[.string (BA J), .string ⟨#[]⟩] 9)) (fun j x hx => by
      match j, hx with
      | 0, hx => cases hx; exact heap_cell HCW.out 0
      | 1, hx => cases hx; exact heap_cell HCW.out 1) (by simp) (by simp) (by simp) (by rw [HYJ.out]; have := HYL.out; omega)
    rw [HYJ.out] at hjn
    have hjn2 : Calls Tryd.prog 16 #[.slice (some ⟨w5.heap.size, 0, none⟩) 2 2, .string ⟨#[9, 32]⟩] (w5.alloc (.cells #[.string (BA J), .string ⟨#[]⟩] 9)) fun e w' => e = .returned (.string (BA Y)) ∧ Below (w5.alloc (.cells #[.string (BA J), .string ⟨#[]⟩] 9)).heap.size (w5.alloc (.cells #[.string (BA J), .string ⟨#[]⟩] 9)) w' := hjn
    clear hjn
    refine hjn2.mono ?_
    clear hjn2
    rintro x w7 ⟨rfl, hb7⟩
    have k7 := (Kept.of_below hb7).mono (S' := fun _ => False) (fun k hk h => by omega)
    have K7 := Lw.hid (K6.out.trans k7 (fun _ _ h => h)); have K47 := Lw.hid (K46.out.trans k7 (fun _ _ h => h))
    clear hb7 k7 K6 K46 K5 K45 HCW K4
    go_wp2_with fail
    refine (lex_ok _ X x2 (HE.out.kept (K2.out.trans K7.out (fun _ _ h => h))) HX2.out (by have := HXL.out; omega)).mono ?_
    rintro x w8 ⟨⟨u2, rfl, ho2, _, hl2⟩, k8⟩
    have K8 := Lw.hid (K7.out.trans k8 (fun _ _ h => h)); have K48 := Lw.hid (K47.out.trans k8 (fun _ _ h => h)); have HO2 := Lw.hid ho2; have HL2 := Lw.hid hl2
    clear ho2 k8 hl2 K7 K47 a1' a2' z1 z2
    go_wp2_with fail
    refine (eqf_any _ u1 _ x1 a (own_kept K48.out HO1.out (fun _ _ h => h)) (own_kept K8.out HOA.out (fun _ _ h => h)) Q1.out HL1.out).mono ?_
    rintro x w9 ⟨rfl, k9⟩
    have K9 := Lw.hid (K8.out.trans k9 (fun _ _ h => h)); have K89 := Lw.hid k9
    clear k9
    go_wp2_with fail
    refine (eqf_any _ u2 _ x2 a (own_kept K89.out HO2.out (fun _ _ h => h)) (own_kept K9.out HOA.out (fun _ _ h => h)) Q2.out HL2.out).mono ?_
    rintro x w10 ⟨rfl, k10⟩
    have K10 := Lw.hid (K9.out.trans k10 (fun _ _ h => h))
    clear k10
    have c1 := BA_append s [10]; have c2 := BA_append (s ++ [10]) t
    have c1' : BA s ++ (⟨#[10]⟩ : ByteArray) = BA (s ++ [10]) := c1
    rw [List.append_assoc] at c2
    have c2' : BA (s ++ [10]) ++ BA t = BA (s ++ 10 :: t) := c2
    have z3 : (BA s).size ≤ 300 := by rw [BA_size]; exact HSL.out
    have z4 : (BA t).size ≤ 300 := by rw [BA_size]; exact HTL.out
    have z5 : (BA (s ++ [10])).size ≤ 301 := by rw [BA_size, List.length_append]; have := HSL.out; simp; omega
    obtain ⟨S1, hS1⟩ : ∃ S, s ++ [10] = S := ⟨_, rfl⟩
    obtain ⟨S2, hS2⟩ : ∃ S, s ++ 10 :: t = S := ⟨_, rfl⟩
    have HS2 : Hid (S2.length ≤ 1000) := Lw.hid (by rw [← hS2]; have := HSL.out; have := HTL.out; simp; omega)
    rw [hS1] at c1' c2' z5
    rw [hS2] at c2' HX3
    clear c1 c2 hS1 hS2
    go_wp2_with fail
    refine (lex_ok _ S2 x3 (HE.out.kept (K2.out.trans K10.out (fun _ _ h => h))) HX3.out (by have := HS2.out; omega)).mono ?_
    rintro x w11 ⟨⟨u3, rfl, ho3, _, hl3⟩, k11⟩
    have K11 := Lw.hid (K10.out.trans k11 (fun _ _ h => h)); have HO3 := Lw.hid ho3; have HL3 := Lw.hid hl3
    clear ho3 k11 hl3 K10
    go_wp2_with fail
    obtain ⟨wc, hwc⟩ : ∃ wc, (w11.alloc (.cells #[.int .i64 2, .string ⟨#[10]⟩, .int .i64 0] 28)).alloc (.cells #[.slice ada a.length cpa, .slice (some ⟨w11.heap.size, 0, none⟩) 1 1, .slice adb b.length cpb] 22) = wc := ⟨_, rfl⟩
    have HROW : Hid (wc.heap[w11.heap.size + 1]? = some (.cells #[.slice ada a.length cpa, .slice (some ⟨w11.heap.size, 0, none⟩) 1 1, .slice adb b.length cpb] 22 (0, 0))) := Lw.hid (by
      rw [← hwc]
      have h := heap_alloc (w11.alloc (.cells #[.int .i64 2, .string ⟨#[10]⟩, .int .i64 0] 28)) (.cells #[.slice ada a.length cpa, .slice (some ⟨w11.heap.size, 0, none⟩) 1 1, .slice adb b.length cpb] 22)
      rw [show (w11.alloc (.cells #[.int .i64 2, .string ⟨#[10]⟩, .int .i64 0] 28)).heap.size = w11.heap.size + 1 by simp] at h
      exact h)
    have KC : Hid (Kept (fun _ => False) w11 wc) := Lw.hid (by rw [← hwc]; exact ((Kept.refl _ w11).alloc _).alloc _)
    have HNL : Hid (Rd wc 3 (.slice (some ⟨w11.heap.size, 0, none⟩) 1 1) [(⟨2, [10], 0⟩ : Tk)].length ([(⟨2, [10], 0⟩ : Tk)].flatMap Tk.cells)) := Lw.hid (by
      rw [← hwc]
      exact Rd.kept ((Kept.refl (fun _ => False) _).alloc _) (Rd.lit w11 [.int .i64 2, .string ⟨#[10]⟩, .int .i64 0] 28 3 w11.heap.size 1 rfl rfl (by decide)) (fun _ _ h => h))
    have KC2 : Hid (Kept (fun _ => False) w2 wc) := Lw.hid (K11.out.trans KC.out (fun _ _ h => h))
    rw [hwc]
    clear hwc
    refine (concat_any wc (w11.heap.size + 1) _ _ _ a [(⟨2, [10], 0⟩ : Tk)] b (heap_cell HROW.out 0) (heap_cell HROW.out 1) (heap_cell HROW.out 2)
      (Rd.own (own_kept KC2.out HOA.out (fun _ _ h => h))) HNL.out (Rd.own (own_kept KC2.out HOB.out (fun _ _ h => h))) (by have := HNA.out; omega) (by decide) (by have := HNB.out; omega) (by decide)).mono ?_
    rintro x w12 ⟨v9, rfl, ho9, k12⟩
    have K12 := Lw.hid (KC2.out.trans k12 (fun _ _ h => h)); have KD := Lw.hid (KC.out.trans k12 (fun _ _ h => h)); have HO9 := Lw.hid ho9
    clear ho9 k12 KC HROW HNL
    go_wp2_with fail
    refine (eqf_any _ u3 v9 x3 (a ++ [(⟨2, [10], 0⟩ : Tk)] ++ b) (own_kept KD.out HO3.out (fun _ _ h => h)) HO9.out (by rw [Q3.out]; simp [Tk.kt]) HL3.out).mono ?_
    rintro x w13 ⟨rfl, k13⟩
    have K13 := Lw.hid (K2.out.trans (K12.out.trans k13 (fun _ _ h => h)) (fun _ _ h => h))
    clear k13
    go_wp2_with fail
    refine (tells_any _ (HE.out.kept K13.out)).mono ?_
    rintro x w14 ⟨rfl, k14⟩
    have K14 := Lw.hid (K13.out.trans k14 (fun _ _ h => h))
    clear k14
    go_wp2_with fail
    go_ret
    exact ⟨rfl, K14.out⟩
  · have HOK := Lw.hid hok
    clear hok
    go_enter Tryd.func3, Tryd.ntmps3
    go_wp2_with fail
    go_quiet (fail)
    go_wp2_with fail
    have K0 : Hid (Kept (fun _ => False) w (w.drewN nq)) := Lw.hid (kept_drewN' w nq)
    refine (lex_some_any _ s (HE.out.kept K0.out) (by have := HSL.out; omega)).mono ?_
    rintro x w1 ⟨⟨v1, c1, rfl, hc1⟩, k1⟩
    have K1 := Lw.hid (K0.out.trans k1 (fun _ _ h => h))
    have HC1 := Lw.hid hc1
    clear k1 hc1
    go_wp2_with fail
    refine (lex_some_any _ t (HE.out.kept K1.out) (by have := HTL.out; omega)).mono ?_
    rintro x w2 ⟨⟨v2, c2, rfl, hc2⟩, k2⟩
    have K2 := Lw.hid (K1.out.trans k2 (fun _ _ h => h))
    have HC2 := Lw.hid hc2
    clear k2 hc2
    by_cases hz : (c1 : Int) = 0
    · have hz2 : (c2 : Int) ≠ 0 := fun h => HOK.out ⟨HC1.out.resolve_left (fun h2 => h2 hz), HC2.out.resolve_left (fun h2 => h2 h)⟩
      have z1 : ((c1 : Int) != 0) = false := by rw [hz]; rfl
      have z2 : ((c2 : Int) != 0) = true := by simp only [bne, beq_eq_false_iff_ne.2 hz2]; rfl
      clear hz hz2
      go_wp2_with fail
      refine (tells_any _ (HE.out.kept K2.out)).mono ?_
      rintro x w9 ⟨rfl, k9⟩
      have K9 := Lw.hid (K2.out.trans k9 (fun _ _ h => h))
      clear k9
      go_wp2_with fail
      go_ret
      exact ⟨rfl, K9.out⟩
    · have z1 : ((c1 : Int) != 0) = true := by simp only [bne, beq_eq_false_iff_ne.2 hz]; rfl
      clear hz
      go_wp2_with fail
      refine (tells_any _ (HE.out.kept K2.out)).mono ?_
      rintro x w9 ⟨rfl, k9⟩
      have K9 := Lw.hid (K2.out.trans k9 (fun _ _ h => h))
      clear k9
      go_wp2_with fail
      go_ret
      exact ⟨rfl, K9.out⟩
theorem lagain_below (w : World) (s t : ByteArray) (hE : LEnv w) (hs : s.size ≤ 9223372036854775807) (ht : t.size ≤ 9223372036854775807) :
    Calls Tryd.prog 3 #[.string s, .string t] w fun e w' => e = .returned (.bool true) ∧ Below w.heap.size w w' := by
  have h := lagain_any w s.data.toList t.data.toList hE (by rw [← BA_size, ← BA_of]; exact hs) (by rw [← BA_size, ← BA_of]; exact ht)
  rw [← BA_of, ← BA_of] at h
  exact h.mono fun _ _ ⟨e, k⟩ => ⟨e, Below.of_kept k⟩
end Go.Proofs.YtifcgeanippepaaDoor
