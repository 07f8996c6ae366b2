/- PatternSets, walked. -/
import Derived.Test.YtgedgnhloibclaaPWakes
import Derived.Deep.DeepCutAuto
namespace Go.Proofs.Ytgedgnhloibclaa
open Go Go.RowKit Go.Lw
set_option maxRecDepth 100000
set_option linter.unusedVariables false
set_option linter.unusedSimpArgs false
attribute [local go_sem] BA_toList BA_size
/-- The bytes of a set as text. -/
abbrev setT (f t o : UInt8) : List UInt8 := [92, f, 45, 92, t, 92, o]
def isF (f t o c : UInt8) : Bool := decide (f.toNat ≤ c.toNat) && decide (c.toNat ≤ t.toNat) || decide (c.toNat = o.toNat)
def ptF (c : UInt8) : Bool := decide (c.toNat = 46)
theorem set_is (f t o c : UInt8) : addR (addR noneF f.toNat t.toNat) o.toNat o.toNat c.toNat = isF f t o c := by
  unfold addR isF noneF
  rw [Bool.false_or]
  congr 1
  rw [← Bool.decide_and]
  apply decide_eq_decide.2
  omega
theorem ps1 (f t o : UInt8) : piecesF 9 (91 :: 92 :: f :: 45 :: 92 :: t :: 92 :: o :: [93]) = [⟨false, false, fun i => false != addR (addR noneF f.toNat t.toNat) o.toNat o.toNat i⟩] := rfl
theorem ps2 (f t o : UInt8) : piecesF 10 (91 :: 33 :: 92 :: f :: 45 :: 92 :: t :: 92 :: o :: [93]) = [⟨false, false, fun i => true != addR (addR noneF f.toNat t.toNat) o.toNat o.toNat i⟩] := rfl
theorem ps3 (f t o : UInt8) : piecesF 10 (120 :: 91 :: 92 :: f :: 45 :: 92 :: t :: 92 :: o :: [93]) = [⟨false, true, fun i => if i = 120 then true else false⟩, ⟨false, false, fun i => false != addR (addR noneF f.toNat t.toNat) o.toNat o.toNat i⟩] := rfl
theorem ps4 (f t o : UInt8) : piecesF 11 (120 :: 91 :: 33 :: 92 :: f :: 45 :: 92 :: t :: 92 :: o :: [93]) = [⟨false, true, fun i => if i = 120 then true else false⟩, ⟨false, false, fun i => true != addR (addR noneF f.toNat t.toNat) o.toNat o.toNat i⟩] := rfl
theorem dot1 (P : Pc) (c : UInt8) (h : P.own = false) : dotF [P] [c] = !ptF c := by
  unfold dotF ptF
  simp only [h, Bool.false_and]
  by_cases e : c.toNat = 46
  · rw [if_pos e]; simp [e]
  · rw [if_neg e]; simp [e]
theorem m1 (P : Pc) (c : UInt8) (h : P.own = false) (ha : P.any = false) : (dotF [P] [c] && matchR [P] [c]) = (!ptF c && P.f c.toNat) := by
  rw [dot1 P c h, matchR_one ha, matchR_nil]; simp
theorem fA (f t o c : UInt8) : matchF (91 :: 92 :: f :: 45 :: 92 :: t :: 92 :: o :: [93]) [c] = (isF f t o c && !ptF c) := by
  unfold matchF
  show (dotF (piecesF 9 _) _ && matchR (piecesF 9 _) _) = _
  rw [ps1, m1 _ _ rfl rfl]
  simp only [set_is]
  cases isF f t o c <;> cases ptF c <;> rfl
theorem fB (f t o c : UInt8) : matchF (91 :: 33 :: 92 :: f :: 45 :: 92 :: t :: 92 :: o :: [93]) [c] = (!isF f t o c && !ptF c) := by
  unfold matchF
  show (dotF (piecesF 10 _) _ && matchR (piecesF 10 _) _) = _
  rw [ps2, m1 _ _ rfl rfl]
  simp only [set_is]
  cases isF f t o c <;> cases ptF c <;> rfl
theorem m2 (P Q : Pc) (c : UInt8) (ha : P.any = false) (hf : P.f 120 = true) (hq : Q.any = false) : (dotF [P, Q] [120, c] && matchR [P, Q] [120, c]) = Q.f c.toNat := by
  rw [show dotF [P, Q] [120, c] = true from rfl, matchR_one ha, matchR_one hq, matchR_nil]
  show (true && (P.f 120 && (Q.f c.toNat && true))) = _
  rw [hf]; simp
theorem fC (f t o c : UInt8) : matchF (120 :: 91 :: 92 :: f :: 45 :: 92 :: t :: 92 :: o :: [93]) [120, c] = isF f t o c := by
  unfold matchF
  show (dotF (piecesF 10 _) _ && matchR (piecesF 10 _) _) = _
  rw [ps3, m2 _ _ _ rfl rfl rfl]
  simp only [set_is]
  cases isF f t o c <;> rfl
theorem fD (f t o c : UInt8) : matchF (120 :: 91 :: 33 :: 92 :: f :: 45 :: 92 :: t :: 92 :: o :: [93]) [120, c] = !isF f t o c := by
  unfold matchF
  show (dotF (piecesF 11 _) _ && matchR (piecesF 11 _) _) = _
  rw [ps4, m2 _ _ _ rfl rfl rfl]
  simp only [set_is]
  cases isF f t o c <;> rfl
theorem fE (c : UInt8) : matchF [63] [c] = !ptF c := by
  unfold matchF
  show (dotF [⟨false, false, fun _ => true⟩] _ && matchR [⟨false, false, fun _ => true⟩] _) = _
  rw [m1 _ _ rfl rfl]; simp
theorem fF (c : UInt8) : matchF [42] [c] = !ptF c := by
  unfold matchF
  show (dotF [⟨true, false, noneF⟩] _ && matchR [⟨true, false, noneF⟩] _) = _
  rw [dot1 _ _ rfl, matchR_cons, matchR_end, matchR_nil, matchR_nil]
  cases ptF c <;> rfl
theorem fG : matchF [42, 46] [46] = false := by decide +kernel
theorem fH : matchF [92, 46, 42] [46, 97] = true := by decide +kernel
theorem fI (c : UInt8) : matchF [92, c] [c] = true := by
  unfold matchF
  show (dotF [⟨false, true, fun i => if i = c.toNat then true else false⟩] _ && matchR [⟨false, true, fun i => if i = c.toNat then true else false⟩] _) = _
  rw [matchR_one rfl, matchR_nil]
  unfold dotF
  simp
  by_cases h : c.toNat = 46
  · exact .inr h.symm
  · exact .inl h
theorem fJ (f t o : UInt8) : aliveF (91 :: 92 :: f :: 45 :: 92 :: t :: 92 :: o :: [93]) = true := rfl
theorem q_any (w : World) (c : UInt8) : Calls Try.prog 9 #[.int .u8 (c.toNat : Int)] w fun e w' => e = .returned (.string (BA [92, c])) ∧ Kept (fun _ => False) w w' := by
  have l92 : (⟨#[92]⟩ : ByteArray) = BA [92] := rfl
  have hap := BA_append [92] [c]
  simp only [List.cons_append, List.nil_append] at hap
  go_enter Try.func9, Try.ntmps9
  go_wp2_with (refine wpList_strBA rfl _ _ _ rfl _ [c] rfl (RdB.lit w [c] _ 1 rfl (by decide)) Try.underlying22 Try.underlying5 Try.underlying9 ?_)
  go_ret
  exact ⟨rfl, (Kept.refl _ w).alloc _⟩
set_option maxHeartbeats 8000000 in
theorem psets_any (w : World) (f t o c : UInt8) : Calls Try.prog 3 #[.int .u8 (f.toNat : Int), .int .u8 (t.toNat : Int), .int .u8 (o.toNat : Int), .int .u8 (c.toNat : Int)] w fun e w' => e = .returned (.bool true) ∧ Kept (fun _ => False) w w' := by
  have l45 : (⟨#[45]⟩ : ByteArray) = BA [45] := rfl
  have a1 := BA_append [92, f] [45]
  have a2 := BA_append [92, f, 45] [92, t]
  have a3 := BA_append [92, f, 45, 92, t] [92, o]
  simp only [List.cons_append, List.nil_append] at a1 a2 a3
  have hf9 := f.toNat_lt; have ht9 := t.toNat_lt; have ho9 := o.toNat_lt; have hc9 := c.toNat_lt
  go_enter Try.func3, Try.ntmps3
  go_wp2_with fail
  refine (q_any w f).mono ?_
  rintro e w1 ⟨rfl, k1⟩
  go_wp2_with fail
  refine (q_any w1 t).mono ?_
  rintro e w2 ⟨rfl, k2⟩
  go_wp2_with fail
  refine (q_any w2 o).mono ?_
  rintro e w3 ⟨rfl, k3⟩
  have K3 := Lw.hid ((k1.trans k2 (fun _ _ h => h)).trans k3 (fun _ _ h => h))
  clear k1 k2 k3
  go_upto_region 3 with fail
  go_cut [11] (fun s11 wx => s11 = .bool (isF f t o c) ∧ wx = w3)
  case first =>
    clear l45 a1 a2 a3
    by_cases h1 : f.toNat ≤ c.toNat
    · have b1 : decide (f.toNat ≤ c.toNat) = true := decide_eq_true (by omega)
      by_cases h2 : c.toNat ≤ t.toNat
      · have b2 : decide (c.toNat ≤ t.toNat) = true := decide_eq_true (by omega)
        have HI : Hid (isF f t o c = true) := Lw.hid (by unfold isF; simp [h1, h2])
        clear h1 h2
        go_wp2_with fail
        go_meet
        case rel => exact ⟨by rw [HI.out], rfl⟩
      · have b2 : decide (c.toNat ≤ t.toNat) = false := decide_eq_false (by omega)
        by_cases h3 : c.toNat = o.toNat
        · have b3 : ((c.toNat : Int) == (o.toNat : Int)) = true := by rw [h3]; simp
          have HI : Hid (isF f t o c = true) := Lw.hid (by unfold isF; simp [h3])
          clear h1 h2 h3
          go_wp2_with fail
          go_meet
          case rel => exact ⟨by rw [HI.out], rfl⟩
        · have b3 : ((c.toNat : Int) == (o.toNat : Int)) = false := by simp; omega
          have HI : Hid (isF f t o c = false) := Lw.hid (by unfold isF; simp [h2, h3])
          clear h1 h2 h3
          go_wp2_with fail
          go_meet
          case rel => exact ⟨by rw [HI.out], rfl⟩
    · have b1 : decide (f.toNat ≤ c.toNat) = false := decide_eq_false (by omega)
      by_cases h3 : c.toNat = o.toNat
      · have b3 : ((c.toNat : Int) == (o.toNat : Int)) = true := by rw [h3]; simp
        have HI : Hid (isF f t o c = true) := Lw.hid (by unfold isF; simp [h3])
        clear h1 h3
        go_wp2_with fail
        go_meet
        case rel => exact ⟨by rw [HI.out], rfl⟩
      · have b3 : ((c.toNat : Int) == (o.toNat : Int)) = false := by simp; omega
        have HI : Hid (isF f t o c = false) := Lw.hid (by unfold isF; simp [h1, h3])
        clear h1 h3
        go_wp2_with fail
        go_meet
        case rel => exact ⟨by rw [HI.out], rfl⟩
  case rest =>
    obtain ⟨rfl, rfl⟩ := hcut
    have hpt : ((c.toNat : Int) == 46) = ptF c := by
      unfold ptF
      rw [Bool.eq_iff_iff]
      simp
      omega
    have HFA := Lw.hid (fA f t o c); have HFB := Lw.hid (fB f t o c); have HFC := Lw.hid (fC f t o c); have HFD := Lw.hid (fD f t o c); have HFE := Lw.hid (fE c); have HFF := Lw.hid (fF c)
    have l91 : (⟨#[91]⟩ : ByteArray) = BA [91] := rfl
    have l93 : (⟨#[93]⟩ : ByteArray) = BA [93] := rfl
    have l9133 : (⟨#[91, 33]⟩ : ByteArray) = BA [91, 33] := rfl
    have l120 : (⟨#[120]⟩ : ByteArray) = BA [120] := rfl
    have l12091 : (⟨#[120, 91]⟩ : ByteArray) = BA [120, 91] := rfl
    have l1209133 : (⟨#[120, 91, 33]⟩ : ByteArray) = BA [120, 91, 33] := rfl
    have c1 := BA_append [91] [92, f, 45, 92, t, 92, o]
    have c2 := BA_append [91, 92, f, 45, 92, t, 92, o] [93]
    have c3 := BA_append [91, 33] [92, f, 45, 92, t, 92, o]
    have c4 := BA_append [91, 33, 92, f, 45, 92, t, 92, o] [93]
    have c5 := BA_append [120, 91] [92, f, 45, 92, t, 92, o]
    have c6 := BA_append [120, 91, 92, f, 45, 92, t, 92, o] [93]
    have c7 := BA_append [120, 91, 33] [92, f, 45, 92, t, 92, o]
    have c8 := BA_append [120, 91, 33, 92, f, 45, 92, t, 92, o] [93]
    have c9 := BA_append [120] [c]
    simp only [List.cons_append, List.nil_append] at c1 c2 c3 c4 c5 c6 c7 c8 c9
    generalize isF f t o c = is at *
    generalize ptF c = pt at *
    clear l45 a1 a2 a3
    go_wp2_with (refine wpList_strBA rfl _ _ _ rfl _ [c] rfl (RdB.lit _ [c] _ 1 rfl (by decide)) Try.underlying22 Try.underlying5 Try.underlying9 ?_)
    have K4 := Lw.hid (K3.out.alloc (.cells #[.int .u8 (c.toNat : Int)] 5))
    cases is <;> cases pt
    all_goals
      simp only [Bool.true_and, Bool.false_and, Bool.not_true, Bool.not_false, Bool.and_true, Bool.and_false] at HFA HFB HFC HFD HFE HFF
      go_wp2_with fail
      refine (match_any _ [91, 92, f, 45, 92, t, 92, o, 93] [c] (by simp) (by simp)).mono ?_
      rw [HFA.out]
      rintro e w5 ⟨rfl, k5⟩
      have K5 := Lw.hid (K4.out.trans k5 (fun _ _ h => h))
      clear k5
      go_wp2_with fail
      refine (match_any _ [91, 33, 92, f, 45, 92, t, 92, o, 93] [c] (by simp) (by simp)).mono ?_
      rw [HFB.out]
      rintro e w6 ⟨rfl, k6⟩
      have K6 := Lw.hid (K5.out.trans k6 (fun _ _ h => h))
      clear k6
      go_wp2_with fail
      refine (match_any _ [120, 91, 92, f, 45, 92, t, 92, o, 93] [120, c] (by simp) (by simp)).mono ?_
      rw [HFC.out]
      rintro e w7 ⟨rfl, k7⟩
      have K7 := Lw.hid (K6.out.trans k7 (fun _ _ h => h))
      clear k7
      go_wp2_with fail
      refine (match_any _ [120, 91, 33, 92, f, 45, 92, t, 92, o, 93] [120, c] (by simp) (by simp)).mono ?_
      rw [HFD.out]
      rintro e w8 ⟨rfl, k8⟩
      have K8 := Lw.hid (K7.out.trans k8 (fun _ _ h => h))
      clear k8
      go_wp2_with fail
      refine (match_any _ [63] [c] (by simp) (by simp)).mono ?_
      rw [HFE.out]
      rintro e w9 ⟨rfl, k9⟩
      have K9 := Lw.hid (K8.out.trans k9 (fun _ _ h => h))
      clear k9
      go_wp2_with fail
      refine (match_any _ [42] [c] (by simp) (by simp)).mono ?_
      rw [HFF.out]
      rintro e w10 ⟨rfl, k10⟩
      have K10 := Lw.hid (K9.out.trans k10 (fun _ _ h => h))
      clear k10
      go_wp2_with fail
      refine (match_any _ [42, 46] [46] (by simp) (by simp)).mono ?_
      rw [fG]
      rintro e w11 ⟨rfl, k11⟩
      have K11 := Lw.hid (K10.out.trans k11 (fun _ _ h => h))
      clear k11
      go_wp2_with fail
      refine (match_any _ [92, 46, 42] [46, 97] (by simp) (by simp)).mono ?_
      rw [fH]
      rintro e w12 ⟨rfl, k12⟩
      have K12 := Lw.hid (K11.out.trans k12 (fun _ _ h => h))
      clear k12
      go_wp2_with fail
      refine (q_any _ c).mono ?_
      rintro e w13 ⟨rfl, k13⟩
      have K13 := Lw.hid (K12.out.trans k13 (fun _ _ h => h))
      clear k13
      go_wp2_with fail
      refine (match_any _ [92, c] [c] (by simp) (by simp)).mono ?_
      rw [fI]
      rintro e w14 ⟨rfl, k14⟩
      have K14 := Lw.hid (K13.out.trans k14 (fun _ _ h => h))
      clear k14
      go_wp2_with fail
      refine (alive_any _ [91, 92, f, 45, 92, t, 92, o, 93] (by simp)).mono ?_
      rw [fJ]
      rintro e w15 ⟨rfl, k15⟩
      have K15 := Lw.hid (K14.out.trans k15 (fun _ _ h => h))
      clear k15
      go_wp2_with fail
      refine (pwakes_any _).mono ?_
      rintro e w16 ⟨rfl, k16⟩
      have K16 := Lw.hid (K15.out.trans k16 (fun _ _ h => h))
      clear k16
      go_wp2_with fail
      go_ret
      exact ⟨rfl, K16.out⟩
theorem psets_below (w : World) (f t o c : Nat) (hf : f < 256) (ht : t < 256) (ho : o < 256) (hc : c < 256) : Calls Try.prog 3 #[.int .u8 (f : Int), .int .u8 (t : Int), .int .u8 (o : Int), .int .u8 (c : Int)] w fun e w' => e = .returned (.bool true) ∧ Below w.heap.size w w' := by
  have h : ∀ n, n < 256 → (UInt8.ofNat n).toNat = n := fun n hn => by simp; omega
  have := psets_any w (UInt8.ofNat f) (UInt8.ofNat t) (UInt8.ofNat o) (UInt8.ofNat c)
  rw [h f hf, h t ht, h o ho, h c hc] at this
  exact this.mono fun _ _ ⟨e, k⟩ => ⟨e, Below.of_kept k⟩
end Go.Proofs.Ytgedgnhloibclaa
