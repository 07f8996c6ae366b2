/- LexQuotes, walked. -/
import Derived.Test.YtifcgeanippepaaDoorQuotes2
import Derived.Test.YtifcgeanippepaaDoorTilesH
import Derived.WalkLawsBesides
namespace Go.Proofs.YtifcgeanippepaaDoor
open Go Go.RowKit Go.Lw
set_option maxRecDepth 100000
set_option linter.unusedVariables false
set_option linter.unusedSimpArgs false
attribute [local go_sem] BA_toList
theorem BA_min3 (l : List UInt8) (m : Nat) (M : Int) (h : M = m) : (BA l).extract 0 (min (l.length : Int) M).toNat = BA (l.take m) := by
  subst h
  rw [BA_head]
  congr 1
  rw [show (min (l.length : Int) (m : Int)).toNat = min m l.length by omega]
  rw [List.take_eq_take_iff]; omega
theorem replace_any (w : World) (p : List UInt8) (hE : LEnv w) (hp : p.length ≤ 200) :
    Calls Tryd.prog 19 #[.string (BA p), .string ⟨#[39]⟩, .string ⟨#[39, 92, 39, 39]⟩] w fun e w' => e = .returned (.string (BA (sqB p))) ∧ Kept (fun _ => False) w w' := by
  obtain ⟨m, hm⟩ := hE.max
  have hc : Lib.countB (BA p) ⟨#[39]⟩ ≤ (BA p).size := Lib.countB_le _ (by decide) _ _ (Nat.le_refl _)
  rw [BA_size] at hc
  have h := Tryd.strings_ReplaceAll (BA p) ⟨#[39]⟩ ⟨#[39, 92, 39, 39]⟩ m w (by rw [BA_size]; omega) hm (by decide) (by
    rw [BA_size, show (⟨#[39, 92, 39, 39]⟩ : ByteArray).size = 4 from rfl]; omega)
  refine h.mono ?_
  rintro e w' ⟨rfl, hb⟩
  refine ⟨?_, (Kept.of_below hb).mono (S' := fun _ => False) (fun k hk h => by omega)⟩
  rw [BA_list, show (⟨#[39]⟩ : ByteArray).data.toList = [39] from rfl, show (⟨#[39, 92, 39, 39]⟩ : ByteArray).data.toList = [39, 92, 39, 39] from rfl, all_sq]; rfl
theorem odd_any (w : World) (c : UInt8) : Calls Tryd.prog 20 #[.string ⟨#[92, 34, 36, 96]⟩, .int .u8 (c.toNat : Int)] w fun e w' => (∃ i : Int, e = .returned (.int .i64 i) ∧ decide (0 ≤ i) = oddQ c) ∧ w' = w := by
  refine (idx_any [92, 34, 36, 96] c _ rfl w).mono ?_
  rintro e w' ⟨rfl, hw⟩
  refine ⟨⟨_, rfl, ?_⟩, hw⟩
  have h := odd_index c
  cases ho : oddQ c with
  | true => rw [ho] at h; exact decide_eq_true (h.2 rfl)
  | false => rw [ho] at h; exact decide_eq_false (fun x => by have := h.1 x; cases this)
theorem rdb_cell {w : World} {g n cap : Nat} {l : List UInt8} (h : RdB w (.slice (some ⟨g, 0, none⟩) n cap) l) {j : Nat} {c : UInt8} (hc : l[j]? = some c) : w.cell? ⟨g, j, none⟩ = some (.int .u8 (c.toNat : Int)) := by
  obtain ⟨_, a', c', e', _, _, hcell⟩ := h
  cases e'
  obtain ⟨g9, off9, hae, c0⟩ := hcell j (bv c) (by rw [List.getElem?_map, hc]; rfl)
  cases hae
  rw [Nat.zero_add] at c0
  exact c0
set_option maxHeartbeats 16000000 in
theorem lquotes_any (w : World) (s0 : List UInt8) (hE : LEnv w) (hs9 : s0.length ≤ 9223372036854775807) :
    Calls Tryd.prog 4 #[.string (BA s0)] w fun x w' => x = .returned (.bool true) ∧ Kept (fun _ => False) w w' := by
  have HE := Lw.hid hE
  clear hE
  have hs0 := BA_size s0
  have e1 := BA_min3 s0 200 200 rfl
  obtain ⟨s, hs⟩ : ∃ s, s0.take 200 = s := ⟨_, rfl⟩
  have hsl : s.length ≤ 200 := by rw [← hs]; exact List.length_take_le _ _
  rw [hs] at e1
  obtain ⟨n0, hn0⟩ : ∃ n, s0.length = n := ⟨_, rfl⟩
  rw [hn0] at e1 hs0 hs9
  obtain ⟨N, hN⟩ : ∃ N, s.length = N := ⟨_, rfl⟩
  have hqs := BA_size s
  rw [hN] at hqs hsl
  have HN := Lw.hid hN
  clear hs hn0 hN
  go_enter Tryd.func4, Tryd.ntmps4
  go_wp2_with (refine wpList_bytes rfl _ _ _ rfl (BA s) rfl Tryd.underlying9 Tryd.underlying36 Tryd.underlying5 (by rw [hqs]; unfold maxLen; omega) ?_; intro g cap wq hg hrow hrd hk1 hsz)
  rw [BA_list] at hrow hrd
  have HCAP : Hid (N ≤ cap ∧ cap ≤ maxLen) := Lw.hid (by
    obtain ⟨a, cap', e, h1, h2, _⟩ := hrd.open
    cases e
    rw [HN.out] at h1
    exact ⟨h1, h2⟩)
  have HROW := Lw.hid hrow; have HK1 := Lw.hid hk1; have HG := Lw.hid hg.out
  clear hrow hrd hk1 hsz hg
  go_wp2_with fail
  go_loopg [24] N (fun gk s24 wx => ∃ k : Nat, gk = N - k ∧ k ≤ N ∧ s24 = .int .i64 (k : Int) ∧ RowAt wx g ((fixL k s).map bv) ∧ Kept (fun _ => False) w wx)
  case atStart => exact ⟨0, rfl, Nat.zero_le _, rfl, by rw [fixL_zero]; exact HROW.out, HK1.out⟩
  case round =>
    obtain ⟨k, rfl, hk, rfl, hrow, hkk⟩ := hrel
    have HR2 := Lw.hid hrow; have HKK := Lw.hid hkk
    clear hrow hkk
    by_cases hlt : k < N
    · obtain ⟨c, hc⟩ : ∃ c, s[k]? = some c := ⟨_, List.getElem?_eq_getElem (by rw [HN.out]; exact hlt)⟩
      have c0 : wr.cell? ⟨g, k, none⟩ = some (.int .u8 (c.toNat : Int)) := by
        apply HR2.out.cell
        rw [List.getElem?_map, fixL_get hc]; rfl
      have f0 : wr.frozen? ⟨g, k, none⟩ = false := HR2.out.free k (by rw [List.length_map, fixL_len, HN.out]; exact hlt)
      have hc9 := c.toNat_lt
      have HC := Lw.hid hc
      clear hc
      by_cases hbad : c.toNat < 32 ∨ c.toNat = 127
      · have hfx : fixC c = 32 := by unfold fixC; rw [if_pos hbad]
        have HFX := Lw.hid hfx
        clear hfx
        by_cases hb1 : c.toNat < 32
        · have b1 : decide ((c.toNat : Int) < 32) = true := decide_eq_true (by omega)
          clear hbad hb1
          go_wp2_with fail
          go_roundg (N - (k + 1))
          case measure => omega
          case rel =>
            refine ⟨k + 1, rfl, hlt, by go_num, ?_, HKK.out.set g k (fun h => by have := HG.out; omega) _⟩
            have := HR2.out.stored k (bv (32 : UInt8))
            rw [fixL_next HC.out, HFX.out, List.map_set]; exact this
        · have b1 : decide ((c.toNat : Int) < 32) = false := decide_eq_false (by omega)
          have b2 : ((c.toNat : Int) == 127) = true := by rw [show c.toNat = 127 by omega]; rfl
          clear hbad hb1
          go_wp2_with fail
          go_roundg (N - (k + 1))
          case measure => omega
          case rel =>
            refine ⟨k + 1, rfl, hlt, by go_num, ?_, HKK.out.set g k (fun h => by have := HG.out; omega) _⟩
            have := HR2.out.stored k (bv (32 : UInt8))
            rw [fixL_next HC.out, HFX.out, List.map_set]; exact this
      · have hfx : fixC c = c := by unfold fixC; rw [if_neg hbad]
        have HFX := Lw.hid hfx
        have b1 : decide ((c.toNat : Int) < 32) = false := decide_eq_false (by omega)
        have b2 : ((c.toNat : Int) == 127) = false := beq_eq_false_iff_ne.2 (by omega)
        clear hfx hbad
        go_wp2_with fail
        go_roundg (N - (k + 1))
        case measure => omega
        case rel => exact ⟨k + 1, rfl, hlt, by go_num, by rw [fixL_same HC.out HFX.out]; exact HR2.out, HKK.out⟩
    · obtain rfl : k = N := by omega
      obtain ⟨p, hp⟩ : ∃ p, fixL k s = p := ⟨_, rfl⟩
      have hpl : p.length = k := by rw [← hp, fixL_len, HN.out]
      have HFO : Hid (FixOk p) := Lw.hid (by rw [← hp, ← HN.out, fixL_end]; exact fix_ok s)
      have HP := Lw.hid hpl
      have hrow : RowAt wr g (p.map bv) := by rw [← hp]; exact HR2.out
      have hrd : RdB wr (.slice (some ⟨g, 0, none⟩) k cap) p := by
        have h := hrow.rd 1 k cap (by rw [List.length_map, hpl]; omega) HCAP.out.1 HCAP.out.2
        unfold RdB
        rw [hpl]
        exact h
      have HRD := Lw.hid hrd; have HR3 := Lw.hid hrow
      have zp : (BA p).size = k := by rw [BA_size, hpl]
      clear hrow hrd hp hpl hk hlt HR2 HROW HCAP HG e1 hs0 hqs hs9 HN
      obtain ⟨wa, rfl⟩ : ∃ wa : World, wa = wr := ⟨_, rfl⟩
      go_wp2_with (refine wpList_strBA rfl _ _ _ rfl _ p rfl HRD.out Tryd.underlying36 Tryd.underlying5 Tryd.underlying9 ?_)
      refine (replace_any wa p (HE.out.kept HKK.out) (by rw [HP.out]; exact hsl)).mono ?_
      rintro x wz ⟨rfl, k2⟩
      have K2 := Lw.hid (HKK.out.trans k2 (fun _ _ h => h))
      have HRD2 := Lw.hid (RdB.kept k2 HRD.out (fun _ _ h => h))
      have a1 := BA_append [39] (sqB p)
      have a1' : (⟨#[39]⟩ : ByteArray) ++ BA (sqB p) = BA (39 :: sqB p) := a1
      have a2' : BA (39 :: sqB p) ++ (⟨#[39]⟩ : ByteArray) = BA (w1 p) := BA_append (39 :: sqB p) [39]
      have zs := sq_len p
      have z1 : (BA (sqB p)).size ≤ 800 := by rw [BA_size]; rw [HP.out] at zs; omega
      have z2 : (BA (39 :: sqB p)).size ≤ 801 := by rw [BA_size, List.length_cons]; rw [HP.out] at zs; omega
      have z3 : (BA (w1 p)).size ≤ 802 := by rw [BA_size]; unfold w1; rw [HP.out] at zs; simp; omega
      clear k2 a1 zs HRD HR3
      obtain ⟨sq, hsq⟩ : ∃ q, BA (sqB p) = q := ⟨_, rfl⟩
      obtain ⟨sq1, hsq1⟩ : ∃ q, BA (39 :: sqB p) = q := ⟨_, rfl⟩
      obtain ⟨W1, hW1⟩ : ∃ q, BA (w1 p) = q := ⟨_, rfl⟩
      rw [hsq, hsq1] at a1'; rw [hsq1, hW1] at a2'; rw [hsq] at z1; rw [hsq1] at z2; rw [hW1] at z3
      rw [hsq]
      have HW1 := Lw.hid hW1
      clear hsq hsq1 hW1
      go_wp2_with fail
      go_loopg [8, 9, 47] k (fun gk s8 s9 s47 wx => ∃ j : Nat, gk = k - j ∧ j ≤ k ∧ s8 = .string (BA (34 :: dqB (p.take j))) ∧ s9 = .string (BA (120 :: eaB (p.take j))) ∧ s47 = .int .i64 (j : Int) ∧ Kept (fun _ => False) wz wx)
      case atStart => exact ⟨0, rfl, Nat.zero_le _, rfl, rfl, rfl, Kept.refl _ _⟩
      case round =>
        obtain ⟨j, rfl, hj, rfl, rfl, rfl, hkj⟩ := hrel
        have HKJ := Lw.hid hkj
        have hjl : (p.take j).length ≤ 200 := by rw [List.length_take]; omega
        have zd := dq_len (p.take j); have ze := ea_len (p.take j)
        have zD : (BA (34 :: dqB (p.take j))).size ≤ 401 := by rw [BA_size, List.length_cons]; omega
        have zE : (BA (120 :: eaB (p.take j))).size ≤ 401 := by rw [BA_size, List.length_cons]; omega
        clear hkj zd ze hjl
        by_cases hlt : j < k
        · obtain ⟨c, hc⟩ : ∃ c, p[j]? = some c := ⟨_, List.getElem?_eq_getElem (by rw [HP.out]; exact hlt)⟩
          have c0 := rdb_cell (HRD2.out.kept HKJ.out (fun _ _ h => h)) hc
          have hc9 := c.toNat_lt
          have HDN := Lw.hid (dq_next hc); have HEN := Lw.hid (ea_next hc)
          clear hc
          obtain ⟨D, hD⟩ : ∃ q, dqB (p.take j) = q := ⟨_, rfl⟩
          obtain ⟨E, hE⟩ : ∃ q, eaB (p.take j) = q := ⟨_, rfl⟩
          rw [hD] at HDN zD ⊢
          rw [hE] at HEN zE ⊢
          clear hD hE
          have zc : (BA [c]).size = 1 := BA_size _
          have b1 : BA (34 :: D) ++ (⟨#[92]⟩ : ByteArray) = BA (34 :: (D ++ [92])) := BA_append (34 :: D) [92]
          have b2 : BA (34 :: (D ++ [92])) ++ BA [c] = BA (34 :: (D ++ [92, c])) := (BA_append (34 :: (D ++ [92])) [c]).trans (by simp)
          have b3 : BA (34 :: D) ++ BA [c] = BA (34 :: (D ++ [c])) := BA_append (34 :: D) [c]
          have b4 : (⟨#[92]⟩ : ByteArray) ++ BA [c] = BA [92, c] := BA_append [92] [c]
          have b5 : BA (120 :: E) ++ BA [92, c] = BA (120 :: (E ++ [92, c])) := BA_append (120 :: E) [92, c]
          have zm : (BA (34 :: (D ++ [92]))).size ≤ 402 := by rw [BA_size] at zD ⊢; simp at zD ⊢; omega
          have zn : (BA (34 :: (D ++ [92, c]))).size ≤ 403 := by rw [BA_size] at zD ⊢; simp at zD ⊢; omega
          have zo : (BA [92, c]).size = 2 := BA_size _
          cases ho : oddQ c with
          | true =>
            rw [ho] at HDN
            obtain ⟨wb, rfl⟩ : ∃ wb : World, wb = wr := ⟨_, rfl⟩
            go_wp2_with fail
            refine (odd_any _ c).mono ?_
            rintro x w3 ⟨⟨i, rfl, hi⟩, rfl⟩
            rw [ho] at hi
            go_wp2_with (first | (refine wpList_strBA rfl _ _ _ rfl _ [c] rfl (RdB.mark w3 [c] _ (0, 0) _ 1 (by simp) rfl (by decide)) Tryd.underlying36 Tryd.underlying5 Tryd.underlying9 ?_) | (refine wpList_strBA rfl _ _ _ rfl _ [c] rfl (RdB.mark (w3.alloc _) [c] _ (0, 0) _ 1 (by simp) rfl (by decide)) Tryd.underlying36 Tryd.underlying5 Tryd.underlying9 ?_))
            go_roundg (k - (j + 1))
            case measure => omega
            case rel => exact ⟨j + 1, rfl, hlt, by rw [HDN.out]; rfl, by rw [HEN.out], by go_num, (HKJ.out.alloc _).alloc _⟩
          | false =>
            rw [ho] at HDN
            obtain ⟨wb, rfl⟩ : ∃ wb : World, wb = wr := ⟨_, rfl⟩
            go_wp2_with fail
            refine (odd_any _ c).mono ?_
            rintro x w3 ⟨⟨i, rfl, hi⟩, rfl⟩
            rw [ho] at hi
            go_wp2_with (first | (refine wpList_strBA rfl _ _ _ rfl _ [c] rfl (RdB.mark w3 [c] _ (0, 0) _ 1 (by simp) rfl (by decide)) Tryd.underlying36 Tryd.underlying5 Tryd.underlying9 ?_) | (refine wpList_strBA rfl _ _ _ rfl _ [c] rfl (RdB.mark (w3.alloc _) [c] _ (0, 0) _ 1 (by simp) rfl (by decide)) Tryd.underlying36 Tryd.underlying5 Tryd.underlying9 ?_))
            go_roundg (k - (j + 1))
            case measure => omega
            case rel => exact ⟨j + 1, rfl, hlt, by rw [HDN.out]; rfl, by rw [HEN.out], by go_num, (HKJ.out.alloc _).alloc _⟩
        · obtain rfl : j = k := by omega
          have htk : p.take j = p := List.take_of_length_le (by rw [HP.out]; exact Nat.le_refl _)
          rw [htk] at zD zE ⊢
          have HW : Hid (LEnv wr) := Lw.hid (HE.out.kept (K2.out.trans HKJ.out (fun _ _ h => h)))
          have KW : Hid (Kept (fun _ => False) w wr) := Lw.hid (K2.out.trans HKJ.out (fun _ _ h => h))
          have HFP := Lw.hid HFO.out
          have b1 : BA (34 :: dqB p) ++ (⟨#[34]⟩ : ByteArray) = BA (w2 p) := BA_append (34 :: dqB p) [34]
          have b2 : (⟨#[97, 35]⟩ : ByteArray) ++ W1 = BA (w4 p) := by rw [← HW1.out]; exact BA_append [97, 35] (w1 p)
          have b3 : (⟨#[36, 123, 120, 58, 45]⟩ : ByteArray) ++ W1 = BA ([36, 123, 120, 58, 45] ++ w1 p) := by rw [← HW1.out]; exact BA_append [36, 123, 120, 58, 45] (w1 p)
          have b4 : BA ([36, 123, 120, 58, 45] ++ w1 p) ++ (⟨#[125]⟩ : ByteArray) = BA (w5 p) := BA_append ([36, 123, 120, 58, 45] ++ w1 p) [125]
          have b5 : (⟨#[34, 36, 123, 120, 58, 45]⟩ : ByteArray) ++ BA (34 :: dqB p) = BA ([34, 36, 123, 120, 58, 45] ++ 34 :: dqB p) := BA_append [34, 36, 123, 120, 58, 45] (34 :: dqB p)
          have b6 : BA ([34, 36, 123, 120, 58, 45] ++ 34 :: dqB p) ++ (⟨#[34, 125, 34]⟩ : ByteArray) = BA (w6 p) := (BA_append ([34, 36, 123, 120, 58, 45] ++ 34 :: dqB p) [34, 125, 34]).trans (by simp [w6, w2])
          have y3 : (BA ([36, 123, 120, 58, 45] ++ w1 p)).size ≤ 900 := by rw [← b3, ByteArray.size_append]; have : (⟨#[36, 123, 120, 58, 45]⟩ : ByteArray).size = 5 := rfl; omega
          have y5 : (BA ([34, 36, 123, 120, 58, 45] ++ 34 :: dqB p)).size ≤ 900 := by rw [← b5, ByteArray.size_append]; have : (⟨#[34, 36, 123, 120, 58, 45]⟩ : ByteArray).size = 6 := rfl; omega
          obtain ⟨D, hD⟩ : ∃ q, BA (34 :: dqB p) = q := ⟨_, rfl⟩
          obtain ⟨W5, hW5⟩ : ∃ q, BA ([36, 123, 120, 58, 45] ++ w1 p) = q := ⟨_, rfl⟩
          obtain ⟨W6, hW6⟩ : ∃ q, BA ([34, 36, 123, 120, 58, 45] ++ 34 :: dqB p) = q := ⟨_, rfl⟩
          rw [hD] at b1 b5 zD; rw [hW5] at b3 b4 y3; rw [hW6] at b5 b6 y5
          rw [hD]
          have h3 : BA (120 :: eaB p) = BA (w3 p) := rfl
          rw [h3] at zE ⊢
          have HPL : Hid (p.length ≤ 200) := Lw.hid (by rw [HP.out]; exact hsl)
          clear hD hW5 hW6 h3 htk hlt a1' a2' zp HRD2 HKK K2 HK1 HP
          obtain ⟨wb, rfl⟩ : ∃ wb : World, wb = wr := ⟨_, rfl⟩
          go_wp2_with fail
          obtain ⟨g5, hg5⟩ : ∃ g5, wb.heap.size = g5 := ⟨_, rfl⟩
          obtain ⟨wf, hw5⟩ : ∃ wf, wb.alloc (.cells #[.string W1, .string (BA (w2 p)), .string (BA (w3 p)), .string (BA (w4 p)), .string (BA (w5 p)), .string (BA (w6 p))] 9) = wf := ⟨_, rfl⟩
          have HROW : Hid (wf.heap[g5]? = some (.cells #[.string (BA (w1 p)), .string (BA (w2 p)), .string (BA (w3 p)), .string (BA (w4 p)), .string (BA (w5 p)), .string (BA (w6 p))] 9 (0, 0))) := Lw.hid (by rw [← hw5, ← hg5, HW1.out]; exact heap_alloc wb _)
          have K5 : Hid (Kept (fun _ => False) w wf) := Lw.hid (by rw [← hw5]; exact KW.out.alloc _)
          rw [hg5, hw5]
          clear hg5 hw5 b1 b2 b3 b4 b5 b6 y3 y5 zD zE z1 z2 z3
          go_loopg [82] 6 (fun gk s82 wx => ∃ i : Nat, gk = 6 - i ∧ i ≤ 6 ∧ s82 = .int .i64 (i : Int) ∧ Kept (fun _ => False) wf wx)
          case atStart => exact ⟨0, rfl, Nat.zero_le _, rfl, Kept.refl _ _⟩
          case round =>
            obtain ⟨i, rfl, hi, rfl, hki⟩ := hrel
            have HKI := Lw.hid hki
            have HWR : Hid (LEnv wr) := Lw.hid (HE.out.kept (K5.out.trans HKI.out (fun _ _ h => h)))
            clear hki
            by_cases hlt : i < 6
            · obtain ⟨x, hx, c0⟩ : ∃ x ∈ wQ p, wr.cell? ⟨g5, i, none⟩ = some (.string (BA x)) := by
                have hr := Kept.heap HKI.out HROW.out (fun h => h)
                rcases (by omega : i = 0 ∨ i = 1 ∨ i = 2 ∨ i = 3 ∨ i = 4 ∨ i = 5) with rfl | rfl | rfl | rfl | rfl | rfl
                · exact ⟨w1 p, by simp [wQ], heap_cell hr 0⟩
                · exact ⟨w2 p, by simp [wQ], heap_cell hr 1⟩
                · exact ⟨w3 p, by simp [wQ], heap_cell hr 2⟩
                · exact ⟨w4 p, by simp [wQ], heap_cell hr 3⟩
                · exact ⟨w5 p, by simp [wQ], heap_cell hr 4⟩
                · exact ⟨w6 p, by simp [wQ], heap_cell hr 5⟩
              have hxl := wQ_len HPL.out x hx
              have HLX := Lw.hid (wQ_lex HFP.out HPL.out x hx)
              have b1 : (⟨#[32]⟩ : ByteArray) ++ BA x = BA (32 :: x) := BA_append [32] x
              have b2 : BA (32 :: x) ++ (⟨#[59]⟩ : ByteArray) = BA (32 :: x ++ [59]) := BA_append (32 :: x) [59]
              have z1 : (BA x).size ≤ 820 := by rw [BA_size]; exact hxl
              have z2 : (BA (32 :: x)).size ≤ 821 := by rw [BA_size, List.length_cons]; omega
              have HXL := Lw.hid hxl
              clear hxl hx
              obtain ⟨wc, rfl⟩ : ∃ wc : World, wc = wr := ⟨_, rfl⟩
              go_wp2_with fail
              refine (lex_ok wc (32 :: x ++ [59]) _ HWR.out HLX.out (by have := HXL.out; simp; omega)).mono ?_
              rintro y w9 ⟨⟨v9, rfl, ho9, hb9, _⟩, k9⟩
              obtain ⟨ad9, cp9, rfl, h91, h92, h93⟩ := own_slice ho9
              obtain ⟨g9, rfl⟩ := h93 (by simp)
              unfold maxLen at h92
              have r0 : w9.cell? ⟨g9, 0, none⟩ = some (.int .i64 1) := tk_cell ho9 0 _ rfl
              have r1 : w9.cell? ⟨g9, 1, none⟩ = some (.string (BA x)) := tk_cell ho9 1 _ rfl
              have r2 : w9.cell? ⟨g9, 2, none⟩ = some (.int .i64 1) := tk_cell ho9 2 _ rfl
              have r3 : w9.cell? ⟨g9, 3, none⟩ = some (.int .i64 3) := tk_cell ho9 3 _ rfl
              have K9 := Lw.hid (HKI.out.trans k9 (fun _ _ h => h))
              have hbx : (BA x != BA x) = false := by rw [bne, BA_beq]; simp
              simp only [List.length_cons, List.length_nil] at h91
              clear ho9 hb9 k9 h93 c0
              go_wp2_with fail
              go_roundg (6 - (i + 1))
              case measure => omega
              case rel => exact ⟨i + 1, rfl, hlt, by go_num, K9.out⟩
            · obtain rfl : i = 6 := by omega
              obtain ⟨wc, rfl⟩ : ∃ wc : World, wc = wr := ⟨_, rfl⟩
              go_wp2_with fail
              refine (tells_any _ HWR.out).mono ?_
              rintro y w9 ⟨rfl, k9⟩
              have K9 := Lw.hid ((K5.out.trans HKI.out (fun _ _ h => h)).trans k9 (fun _ _ h => h))
              clear k9
              go_wp2_with fail
              go_ret
              exact ⟨rfl, K9.out⟩
theorem lquotes_below (w : World) (s : ByteArray) (hE : LEnv w) (hs : s.size ≤ 9223372036854775807) :
    Calls Tryd.prog 4 #[.string s] w fun e w' => e = .returned (.bool true) ∧ Below w.heap.size w w' := by
  have h := lquotes_any w s.data.toList hE (by rw [← BA_size, ← BA_of]; exact hs)
  rw [← BA_of] at h
  exact h.mono fun _ _ ⟨e, k⟩ => ⟨e, Below.of_kept k⟩
end Go.Proofs.YtifcgeanippepaaDoor
