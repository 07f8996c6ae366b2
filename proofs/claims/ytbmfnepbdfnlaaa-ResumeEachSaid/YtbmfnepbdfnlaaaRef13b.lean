/- Chapter 13: the document's own Fits, Again, Replay, Past, walked. -/
import Derived.Test.YtbmfnepbdfnlaaaRef13
namespace Go.Proofs.Ytbmfnepbdfnlaaa
open Go Go.RowKit Go.Lw
set_option maxRecDepth 100000
set_option linter.unusedVariables false
set_option linter.unusedSimpArgs false
theorem above_true {last : Nat} {l : List Hv} {k : Nat} (hk : k < l.length) (h : last < l[k].id) : aboveL last (l.take (k + 1)) = aboveL last (l.take k) ++ [l[k]] := by
  unfold aboveL; rw [take_snoc l k hk, List.filter_append]; simp [h]
theorem above_false {last : Nat} {l : List Hv} {k : Nat} (hk : k < l.length) (h : ¬ last < l[k].id) : aboveL last (l.take (k + 1)) = aboveL last (l.take k) := by
  unfold aboveL; rw [take_snoc l k hk, List.filter_append]; simp [h]
theorem above_le (last : Nat) (l : List Hv) (k : Nat) : (aboveL last (l.take k)).length ≤ k := by
  unfold aboveL; exact Nat.le_trans (List.length_filter_le _ _) (List.length_take_le _ _)
set_option maxHeartbeats 8000000 in
theorem rfits_any (w : World) (v : Value) (l : List Hv) (hl : RdH w v l) (nx last : Nat) (hnx : nx < 4294967296) (hla : last < 4294967296) (hl9 : l.length ≤ 1000000) :
    Calls Try.prog 22 #[.agg #[u32v nx, v], u32v last] w fun x w' => x = .returned (.int .i64 (fitsF nx last l : Int)) ∧ Kept (fun _ => False) w w' := by
  obtain ⟨ad, cap, rfl, h1, h2, _⟩ := hl.shape
  obtain ⟨r, hr⟩ : ∃ r, fitsF nx last l = r := ⟨_, rfl⟩
  have HR0 := Lw.hid hr
  rw [hr]
  have HL := Lw.hid hl
  obtain ⟨m, hm⟩ : ∃ m, l.length = m := ⟨_, rfl⟩
  have HM := Lw.hid hm
  rw [hm] at h1 hl9 HL ⊢
  have HS := Lw.hid (RfAt.start w nx m cap ad)
  clear hl hm hr
  go_enter Try.func22, Try.ntmps22
  go_wp2_with fail
  refine (rmay_any _ _ l (HS.out.rd HL.out) nx hnx (by rw [HM.out]; exact hl9)).mono ?_
  rintro x w1 ⟨rfl, k1⟩
  have HS1 := Lw.hid (HS.out.kept k1)
  obtain ⟨b0, b1⟩ := HS1.out.cells
  clear k1
  cases hmay : mayF nx l with
  | false =>
    have HX : Hid (r = 1) := Lw.hid (by rw [← HR0.out]; unfold fitsF; rw [if_pos hmay])
    clear hmay
    go_wp2_with fail
    go_ret
    exact ⟨by rw [HX.out]; rfl, HS1.out.k⟩
  | true =>
    by_cases hnl : nx ≤ last
    · have HX : Hid (r = 5) := Lw.hid (by rw [← HR0.out]; unfold fitsF; rw [if_neg (by rw [hmay]; simp), if_pos hnl])
      have z1 : decide (nx ≤ last) = true := by simp; omega
      clear hmay
      go_wp2_with fail
      go_ret
      exact ⟨by rw [HX.out]; rfl, HS1.out.k⟩
    · have HX : Hid (r = if (aboveL last l).length = nx - 1 - last then 0 else 6) := Lw.hid (by rw [← HR0.out]; exact fits_ref hmay (by omega))
      have z1 : decide (nx ≤ last) = false := by simp; omega
      clear hmay
      go_wp2_with fail
      go_loopg [5, 6] m (fun gk c i wr => ∃ k : Nat, gk = m - k ∧ k ≤ m ∧ i = .int .i64 k ∧ c = u32v (aboveL last (l.take k)).length ∧ RfAt w wr nx m cap ad)
      case atStart => exact ⟨0, rfl, Nat.zero_le _, rfl, rfl, HS1.out⟩
      case round =>
        obtain ⟨k, rfl, hk, rfl, rfl, hr⟩ := hrel
        obtain ⟨c0, c1⟩ := hr.cells
        have HR := Lw.hid hr
        clear hr
        have hal := above_le last l k
        by_cases hlt : k < m
        · have hlt' : k < l.length := by rw [HM.out]; exact hlt
          obtain ⟨g, off, rfl, q0, q1, q2, q3⟩ := hv_at (HR.out.rd HL.out) hlt'
          have HA := Lw.hid (fun h => above_true (last := last) hlt' h)
          have HB := Lw.hid (fun h => above_false (last := last) hlt' h)
          obtain ⟨t, ht⟩ : ∃ t, l[k] = t := ⟨_, rfl⟩
          rw [ht] at q0 q1 q2 q3 HA HB
          obtain ⟨c, hc⟩ : ∃ c, (aboveL last (l.take k)).length = c := ⟨_, rfl⟩
          have HC := Lw.hid hc
          rw [hc] at hal ⊢
          clear ht hc
          by_cases e : last < t.id
          · have z2 : decide (last < t.id) = true := by simp; omega
            have hx := Lw.hid (HA.out e)
            go_wp2_with fail
            go_roundg (m - (k + 1))
            case measure => omega
            case rel => exact ⟨k + 1, rfl, hlt, by go_num, by rw [hx.out, List.length_append, HC.out]; rfl, HR.out⟩
          · have z2 : decide (last < t.id) = false := by simp; omega
            have hx := Lw.hid (HB.out e)
            go_wp2_with fail
            go_roundg (m - (k + 1))
            case measure => omega
            case rel => exact ⟨k + 1, rfl, hlt, by go_num, by rw [hx.out, HC.out], HR.out⟩
        · obtain rfl : k = m := by omega
          have hTK : Hid (aboveL last (l.take k) = aboveL last l) := Lw.hid (by rw [List.take_of_length_le (by rw [HM.out]; exact Nat.le_refl _)])
          obtain ⟨c, hc⟩ : ∃ c, (aboveL last (l.take k)).length = c := ⟨_, rfl⟩
          have HC := Lw.hid hc
          rw [hc] at hal ⊢
          clear hc
          by_cases e : c = nx - 1 - last
          · have z2 : ((c : Int) != ((nx : Int) - 1 - (last : Int))) = false := by simp; omega
            have HY : Hid (r = 0) := Lw.hid (by rw [HX.out, ← hTK.out, HC.out, if_pos e])
            clear e
            go_wp2_with fail
            go_ret
            exact ⟨by rw [HY.out]; rfl, HR.out.k⟩
          · have z2 : ((c : Int) != ((nx : Int) - 1 - (last : Int))) = true := by simp; omega
            have HY : Hid (r = 6) := Lw.hid (by rw [HX.out, ← hTK.out, HC.out, if_neg e])
            clear e
            go_wp2_with fail
            go_ret
            exact ⟨by rw [HY.out]; rfl, HR.out.k⟩
end Go.Proofs.Ytbmfnepbdfnlaaa
