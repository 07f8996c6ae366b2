/- Chapter 13: the document's own Past, walked. -/
import Derived.Test.YtbmfnepbdfnlaaaRef13c
namespace Go.Proofs.Ytbmfnepbdfnlaaa
open Go Go.RowKit Go.Lw
set_option maxRecDepth 100000
set_option linter.unusedVariables false
set_option linter.unusedSimpArgs false
def goneL (l : List Hv) (k : Nat) : List Nat := (upto 1 k).filter fun x => !hasF l x
theorem gone_true {l : List Hv} {k : Nat} (h : hasF l (1 + k) = false) : goneL l (k + 1) = goneL l k ++ [1 + k] := by unfold goneL; rw [upto_succ]; exact snoc_true (by simp [h])
theorem gone_false {l : List Hv} {k : Nat} (h : hasF l (1 + k) = true) : goneL l (k + 1) = goneL l k := by unfold goneL; rw [upto_succ]; exact snoc_false (by simp [h])
theorem gone_take {l : List Hv} {k last most : Nat} (hk : k ≤ last) (h : k = last ∨ (goneL l k).length = most) (hm : (goneL l k).length ≤ most) : (goneL l last).take most = goneL l k := by
  rcases h with rfl | h
  · exact List.take_of_length_le hm
  · have : goneL l k <+: goneL l last := filter_pre _ (upto_pre 1 hk)
    rw [List.prefix_iff_eq_take] at this
    rw [← h]; exact this.symm
set_option maxHeartbeats 8000000 in
theorem rpast_any (w : World) (v : Value) (l : List Hv) (hl : RdH w v l) (nx last most : Nat) (hnx : nx < 4294967296) (hla : last < 4294967296) (hmo : most ≤ 1000) (hl9 : l.length ≤ 1000000) :
    Calls Try.prog 20 #[.agg #[u32v nx, v], u32v last, .int .i64 (most : Int)] w (RsPost 24 1 w ((pastF nx last l).take most).length (((pastF nx last l).take most).map u32v)) := by
  obtain ⟨ad, cap, rfl, h1, h2, _⟩ := hl.shape
  obtain ⟨r, hr⟩ : ∃ r, fitsF nx last l = r := ⟨_, rfl⟩
  obtain ⟨P, hP⟩ : ∃ P, (pastF nx last l).take most = P := ⟨_, rfl⟩
  have HN0 : Hid (¬ r = 0 → P = []) := Lw.hid (fun h => by rw [← hP]; unfold pastF; rw [if_neg (by rw [hr]; exact h)]; simp)
  have HN1 : Hid (r = 0 → last < nx ∧ P = (goneL l last).take most) := Lw.hid (fun h => ⟨(fits0 (by rw [hr]; exact h)).1, by rw [← hP]; unfold pastF goneL; rw [if_pos (by rw [hr]; exact h)]⟩)
  rw [hP]
  have HL := Lw.hid hl
  obtain ⟨m, hm⟩ : ∃ m, l.length = m := ⟨_, rfl⟩
  have HM := Lw.hid hm
  rw [hm] at h1 hl9 HL ⊢
  have HS := Lw.hid (RfAt.start w nx m cap ad)
  have HR0 := Lw.hid hr
  clear hl hm hr hP
  go_enter Try.func20, Try.ntmps20
  go_wp2_with fail
  refine (rfits_any _ _ l (HS.out.rd HL.out) nx last hnx hla (by rw [HM.out]; exact hl9)).mono ?_
  rintro x w1 ⟨rfl, k1⟩
  rw [HR0.out]
  have HS1 := Lw.hid (HS.out.kept k1)
  obtain ⟨b0, b1⟩ := HS1.out.cells
  clear k1
  by_cases hr0 : r = 0
  · have z0 : ((r : Int) != 0) = false := by rw [fits_ne]; simp [hr0]
    obtain ⟨hln, hp1⟩ := HN1.out hr0
    have HP1 := Lw.hid hp1
    clear hr0 hp1
    go_wp2_with fail
    go_loopg [7, 8] last (fun gk c i wr => ∃ k : Nat, gk = last - k ∧ k ≤ last ∧ i = u32v (1 + k) ∧ (goneL l k).length ≤ most ∧ RfAt w wr nx m cap ad ∧ RfOut w wr 24 1 c (goneL l k).length ((goneL l k).map u32v))
    case atStart => exact ⟨0, rfl, Nat.zero_le _, rfl, Nat.zero_le _, HS1.out, RfOut.nil _ _ _ _⟩
    case round =>
      obtain ⟨k, rfl, hk, rfl, hal, hr, ho⟩ := hrel
      obtain ⟨c0, c1⟩ := hr.cells
      have HR := Lw.hid hr
      obtain ⟨ad1, cap1, rfl, hc1, hc2, _⟩ := own_slice ho.1
      unfold maxLen at hc2
      have HO := Lw.hid ho
      clear hr ho
      have HG := Lw.hid (fun hh hm' => (gone_take (l := l) (most := most) hk hh hm'))
      have HT := Lw.hid (gone_true (l := l) (k := k)); have HF := Lw.hid (gone_false (l := l) (k := k))
      obtain ⟨L, hL⟩ : ∃ L, goneL l k = L := ⟨_, rfl⟩
      rw [hL] at HT HF HG HO hal hc1 ⊢
      obtain ⟨c, hc⟩ : ∃ c, L.length = c := ⟨_, rfl⟩
      have HC := Lw.hid hc
      rw [hc] at hal HO hc1 HG ⊢
      clear hL hc
      have z2 : ((1 + k : Nat) : Int) ≠ 0 := by omega
      have z3 : ((((1 + k : Nat) : Int)) != 0) = true := by simp; omega
      by_cases hlt : k < last
      · have z1 : decide (1 + k ≤ last) = true := by simp; omega
        by_cases hcm : c < most
        · have z4 : decide (c < most) = true := by simp; omega
          obtain ⟨b, hb⟩ : ∃ b, hasF l (1 + k) = b := ⟨_, rfl⟩
          rw [hb] at HT HF
          have HB := Lw.hid hb
          clear hb
          go_wp2_with fail
          refine (rhas_any _ _ l (HR.out.rd HL.out) nx (1 + k) (by rw [HM.out]; exact hl9)).mono ?_
          rintro x w2 ⟨rfl, k2⟩
          rw [HB.out]
          have HR2 := Lw.hid (HR.out.kept k2); have HO2 := Lw.hid (HO.out.kept k2)
          clear k2
          obtain ⟨d0, d1⟩ := HR2.out.cells
          cases b with
          | true =>
            have hx := Lw.hid (HF.out rfl)
            go_wp2_with fail
            go_roundg (last - (k + 1))
            case measure => omega
            case rel => exact ⟨k + 1, rfl, hlt, by go_num, by rw [hx.out, HC.out]; exact hal, HR2.out, by rw [hx.out, HC.out]; exact HO2.out⟩
          | false =>
            have hx := Lw.hid (HT.out rfl)
            have e1 : Hid ((w2.alloc (.cells ([u32v (1 + k)] : List Value).toArray 24)).ownsRow 0 24 1 (.slice ad1 c cap1) c (L.map u32v)) := Lw.hid (own_kept ((Kept.refl (fun _ => False) w2).alloc _) HO2.out.1 (fun _ _ h => h))
            go_wp2_with (at_builtin; refine wpList_app rfl _ _ _ rfl EU32 _ c _ rfl e1.out _ 1 _ rfl (Rd.lit w2 [u32v (1 + k)] 24 1 w2.heap.size 1 rfl rfl (by decide)) (fun u hu => by rw [List.mem_singleton.1 hu]; rfl) (by unfold maxLen; omega) (by omega) ?_; intro ad' cap' w5 ho' hg hf; obtain ⟨hr5, ho5⟩ := HR2.out.grow HO2.out ho' hg hf; have HR5 := Lw.hid hr5; have HO5 := Lw.hid ho5; clear ho' hg hf hr5 ho5)
            go_roundg (last - (k + 1))
            case measure => omega
            case rel => exact ⟨k + 1, rfl, hlt, by go_num, by rw [hx.out, List.length_append, HC.out]; simp; omega, HR5.out, by rw [hx.out, List.length_append, HC.out, List.map_append]; exact HO5.out⟩
        · have z4 : decide (c < most) = false := by simp; omega
          have HE : Hid (P = L) := Lw.hid (by rw [HP1.out]; exact HG.out (.inr (by omega)) hal)
          go_wp2_with fail
          go_ret
          rw [HE.out, HC.out]
          exact RsPost.of HR.out HO.out
      · have z1 : decide (1 + k ≤ last) = false := by simp; omega
        have HE : Hid (P = L) := Lw.hid (by rw [HP1.out]; exact HG.out (.inl (by omega)) hal)
        go_wp2_with fail
        go_ret
        rw [HE.out, HC.out]
        exact RsPost.of HR.out HO.out
  · have z0 : ((r : Int) != 0) = true := by rw [fits_ne]; simp [hr0]
    have hp := HN0.out hr0
    have HP := Lw.hid hp
    clear hr0 hp
    go_wp2_with fail
    go_ret
    rw [HP.out]
    exact RsPost.of HS1.out (RfOut.nil _ _ _ _)
end Go.Proofs.Ytbmfnepbdfnlaaa
