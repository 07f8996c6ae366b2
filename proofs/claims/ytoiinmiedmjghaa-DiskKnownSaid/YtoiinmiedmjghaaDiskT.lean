/- longwirelaw14.tells. -/
import Derived.Test.YtoiinmiedmjghaaDisk4
namespace Go.Proofs.Ytoiinmiedmjghaa
open Go Go.RowKit Go.Lw
set_option maxRecDepth 100000
theorem DPost.keeps {w w' W : World} {g : Nat} {v : Value} {D : Dsk} (h : DPost w w' g v D) (k0 : Kept (fun _ => False) W w) (hg : W.heap.size ≤ g) (hv : ∀ k, blk v k → W.heap.size ≤ k) : ∃ v', DiskAt w' g v' D ∧ Kept (fun _ => False) W w' ∧ ∀ k, blk v' k → W.heap.size ≤ k := by
  obtain ⟨v', d, k, f⟩ := h
  refine ⟨v', d, k0.trans k (fun i hi hs => ?_), fun i hi => ?_⟩
  · rcases hs with hs | hs
    · omega
    · have := hv i hs; omega
  · rcases f i hi with h | h
    · exact hv i h
    · exact Nat.le_trans k0.size h
theorem Dsk.ok_mk {cp : Nat} {b : List UInt8} {pt : Nat} {st is : Bool} {np nb : Int} (h1 : b.length ≤ cp) (h2 : cp ≤ 1048576) (h3 : pt < 4611686018427387904) (h4 : -4611686018427387904 < np ∧ np ≤ 9223372036854775807) (h5 : 0 ≤ nb ∧ nb ≤ 9223372036854775807) (h6 : is = true → 0 ≤ np) : (⟨cp, b, pt, st, is, np, nb⟩ : Dsk).ok :=
  ⟨h1, h2, h3, h4.1, h4.2, fun h => ⟨h6 h, h5.1⟩, by simp only; omega⟩
theorem blk_new {g n c k : Nat} (h : blk (.slice (some ⟨g, 0, none⟩) n c) k) : k = g := blk_some h
theorem DPost.ok_next {w w' : World} {g : Nat} {v : Value} {D : Dsk} (h : DPost w w' g v D) : ∃ v', DPost w w' g v D ∧ DiskAt w' g v' D := by
  obtain ⟨v', d, k, f⟩ := id h
  exact ⟨v', h, d⟩
set_option maxHeartbeats 4000000 in
theorem dtells_any (w : World) : Calls Try.prog 19 #[] w fun e w' => e = .returned (.bool true) ∧ Kept (fun _ => False) w w' := by
  have P1 : Hid ((⟨9, [], 0, false, false, 0, 0⟩ : Dsk).put 0 [97, 98, 99, 100, 101, 102] = (⟨9, [97, 98, 99, 100, 101, 102], 1, false, false, -1, 0⟩, 0)) := Lw.hid rfl
  have P2 : Hid ((⟨9, [97, 98, 99, 100, 101, 102], 1, false, false, -1, 0⟩ : Dsk).plan 0 2 = (⟨9, [97, 98, 99, 100, 101, 102], 1, false, true, 0, 2⟩, 0)) := Lw.hid rfl
  have P3 : Hid ((⟨9, [97, 98, 99, 100, 101, 102], 1, false, true, 0, 2⟩ : Dsk).put 1 [120, 121, 122] = (⟨9, [97, 120, 121, 100, 101, 102], 1, true, false, 0, 0⟩, 10)) := Lw.hid rfl
  have P4 : Hid ((⟨9, [97, 120, 121, 100, 101, 102], 1, true, false, 0, 0⟩ : Dsk).rd 0 9 = [97, 120, 121, 100, 101, 102]) := Lw.hid rfl
  go_enter Try.func19, Try.ntmps19
  go_wp2_with fail
  refine (dnew_any w 9 (by decide)).mono ?_
  rintro e w1 ⟨g, rfl, d1, k1, hg⟩
  have D1 := Lw.hid d1; have K1 := Lw.hid k1
  have hg1 := heap_lt d1.box
  clear d1 k1
  go_wp2_with (refine wpList_const rfl _ _ rfl _ _ _ _ rfl (by simp) Try.underlying22 Try.underlying5 ?_)
  refine (dput_any _ g _ _ (D1.out.kept ((Kept.refl (fun _ => False) w1).alloc _) (fun h => h) (fun _ _ h => h)) ⟨by simp, by decide, by decide, by decide, by decide, by simp, by decide⟩ 0 (by decide) _ [97, 98, 99, 100, 101, 102] (RdB.mark w1 [97, 98, 99, 100, 101, 102] _ _ _ 6 rfl rfl (by decide)) (fun _ k hk => by have := blk_new hk; exact ⟨by omega, fun h => by cases h⟩)).mono ?_
  rw [P1.out]
  rintro e w2 ⟨rfl, hp⟩
  obtain ⟨v2, d2, k2, hv2⟩ := hp.keeps (K1.out.alloc _) hg (fun k hk => by cases hk)
  have D2 := Lw.hid d2; have K2 := Lw.hid k2
  clear d2 k2 hp D1 K1
  go_wp2_with fail
  refine (dplan_any _ g _ _ D2.out 0 2).mono ?_
  rw [P2.out]
  rintro e w3 ⟨rfl, hp⟩
  obtain ⟨v3, d3, k3, hv3⟩ := hp.keeps K2.out hg hv2
  have D3 := Lw.hid d3; have K3 := Lw.hid k3
  have hg3 := heap_lt d3.box
  have hb3 := own_lt d3.own
  clear d3 k3 hp D2 K2
  go_wp2_with (refine wpList_const rfl _ _ rfl _ _ _ _ rfl (by simp) Try.underlying22 Try.underlying5 ?_)
  refine (dput_any _ g _ _ (D3.out.kept ((Kept.refl (fun _ => False) w3).alloc _) (fun h => h) (fun _ _ h => h)) ⟨by simp, by decide, by decide, by decide, by decide, by simp, by decide⟩ 1 (by decide) _ [120, 121, 122] (RdB.mark w3 [120, 121, 122] _ _ _ 3 rfl rfl (by decide)) (fun _ k hk => by have := blk_new hk; exact ⟨by omega, fun h => by have := hb3 k h; omega⟩)).mono ?_
  rw [P3.out]
  rintro e w4 ⟨rfl, hp⟩
  obtain ⟨v4, d4, k4, hv4⟩ := hp.keeps (K3.out.alloc _) hg hv3
  have D4 := Lw.hid d4; have K4 := Lw.hid k4
  clear d4 k4 hp D3 K3 hb3 hg3
  go_wp2_with fail
  refine (dread_any _ g _ _ D4.out (by simp) 0 9 (by decide) (by decide)).mono ?_
  rw [P4.out]
  rintro e w5 ⟨r, rfl, o5, k5, _⟩
  have D5 := Lw.hid (D4.out.kept k5 (fun h => h) (fun _ _ h => h))
  have K5 := Lw.hid (K4.out.trans k5 (fun _ _ h => h))
  have R5 : Hid (RdB w5 r [97, 120, 121, 100, 101, 102]) := Lw.hid (RdB.of_own o5 rfl)
  clear o5 k5 D4 K4
  go_wp2_with (refine wpList_str rfl _ _ _ rfl _ _ rfl R5.out Try.underlying22 Try.underlying5 Try.underlying9 ?_)
  refine (dstopped_any _ g _ _ D5.out).mono ?_
  rintro e _ ⟨rfl, rfl⟩
  go_wp2_with fail
  go_ret
  exact ⟨rfl, K5.out⟩
end Go.Proofs.Ytoiinmiedmjghaa
