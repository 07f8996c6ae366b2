/- longwirelaw21.short. -/
import Derived.Test.YtkfoinphkjmlmaaRefTop
import Derived.WalkLawsBesides
import Derived.Lib.MinMax
namespace Go.Proofs.Ytkfoinphkjmlmaa
open Go Go.RowKit Go.Lw
set_option maxRecDepth 100000
set_option linter.unusedVariables false
attribute [local go_sem] BA_toList
theorem BA_min (l : List UInt8) (m : Nat) (M : Int) (h : M = m) : (BA l).extract 0 (min (l.length : Int) M).toNat = BA (l.take m) := by
  subst h
  rw [BA_head]
  congr 1
  rw [show (min (l.length : Int) (m : Int)).toNat = min m l.length by omega]
  rw [List.take_eq_take_iff]; omega
set_option maxHeartbeats 4000000 in
theorem short_any (w : World) (p s : List UInt8) (hp : p.length ≤ 9223372036854775807) (hsl : s.length ≤ 9223372036854775807) :
    Calls Try.prog 4 #[.string (BA p), .string (BA s)] w fun e w' => ∃ p', p'.length ≤ 24 ∧ e = .returned (.tuple #[.string (BA p'), .string (BA (s.take 24))]) ∧ Kept (fun _ => False) w w' := by
  have hs := BA_size p; have hs2 := BA_size s
  have e1 := BA_min p 24 24 rfl; have e2 := BA_min s 24 24 rfl
  obtain ⟨q, hq⟩ : ∃ q, p.take 24 = q := ⟨_, rfl⟩
  obtain ⟨r, hr⟩ : ∃ r, s.take 24 = r := ⟨_, rfl⟩
  have hql : q.length ≤ 24 := by rw [← hq]; exact List.length_take_le _ _
  rw [hq] at e1; rw [hr] at e2 ⊢
  have hqs := BA_size q
  have HE1 : Hid (q.length ≤ 24) := Lw.hid hql
  clear hq hr
  obtain ⟨n, hn⟩ : ∃ n, q.length = n := ⟨_, rfl⟩
  have HN := Lw.hid hn
  rw [hn] at hqs hql
  clear hn
  go_enter Try.func4, Try.ntmps4
  go_wp2_with fail
  go_quiet (fail)
  go_wp2_with (refine wpList_bytes rfl _ _ _ rfl (BA q) rfl Try.underlying9 Try.underlying33 Try.underlying5 (by rw [hqs]; unfold maxLen; omega) ?_; intro g cap w1 hg hrow hrd hk hsz)
  rw [BA_list] at hrow hrd
  have HG := Lw.hid hg.out
  have HCAP : Hid (n ≤ cap ∧ cap ≤ maxLen) := Lw.hid (by
    obtain ⟨a, cap', e, h1, h2, _⟩ := hrd.open
    cases e
    rw [HN.out] at h1
    exact ⟨h1, h2⟩)
  have HROW := Lw.hid hrow; have HK := Lw.hid ((kept_drewN' w nq).trans hk (fun _ _ h => h))
  clear hs hs2 e1 e2 hrow hrd hk
  go_wp2_with fail
  go_loopg [7, 24] n (fun gk s7 s24 wx => ∃ (k t : Nat) (q' : List UInt8), gk = n - k ∧ k ≤ n ∧ t ≤ k ∧ s7 = .int .i64 (t : Int) ∧ s24 = .int .i64 (k : Int) ∧ q'.length = n ∧ RowAt wx g (q'.map bv) ∧ Kept (fun i => w.heap.size ≤ i) w wx)
  case atStart => exact ⟨0, 0, q, rfl, Nat.zero_le _, Nat.le_refl _, rfl, rfl, HN.out, HROW.out, HK.out.mono (fun _ _ h => h.elim)⟩
  case round =>
    obtain ⟨k, t, q', rfl, hk, ht, rfl, rfl, hq', hrow, hkk⟩ := hrel
    have HROW2 := Lw.hid hrow; have HKK := Lw.hid hkk; have HQ' := Lw.hid hq'
    clear hrow hkk hq'
    by_cases hlt : k < n
    · obtain ⟨c, hc⟩ : ∃ c, q'[k]? = some c := ⟨_, List.getElem?_eq_getElem (by rw [HQ'.out]; exact hlt)⟩
      have c0 : wr.cell? ⟨g, k, none⟩ = some (.int .u8 (c.toNat : Int)) := by
        apply HROW2.out.cell
        rw [List.getElem?_map, hc]; rfl
      have f0 : wr.frozen? ⟨g, k, none⟩ = false := by
        have := HROW2.out.free
        exact this k (by rw [List.length_map, HQ'.out]; exact hlt)
      clear hc
      go_wp2_with fail
      all_goals
        go_roundg (n - (k + 1))
        case measure => omega
        case rel => first
          | exact ⟨k + 1, t + 1, q', rfl, hlt, by omega, by go_num, by go_num, HQ'.out, HROW2.out, HKK.out⟩
          | exact ⟨k + 1, t, q', rfl, hlt, by omega, rfl, by go_num, HQ'.out, HROW2.out, HKK.out⟩
          | exact ⟨k + 1, t + 1, q'.set k 120, rfl, hlt, by omega, by go_num, by go_num, by rw [List.length_set]; exact HQ'.out, by have := HROW2.out.stored k (bv 120); rw [List.map_set]; exact this, HKK.out.set g k (fun h => by have := HG.out; simp only [World.heap_drewN] at this; omega) _⟩
    · obtain rfl : k = n := by omega
      have hrd : RdB wr (.slice (some ⟨g, 0, none⟩) k cap) q' := by
        have h := HROW2.out.rd 1 k cap (by rw [List.length_map, HQ'.out]; omega) HCAP.out.1 HCAP.out.2
        unfold RdB
        rw [HQ'.out]
        exact h
      have HRD := Lw.hid hrd
      clear hrd
      go_wp2_with (refine wpList_strBA rfl _ _ _ rfl _ q' rfl HRD.out Try.underlying33 Try.underlying5 Try.underlying9 ?_)
      go_ret2
      exact ⟨q', by rw [HQ'.out]; exact hql, rfl, HKK.out.mono (fun i hi h => by omega)⟩
end Go.Proofs.Ytkfoinphkjmlmaa
