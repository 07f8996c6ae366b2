/- slices.Equal of bytes. -/
import Derived.Test.YtoiinmiedmjghaaChecked
import Derived.Test.YtoiinmiedmjghaaLib
import Derived.Laws.BitsAllLaws
import Derived.Deep.QuietTactic
import Derived.BigQuiet
namespace Go.Proofs.Ytoiinmiedmjghaa
open Go Go.RowKit Go.Lw
set_option maxRecDepth 100000
theorem kept_drewN (w : World) (n : Nat) : Kept (fun _ => False) w (w.drewN n) := ⟨rfl, rfl, rfl, Nat.le_refl _, fun _ _ _ => rfl⟩
/-- A reading, opened: each of its cells, by the byte. -/
theorem rdb_opened {w : World} {v : Value} {l : List UInt8} (h : RdB w v l) : ∃ a cap, v = .slice a l.length cap ∧ l.length ≤ cap ∧ cap ≤ maxLen ∧
    ∀ j c, l[j]? = some c → ∃ g off, a = some ⟨g, off, Option.none⟩ ∧ w.cell? ⟨g, off + j, Option.none⟩ = some (.int .u8 (c.toNat : Int)) := by
  obtain ⟨_, a, cap, rfl, h1, h2, h3⟩ := h
  exact ⟨a, cap, rfl, h1, h2, fun j c hj => h3 j _ (by rw [List.getElem?_map, hj]; rfl)⟩
theorem at_lt {l : List UInt8} {k : Nat} (h : k < l.length) : ∃ c, l[k]? = some c := ⟨_, List.getElem?_eq_getElem h⟩
theorem take_at {l : List UInt8} {k : Nat} {c : UInt8} (h : l[k]? = some c) : l.take (k + 1) = l.take k ++ [c] := by
  have hl : k < l.length := by
    rcases Nat.lt_or_ge k l.length with h' | h'
    · exact h'
    · rw [List.getElem?_eq_none h'] at h; cases h
  rw [take_snoc l k hl]
  rw [List.getElem?_eq_getElem hl] at h
  rw [Option.some.inj h]
set_option maxHeartbeats 1000000 in
theorem sleq_any (w : World) (x y : Value) (l m : List UInt8) (hx : RdB w x l) (hy : RdB w y m) (b : Bool) (hb : (l == m) = b) :
    Calls Try.prog 28 #[x, y] w fun e w' => e = .returned (.bool b) ∧ Kept (fun _ => False) w w' := by
  have HB : Hid ((l == m) = b) := Lw.hid hb
  clear hb
  obtain ⟨ad, cap, rfl, h1, h2, hc⟩ := rdb_opened hx
  obtain ⟨ad', cap', rfl, h1', h2', hc'⟩ := rdb_opened hy
  unfold maxLen at h2 h2'
  have HC := Lw.hid hc; have HC' := Lw.hid hc'
  clear hx hy hc hc'
  have HL : Hid (l.length = l.length) := Lw.hid rfl
  have HM : Hid (m.length = m.length) := Lw.hid rfl
  obtain ⟨L, hL⟩ : ∃ L, l.length = L := ⟨_, rfl⟩
  obtain ⟨M, hM⟩ : ∃ M, m.length = M := ⟨_, rfl⟩
  rw [hL] at h1 ⊢
  rw [hM] at h1' ⊢
  replace HL : Hid (l.length = L) := Lw.hid hL
  replace HM : Hid (m.length = M) := Lw.hid hM
  clear hL hM
  by_cases hne : L = M
  · subst hne
    go_enter Try.func28, Try.ntmps28
    go_wp2_with fail
    go_loopw [13] (fun i wr => ∃ k : Nat, k ≤ L ∧ i = .int .i64 (k : Int) ∧ l.take k = m.take k ∧ ∃ n, wr = w.drewN n) (fun i _ => L - (intOf i).toNat)
    case atStart => exact ⟨0, Nat.zero_le _, rfl, rfl, 0, rfl⟩
    case round =>
      obtain ⟨k, hk, rfl, he, n, rfl⟩ := hrel
      have HE := Lw.hid he
      clear he
      by_cases hlt : k < L
      · obtain ⟨c, hlc⟩ := at_lt (l := l) (k := k) (by rw [HL.out]; exact hlt)
        obtain ⟨d, hmd⟩ := at_lt (l := m) (k := k) (by rw [HM.out]; exact hlt)
        obtain ⟨g, off, rfl, c1⟩ := HC.out k c hlc
        obtain ⟨g', off', rfl, c2⟩ := HC'.out k d hmd
        have i0 : (0 : Int) ≤ (k : Int) := by omega
        have i1 : (k : Int) < (L : Int) := by omega
        have HLC := Lw.hid hlc; have HMD := Lw.hid hmd
        clear hlc hmd
        by_cases hbb : c = d
        · subst hbb
          go_wp2_with fail
          go_quiet (fail)
          go_wp2_with fail
          go_roundw
          case rel => exact ⟨k + 1, by omega, by go_num, by rw [take_at HLC.out, take_at HMD.out, HE.out], _, rfl⟩
          case measure => simp [intOf]; omega
        · have hnb : ((c.toNat : Int) != (d.toNat : Int)) = true := by
            rw [bne_iff_ne]
            intro e
            exact hbb (UInt8.toNat_inj.1 (by omega))
          have HNB : Hid (l ≠ m) := Lw.hid (fun e => hbb (by have h1 := HLC.out; have h2 := HMD.out; rw [e, h2] at h1; exact (Option.some.inj h1).symm))
          clear hbb
          go_wp2_with fail
          go_quiet (fail)
          go_wp2_with fail
          go_ret
          exact ⟨by rw [← HB.out, beq_eq_false_iff_ne.2 HNB.out]; rfl, (kept_drewN w n).trans (kept_drewN _ nq) (fun _ _ h => h)⟩
      · obtain rfl : k = L := by omega
        go_wp2_with fail
        go_ret
        have e : l = m := by
          have := HE.out
          rwa [List.take_of_length_le (by rw [HL.out]; exact Nat.le_refl _), List.take_of_length_le (by rw [HM.out]; exact Nat.le_refl _)] at this
        exact ⟨by rw [← HB.out, e]; simp, kept_drewN _ _⟩
  · have hbeq : ((L : Int) != (M : Int)) = true := by rw [bne_iff_ne]; omega
    have HNE : Hid (l ≠ m) := Lw.hid (fun e => hne (by rw [← HL.out, ← HM.out, e]))
    clear hne
    go_enter Try.func28, Try.ntmps28
    go_wp2_with fail
    go_ret
    exact ⟨by rw [← HB.out, beq_eq_false_iff_ne.2 HNE.out]; rfl, Kept.refl _ _⟩
end Go.Proofs.Ytoiinmiedmjghaa
