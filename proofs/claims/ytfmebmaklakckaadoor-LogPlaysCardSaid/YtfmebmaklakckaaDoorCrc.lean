/- The walks of the two checks (CRC-32), the program's and the document's: each hands back the plain function of the bytes. -/
import Derived.Test.YtfmebmaklakckaaDoorChecked
import Derived.Test.YtfmebmaklakckaaDoorLib
import Derived.Test.YtfmebmaklakckaaDoorPlainCrc
import Derived.Laws.BitsAllLaws
namespace Go.Proofs.YtfmebmaklakckaaDoor
open Go Go.RowKit Go.Lw
def Tab (w : World) : Prop := ∀ i, i < 16 → w.cell? ⟨0, i, none⟩ = some (.int .u32 ((tab.getD i 0 : Nat) : Int))
theorem Tab.below {a b : World} (h : Tab a) (k : Below a.heap.size a b) : Tab b := fun i hi =>
  (k.cell (p := ⟨_, i, none⟩) (World.block_lt_of_cell? a _ (h i hi))).trans (h i hi)

theorem half_any (n : Nat) (w : World) (h1 : n < 4294967296) (ht : Tab w) :
    Calls Tryd.prog 40 #[.int .u32 (n : Int)] w fun e w' => e = .returned (.int .u32 ((halfN n : Nat) : Int)) ∧ w = w' := by
  have ec := ht (n % 16) (by omega)
  have hb := tab_lt (n % 16)
  have e2 : bits .and .u32 (n : Int) 15 = ((n % 16 : Nat) : Int) := by
    have := u32_and_nat n 15 h1 (by decide)
    rw [nat_mask4] at this; simpa using this
  have e3 : bits .xor .u32 ((n : Int) / 16) ((tab.getD (n % 16) 0 : Nat) : Int) = ((halfN n : Nat) : Int) := u32_xor_nat (n / 16) _ (by omega) hb
  have hm : n % 16 < 16 := by omega
  generalize hg : tab.getD (n % 16) 0 = g at *
  generalize hh : halfN n = h at *
  clear hg hh ht hb
  generalize hq : n % 16 = q at *
  clear hq
  go_enter Tryd.func40, Tryd.ntmps40
  go_wp2
  go_ret
  exact ⟨rfl, rfl⟩

theorem xor_byte (n : Nat) (c : UInt8) (h : n < 4294967296) : bits .xor .u32 (n : Int) (c.toNat : Int) = ((n ^^^ c.toNat : Nat) : Int) :=
  u32_xor_nat n c.toNat h (by have := c.toNat_lt; omega)
theorem xor_max (n : Nat) (h : n < 2 ^ 32) : n ^^^ 4294967295 = 4294967295 - n := by
  have := BitVec.xor_allOnes (x := BitVec.ofNat 32 n)
  have := congrArg BitVec.toNat this
  simpa [Nat.mod_eq_of_lt h, Nat.xor_comm] using this
theorem not_u32 (n : Nat) (h : n < 4294967296) : bits .xor .u32 IntKind.u32.max (n : Int) = ((4294967295 - n : Nat) : Int) := by
  rw [show IntKind.u32.max = ((4294967295 : Nat) : Int) from by decide, u32_xor_nat _ _ (by decide) h, Nat.xor_comm, xor_max n h]
set_option maxHeartbeats 400000 in
theorem crc_any (v : Value) (l : List UInt8) (w : World) (hv : RdB w v l) (ht : Tab w) :
    Calls Tryd.prog 14 #[v] w fun e w' => e = .returned (.int .u32 ((crcN l : Nat) : Int)) ∧ w = w' := by
  obtain ⟨a, cap, rfl, h1, h2, hc⟩ := hv.open
  have HT := Lw.hid ht; clear ht
  have HC := Lw.hid hc; clear hc hv
  unfold maxLen at h2
  have hlen : l.length ≤ 9223372036854775807 := by omega
  clear h1 h2
  go_enter Tryd.func14, Tryd.ntmps14
  go_wp2
  go_loop [3, 8] (fun n i => ∃ k : Nat, k ≤ l.length ∧ i = .int .i64 k ∧ n = .int .u32 ((crcReg (l.take k) : Nat) : Int)) (fun _ i => l.length - (intOf i).toNat)
  case atStart => exact ⟨0, Nat.zero_le _, rfl, rfl⟩
  case round =>
    obtain ⟨k, hk, rfl, rfl⟩ := hrel
    have hr := crcReg_lt (l.take k)
    by_cases hlt : k < l.length
    · have HS : Hid (crcReg (l.take (k + 1)) = crcStep (crcReg (l.take k)) l[k]) := by rw [take_snoc _ _ hlt]; exact crcReg_snoc _ _
      obtain ⟨g, off, rfl, hcell⟩ := HC.out k hlt
      have hx : (crcReg (l.take k) ^^^ l[k].toNat) < 4294967296 := Nat.xor_lt_two_pow (n := 32) hr (by have := l[k].toNat_lt; omega)
      have hcb := l[k].toNat_lt
      have ex := xor_byte _ l[k] hr
      unfold crcStep at HS
      generalize crcReg (l.take k) = r at *
      generalize l[k].toNat = c at *
      generalize r ^^^ c = q at *
      have hh := halfN_lt q hx
      go_wp2_with fail
      refine (half_any q _ hx HT.out).mono ?_
      rintro e w' ⟨rfl, rfl⟩
      go_wp2_with fail
      refine (half_any (halfN q) _ hh HT.out).mono ?_
      rintro e w' ⟨rfl, rfl⟩
      go_wp2_with fail
      go_round
      case rel => exact ⟨k + 1, by omega, by go_num, by rw [HS.out]⟩
      case measure => simp [intOf]; omega
    · have hq : l.take k = l := List.take_of_length_le (by omega)
      clear hr
      have hr := crcReg_lt l
      have en := not_u32 _ hr
      rw [hq]
      clear hq
      go_wp2_with fail
      go_ret
      exact ⟨ret_int rfl, rfl⟩

theorem bitN_lt (n : Nat) (h : n < 4294967296) : bitN n < 4294967296 := by
  unfold bitN; split
  · exact Nat.xor_lt_two_pow (n := 32) (by omega) (by decide)
  · omega
def bitIter : Nat → Nat → Nat
  | 0, n => n
  | k + 1, n => bitN (bitIter k n)
theorem bitIter_lt (k n : Nat) (h : n < 4294967296) : bitIter k n < 4294967296 := by
  induction k with
  | zero => exact h
  | succ k ih => exact bitN_lt _ ih
set_option maxHeartbeats 400000 in
theorem refCrc_any (v : Value) (l : List UInt8) (w : World) (hv : RdB w v l) :
    Calls Tryd.prog 67 #[v] w fun e w' => e = .returned (.int .u32 ((crcN l : Nat) : Int)) ∧ w = w' := by
  obtain ⟨a, cap, rfl, h1, h2, hc⟩ := hv.open
  have HC := Lw.hid hc; clear hc hv
  unfold maxLen at h2
  have hlen : l.length ≤ 9223372036854775807 := by omega
  clear h1 h2
  go_enter Tryd.func67, Tryd.ntmps67
  go_wp2
  go_loop [3, 4] (fun n i => ∃ k : Nat, k ≤ l.length ∧ i = .int .i64 k ∧ n = .int .u32 ((crcReg (l.take k) : Nat) : Int)) (fun _ i => l.length - (intOf i).toNat)
  case atStart => exact ⟨0, Nat.zero_le _, rfl, rfl⟩
  case round =>
    obtain ⟨k, hk, rfl, rfl⟩ := hrel
    have hr := crcReg_lt (l.take k)
    by_cases hlt : k < l.length
    · have HS : Hid (crcReg (l.take (k + 1)) = bitIter 8 (crcReg (l.take k) ^^^ l[k].toNat)) := by rw [take_snoc _ _ hlt, crcReg_snoc, step_eq]; rfl
      obtain ⟨g, off, rfl, hcell⟩ := HC.out k hlt
      have hx : (crcReg (l.take k) ^^^ l[k].toNat) < 4294967296 := Nat.xor_lt_two_pow (n := 32) hr (by have := l[k].toNat_lt; omega)
      have hcb := l[k].toNat_lt
      have ex := xor_byte _ l[k] hr
      generalize crcReg (l.take k) = r at *
      generalize l[k].toNat = c at *
      generalize r ^^^ c = q at *
      go_wp2
      go_loop [3, 5] (fun n i => ∃ j : Nat, j ≤ 8 ∧ i = .int .i64 j ∧ n = .int .u32 ((bitIter j q : Nat) : Int)) (fun _ i => 8 - (intOf i).toNat)
      case atStart => exact ⟨0, Nat.zero_le _, rfl, rfl⟩
      case round =>
        obtain ⟨j, hj, rfl, rfl⟩ := hrel
        have hy := bitIter_lt j q hx
        by_cases hjl : j < 8
        · have HB : Hid (bitIter (j + 1) q = bitN (bitIter j q)) := Lw.hid rfl
          have hd : bitIter j q / 2 < 4294967296 := by omega
          have ep : bits .xor .u32 ((bitIter j q : Int) / 2) 3988292384 = ((bitIter j q / 2 ^^^ 3988292384 : Nat) : Int) := u32_xor_nat (bitIter j q / 2) 3988292384 hd (by decide)
          generalize bitIter j q = y at *
          by_cases hone : y % 2 = 1
          · have e1 : (((y : Int) % 2) == 1) = true := by rw [beq_iff_eq]; omega
            have eb : bitN y = y / 2 ^^^ 3988292384 := if_pos hone
            have HB' := Lw.hid eb; clear eb hone
            go_wp2
            go_round
            case rel => exact ⟨j + 1, by omega, by go_num, by rw [HB.out, HB'.out]⟩
            case measure => simp [intOf]; omega
          · have e1 : (((y : Int) % 2) == 1) = false := by rw [beq_eq_false_iff_ne]; omega
            have eb : bitN y = y / 2 := if_neg hone
            have HB' := Lw.hid eb; clear eb hone
            go_wp2
            go_round
            case rel => exact ⟨j + 1, by omega, by go_num, by rw [HB.out, HB'.out]; go_num⟩
            case measure => simp [intOf]; omega
        · obtain rfl : j = 8 := by omega
          go_wp2
          go_round
          case rel => exact ⟨k + 1, by omega, by go_num, by rw [HS.out]⟩
          case measure => simp [intOf]; omega
    · have hq : l.take k = l := List.take_of_length_le (by omega)
      clear hr
      have hr := crcReg_lt l
      rw [hq]
      clear hq
      go_wp2_with fail
      go_ret
      exact ⟨ret_int (by unfold crcN; omega), rfl⟩
end Go.Proofs.YtfmebmaklakckaaDoor
