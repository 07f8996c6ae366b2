/- The document's Number. -/
import Derived.Test.YtfmebmaklakckaaDoorChecked
import Derived.Test.YtfmebmaklakckaaDoorLib
namespace Go.Proofs.YtfmebmaklakckaaDoor
open Go Go.RowKit Go.Lw
set_option maxRecDepth 100000
theorem infoB : ∃ i, Tryd.prog.info? 5 = some i ∧ i.zero = some (.int .u8 0) ∧ i.size = 1 ∧ i.bytes = 1 := by
  obtain ⟨i, h1, h2, h3, h4⟩ := info_parts (P := Tryd.prog) (e := 5) (z := .int .u8 0) (size := 1) (bytes := 1) (by kernel_rfl)
  exact ⟨i, h1, h2, h3, h4⟩
theorem made_bytes (n : Nat) : (madeCells (Value.cells (.int .u8 0)) (n * 1)).toList = (List.replicate n 0).map bv := by
  rw [Nat.mul_one, show Value.cells (.int .u8 0) = #[.int .u8 0] from rfl, toList_madeCells_one]
  simp [bv]
def numRow (many j n : Nat) : List UInt8 := List.replicate (many - j) 0 ++ be j n
theorem numRow_step (many j n : Nat) (hj : j < many) : (numRow many j n).set (many - 1 - j) (lo (n / 256 ^ j)) = numRow many (j + 1) n := by
  unfold numRow
  rw [Nat.add_comm j 1, be_add 1 j]
  have e : many - j = (many - (1 + j)) + 1 := by omega
  rw [e, List.replicate_succ']
  rw [List.append_assoc, List.set_append]
  simp only [List.length_replicate]
  rw [if_neg (by omega), show many - 1 - j - (many - (1 + j)) = 0 by omega]
  simp [be]
theorem numRow_len (many j n : Nat) (hj : j ≤ many) : (numRow many j n).length = many := by
  unfold numRow; simp [be_length]; omega
set_option maxHeartbeats 1000000 in
theorem number_any (w : World) (n many : Nat) (hn : n < 18446744073709551616) (hm : many ≤ 1000) :
    Calls Tryd.prog 66 #[.int .u64 (n : Int), .int .i64 (many : Int)] w fun e w' => ∃ v, e = .returned v ∧ w'.ownsRow 0 5 1 v many ((be many n).map bv) ∧ Kept (fun _ => False) w w' ∧ ∀ k, blk v k → w.heap.size ≤ k := by
  obtain ⟨i, hi, hz0, hz1, hz2⟩ := infoB
  go_enter Tryd.func66, Tryd.ntmps66
  go_wp2_with (refine wpList_mk rfl _ _ _ rfl Tryd.underlying38 hi hz0 hz1 hz2 _ _ _ _ many rfl rfl rfl rfl (by omega) (by unfold maxLen; omega) ?_; intro g w1 hg ho hk hs)
  rw [made_bytes] at ho
  go_loopw [0, 6] (fun x i wr => ∃ j : Nat, j ≤ many ∧ i = .int .i64 ((many : Int) - 1 - j) ∧ x = .int .u64 ((n / 256 ^ j : Nat) : Int) ∧ wr.ownsRow 0 5 1 (.slice (some ⟨g, 0, none⟩) many many) many ((numRow many j n).map bv) ∧ Kept (fun _ => False) w wr) (fun _ i _ => (intOf i + 1).toNat)
  case atStart => exact ⟨0, Nat.zero_le _, by go_num, by simp, by simpa [numRow, be] using ho, hk⟩
  case round =>
    obtain ⟨j, hj, rfl, rfl, ho, hk⟩ := hrel
    have HO := Lw.hid ho; have HK := Lw.hid hk
    clear ho hk
    by_cases hlt : j < many
    · have hl : (numRow many j n).length = many := numRow_len _ _ _ hj
      obtain ⟨old, hc⟩ : ∃ old, wr.cell? ⟨g, many - 1 - j, none⟩ = some (.int .u8 old) := by
        have hget : ((numRow many j n).map bv)[many - 1 - j]? = some (bv ((numRow many j n)[many - 1 - j]'(by omega))) := by
          rw [List.getElem?_map, List.getElem?_eq_getElem (by omega)]; rfl
        exact ⟨_, own_cell HO.out (many - 1 - j) _ hget (by omega)⟩
      have hfz := HO.out.frozenAt (many - 1 - j)
      have HS : Hid ((wr.setCell ⟨g, many - 1 - j, none⟩ (bv (lo (n / 256 ^ j)))).ownsRow 0 5 1 (.slice (some ⟨g, 0, none⟩) many many) many ((numRow many (j + 1) n).map bv)) := by
        have := (HO.out.stored (many - 1 - j) (bv (lo (n / 256 ^ j)))).1
        rw [← List.map_set, numRow_step _ _ _ hlt] at this
        exact this
      rw [bv_lo] at HS
      have hy : n / 256 ^ j < 18446744073709551616 := Nat.lt_of_le_of_lt (Nat.div_le_self _ _) hn
      have HD : Hid (n / 256 ^ (j + 1) = n / 256 ^ j / 256) := Lw.hid (by rw [Nat.div_div_eq_div_mul, Nat.pow_succ])
      have hkk : Kept (fun _ => False) w (wr.setCell ⟨g, many - 1 - j, none⟩ (.int .u8 ((n / 256 ^ j % 256 : Nat) : Int))) := HK.out.setCell (fun h => by have := hg.out; simp at h; omega) _
      have HK' := Lw.hid hkk
      clear hkk HK hl
      have hq : many - 1 - j < many := by omega
      have hqi : ((many - 1 - j : Nat) : Int) = (many : Int) - 1 - j := by omega
      generalize hyy : n / 256 ^ j = y at *
      clear hyy
      rw [show ((y % 256 : Nat) : Int) = (y : Int) % 256 by omega] at HS HK'
      go_wp2_with fail
      go_roundw
      case rel => exact ⟨j + 1, by omega, by congr 1; omega, by rw [HD.out]; rfl, HS.out, HK'.out⟩
      case measure => simp [intOf]; omega
    · obtain rfl : j = many := by omega
      have e0 : numRow j j n = be j n := by simp [numRow]
      rw [e0] at HO
      go_wp2_with fail
      go_ret
      exact ⟨_, rfl, HO.out, HK.out, fun k hk => by have e : k = g := blk_some hk; have := hg.out; omega⟩
end Go.Proofs.YtfmebmaklakckaaDoor
