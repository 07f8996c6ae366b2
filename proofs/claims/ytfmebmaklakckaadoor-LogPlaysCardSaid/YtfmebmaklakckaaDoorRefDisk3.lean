/- longwireref14.Disk: Read; disk: Copy. -/
import Derived.Test.YtfmebmaklakckaaDoorRefDisk2
namespace Go.Proofs.YtfmebmaklakckaaDoor
open Go Go.RowKit Go.Lw
set_option maxRecDepth 100000
theorem own_cast2 {w : World} {v : Value} {n m : Nat} {xs : List Value} (hn : m = n) (h : w.ownsRow 0 5 1 v n xs) : w.ownsRow 0 5 1 v m xs := by subst hn; exact h
theorem rd_eq (D : Dsk) (R : Rsk) (h : D.b = R.b) (a n : Int) : D.rd a n = R.rd a n := by unfold Dsk.rd Rsk.rd; rw [h]
theorem drop_take_snoc {b : List UInt8} {k j : Nat} (h : k + j < b.length) : (b.drop k).take (j + 1) = (b.drop k).take j ++ [b[k + j]] := by
  rw [take_snoc (b.drop k) j (by rw [List.length_drop]; omega), List.getElem_drop]
theorem out_rel {w wr w1 : World} {A : Obj} {a ad : Option Addr} {n c cap : Nat} (hb : Kept (fun _ => False) w wr) (hf : ∀ b, blk (.slice a n c) b → w.heap.size ≤ b)
    (hg : (wr.alloc A).grownBy w1 (Value.slice a n c).ownBlock) (hfr : Fresh (wr.alloc A) (.slice a n c) (.slice ad (n + 1) cap)) :
    Kept (fun _ => False) w w1 ∧ ∀ b, blk (.slice ad (n + 1) cap) b → w.heap.size ≤ b := by
  have hz := hb.size
  refine ⟨(hb.alloc A).grown hg (fun k hk hl => by have := hf k hk; omega), fun b hb' => ?_⟩
  rcases hfr b hb' with h | h
  · exact hf b h
  · simp at h; omega
set_option maxHeartbeats 4000000 in
theorem rread_any (w : World) (g : Nat) (v : Value) (R : Rsk) (h : RefAt w g v R) (hR : R.b.length ≤ 1048576) (a n : Int) (ha : -9223372036854775808 ≤ a ∧ a ≤ 9223372036854775807) (hn : -9223372036854775808 ≤ n ∧ n ≤ 9223372036854775807) :
    Calls Tryd.prog 23 #[.pointer (some ⟨g, 0, none⟩), .int .i64 a, .int .i64 n] w fun e w' => ∃ r, e = .returned r ∧ w'.ownsRow 0 5 1 r (R.rd a n).length ((R.rd a n).map bv) ∧ Kept (fun _ => False) w w' ∧ ∀ k, blk r k → w.heap.size ≤ k := by
  obtain ⟨ad, cap, rfl, hc1, hc2, hc3⟩ := own_slice h.own
  have c1 := heap_cell h.box 1
  have H := Lw.hid h
  clear h
  obtain ⟨L, hL⟩ : ∃ L, R.b.length = L := ⟨_, rfl⟩
  have HL := Lw.hid hL
  rw [hL] at c1 hR hc1 hc3 H
  unfold maxLen at hc2
  clear hL
  have HO : Hid (w.ownsRow 0 5 1 (.slice ad L cap) L (R.b.map bv)) := Lw.hid (own_cast HL.out H.out.own)
  have hno : ∀ (hq : R.rd a n = []), ∃ r, Ending.returned (.slice none 0 0) = .returned r ∧ w.ownsRow 0 5 1 r (R.rd a n).length ((R.rd a n).map bv) ∧ Kept (fun _ => False) w w ∧ ∀ k, blk r k → w.heap.size ≤ k := fun hq => by
    rw [hq]; exact ⟨_, rfl, World.ownsRow_nil _ 0 _ 1, Kept.refl _ _, fun k hk => (blk_none hk).elim⟩
  have HNO := Lw.hid hno
  clear hno
  by_cases h1 : a < 0
  · have HR : Hid (R.rd a n = []) := Lw.hid (by unfold Rsk.rd; rw [if_pos (.inl h1)])
    go_enter Tryd.func23, Tryd.ntmps23
    go_wp2_with fail
    refine wp_loop_rounds 1 ?_
    rw [rounds_succ]
    go_wp2_with fail
    go_ret
    exact HNO.out HR.out
  by_cases h2 : n ≤ 0
  · have HR : Hid (R.rd a n = []) := Lw.hid (by
      unfold Rsk.rd
      split
      · rfl
      · rw [show n.toNat = 0 by omega]; simp)
    go_enter Tryd.func23, Tryd.ntmps23
    go_wp2_with fail
    refine wp_loop_rounds 1 ?_
    rw [rounds_succ]
    go_wp2_with fail
    go_ret
    exact HNO.out HR.out
  obtain ⟨m, rfl⟩ : ∃ m : Nat, n = (m : Int) := ⟨n.toNat, by omega⟩
  by_cases h3 : (L : Int) ≤ a
  · have HR : Hid (R.rd a m = []) := Lw.hid (by
      unfold Rsk.rd
      split
      · rfl
      · rw [List.drop_eq_nil_of_le (by rw [HL.out]; omega)]; simp)
    go_enter Tryd.func23, Tryd.ntmps23
    go_wp2_with fail
    refine wp_loop_rounds 1 ?_
    rw [rounds_succ]
    go_wp2_with fail
    go_ret
    exact HNO.out HR.out
  obtain ⟨k, rfl⟩ : ∃ k : Nat, a = (k : Int) := ⟨a.toNat, by omega⟩
  have hkL : k < L := by omega
  have hm : 0 < m := by omega
  clear h1 h2 h3 HNO
  obtain ⟨M, hM⟩ : ∃ M, M = m ∧ k + m ≤ L ∨ k + M = L ∧ L < k + m := by
    by_cases h : k + m ≤ L
    · exact ⟨m, .inl ⟨rfl, h⟩⟩
    · exact ⟨L - k, .inr ⟨by omega, by omega⟩⟩
  have HR : Hid (R.rd (k : Int) (m : Int) = (R.b.drop k).take M) := Lw.hid (by
    unfold Rsk.rd
    rw [if_neg (by rw [HL.out]; omega)]
    simp only [Int.toNat_natCast]
    by_cases h : k + m ≤ L
    · rw [show M = m by omega]
    · rw [List.take_of_length_le (by rw [List.length_drop, HL.out]; omega), List.take_of_length_le (by rw [List.length_drop, HL.out]; omega)])
  obtain ⟨g1, rfl⟩ := hc3 (by omega)
  go_enter Tryd.func23, Tryd.ntmps23
  go_wp2_with fail
  go_loopw [7, 8] (fun v i wr => ∃ (j : Nat) (a1 : Option Addr) (c1 : Nat), j ≤ M ∧ i = .int .i64 (j : Int) ∧ v = .slice a1 j c1 ∧ wr.ownsRow 0 5 1 v j (((R.b.drop k).take j).map bv) ∧ Kept (fun _ => False) w wr ∧ ∀ q, blk v q → w.heap.size ≤ q) (fun _ i _ => M - (intOf i).toNat)
  case atStart => exact ⟨0, none, 0, Nat.zero_le _, rfl, rfl, World.ownsRow_nil _ _ _ _, Kept.refl _ _, fun _ h => (blk_none h).elim⟩
  case round =>
    obtain ⟨j, a1, c1', hj, rfl, rfl, ho, hk, hf⟩ := hrel
    have hx1 := hk.cell c1 (fun h => h)
    have HO1 := Lw.hid ho; have HK1 := Lw.hid hk; have HF1 := Lw.hid hf
    clear ho hk hf
    by_cases hlt : j < M
    · have hcl : w.cell? ⟨g1, k + j, none⟩ = some (bv (R.b[k + j]'(by rw [HL.out]; omega))) := by
        refine own_cell HO.out (k + j) _ ?_ (by omega)
        rw [List.getElem?_map, List.getElem?_eq_getElem (by rw [HL.out]; omega)]; rfl
      have hcl2 := HK1.out.cell hcl (fun h => h)
      have HSN := Lw.hid (drop_take_snoc (b := R.b) (k := k) (j := j) (by rw [HL.out]; omega))
      generalize R.b[k + j]'_ = y at *
      clear hcl
      go_wp2_with (at_builtin; refine wpList_app rfl _ _ _ rfl EB _ j _ rfl (HO1.out.alloc _) _ 1 _ rfl (Rd.lit _ [.int .u8 (y.toNat : Int)] _ 1 _ 1 (by simp) rfl (by decide)) (by simp [Value.oneCell']) (by unfold maxLen; omega) (by omega) ?_; intro a3 c3 w6 ho hg hf; obtain ⟨hb1, hf1⟩ := out_rel HK1.out HF1.out hg hf; have HO2 := Lw.hid ho; have HB2 := Lw.hid hb1; have HF2 := Lw.hid hf1; clear ho hg hf hb1 hf1)
      go_roundw
      case rel => exact ⟨j + 1, a3, c3, by omega, by go_num, rfl, by rw [HSN.out, List.map_append]; exact HO2.out, HB2.out, HF2.out⟩
      case measure => simp [intOf]; omega
    · obtain rfl : j = M := by omega
      by_cases hjm : j < m
      · have hkj : k + j = L := by omega
        have HKJ := Lw.hid hkj
        have hge : L ≤ k + j := by omega
        clear hkj
        go_wp2_with fail
        go_ret
        rw [HR.out]
        exact ⟨_, rfl, own_cast2 (by rw [List.length_take, List.length_drop, HL.out]; omega) HO1.out, HK1.out, HF1.out⟩
      · go_wp2_with fail
        go_ret
        rw [HR.out]
        exact ⟨_, rfl, own_cast2 (by rw [List.length_take, List.length_drop, HL.out]; omega) HO1.out, HK1.out, HF1.out⟩
end Go.Proofs.YtfmebmaklakckaaDoor
