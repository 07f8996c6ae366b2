/- slices.Grow of nothing; slices.Concat of three rows of tokens. -/
import Derived.Test.YtifcgeanippepaaDoorAgainW
import Derived.Lib.AppendZerosOnto
import Derived.Lib.AppendZeros
namespace Go.Proofs.YtifcgeanippepaaDoor
open Go Go.RowKit Go.Lw
set_option maxRecDepth 100000
set_option linter.unusedVariables false
set_option linter.unusedSimpArgs false
theorem tk_info : ∃ i0, Tryd.prog.info? 28 = some i0 ∧ i0.zero = some (.agg #[.int .i64 0, .string ⟨#[]⟩, .int .i64 0]) ∧ i0.size = 3 ∧ i0.bytes = 32 := ⟨_, rfl, rfl, rfl, rfl⟩
theorem zeros_size (z : Array Value) (n : Nat) : (Builtin.zeroCells z n).size = n * z.size := by unfold Builtin.zeroCells; simp
set_option maxHeartbeats 4000000 in
theorem grow_tk (w : World) (n : Nat) (h1 : 1 ≤ n) (h9 : n ≤ 5000) :
    Calls Tryd.prog 50 #[.slice none 0 0, .int .i64 (n : Int)] w fun x w' => ∃ v, x = .returned v ∧ w'.ownsRow 0 28 3 v 0 [] ∧ (∀ k, blk v k → w.heap.size ≤ k) ∧ Kept (fun _ => False) w w' := by
  obtain ⟨i0, hi0, hz0, hs0, hb0⟩ := tk_info
  have hrz : ∀ ty, (Builtin.append_ #[22, 3] ty #[.slice none 0 0, .int .i64 (n : Int)]).run Tryd.prog w =
      .ok (.slice (some ⟨w.heap.size, 0, none⟩) n (grownCap w n 0 28)) (w.drew.alloc (.cells (#[] ++ Builtin.zeroCells (Value.agg #[.int .i64 0, .string ⟨#[]⟩, .int .i64 0]).cells n ++ Builtin.zeroCells (Value.agg #[.int .i64 0, .string ⟨#[]⟩, .int .i64 0]).cells (grownCap w n 0 28 - n)) 28)) := fun ty => by
    have h := Lib.run_append_grow_zeros w 22 3 ty 28 i0 _ .i64 .i64 Tryd.underlying22 Tryd.underlying3 hi0 hz0 none 0 0 [] (run_firstCells_none _ _ _ _ _) n (by omega) (by omega) (by omega) (by omega) (by rw [hb0]; omega)
      (by rw [Nat.zero_add, hb0]; exact growslice_fits (by omega) (by omega))
    rw [Nat.zero_add] at h
    exact h
  have hGn := grownCap_ge w n 0 28
  have hGm := grownCap_le_maxLen w n 0 28 (by unfold maxLen; omega)
  obtain ⟨G, hG⟩ : ∃ G, grownCap w n 0 28 = G := ⟨_, rfl⟩
  rw [hG] at hrz hGn hGm
  have hown := World.ownsRow_made (base := 0) (e := 28) (size := 3) w.drew (#[] ++ Builtin.zeroCells (Value.agg #[.int .i64 0, .string ⟨#[]⟩, .int .i64 0]).cells n ++ Builtin.zeroCells (Value.agg #[.int .i64 0, .string ⟨#[]⟩, .int .i64 0]).cells (G - n)) G (Nat.zero_le _) hGm (by
    have h3 : (Value.agg #[.int .i64 0, .string ⟨#[]⟩, .int .i64 0]).cells.size = 3 := rfl
    rw [Array.size_append, Array.size_append, zeros_size, zeros_size, h3]
    show 0 + n * 3 + (G - n) * 3 = G * 3
    omega)
  obtain ⟨Z, hZ⟩ : ∃ Z, #[] ++ Builtin.zeroCells (Value.agg #[.int .i64 0, .string ⟨#[]⟩, .int .i64 0]).cells n ++ Builtin.zeroCells (Value.agg #[.int .i64 0, .string ⟨#[]⟩, .int .i64 0]).cells (G - n) = Z := ⟨_, rfl⟩
  rw [hZ] at hrz hown
  have K1 : Hid (Kept (fun _ => False) w (w.drew.alloc (.cells Z 28))) := Lw.hid ((kept_drewN' w 1).alloc _)
  have HO := Lw.hid hown
  unfold maxLen at hGm
  clear hZ hG hown hi0 hz0
  go_enter Tryd.func50, Tryd.ntmps50
  go_wp2_with (at_builtin; refine Lib.wpList_append_run _ rfl _ _ _ _ rfl _ _ rfl rfl _ _ (hrz _) ?_)
  go_ret
  exact ⟨_, rfl, HO.out, fun k hk => by have e : k = w.heap.size := blk_some hk; omega, K1.out⟩
set_option maxHeartbeats 16000000 in
theorem concat_any (w : World) (b : Nat) (v1 v2 v3 : Value) (l1 l2 l3 : List Tk) (e0 : w.cell? ⟨b, 0, none⟩ = some v1) (e1 : w.cell? ⟨b, 1, none⟩ = some v2) (e2 : w.cell? ⟨b, 2, none⟩ = some v3)
    (h1 : Rd w 3 v1 l1.length (l1.flatMap Tk.cells)) (h2 : Rd w 3 v2 l2.length (l2.flatMap Tk.cells)) (h3 : Rd w 3 v3 l3.length (l3.flatMap Tk.cells)) (hn1 : l1.length ≤ 1000) (hn2 : l2.length ≤ 1000) (hn3 : l3.length ≤ 1000) (h0 : 1 ≤ l2.length) :
    Calls Tryd.prog 18 #[.slice (some ⟨b, 0, none⟩) 3 3] w fun x w' => ∃ v, x = .returned v ∧ w'.ownsRow 0 28 3 v (l1 ++ l2 ++ l3).length ((l1 ++ l2 ++ l3).flatMap Tk.cells) ∧ Kept (fun _ => False) w w' := by
  have HR1 := Lw.hid h1; have HR2 := Lw.hid h2; have HR3 := Lw.hid h3
  have HT1 := Lw.hid (tks_one l1); have HT2 := Lw.hid (tks_one l2); have HT3 := Lw.hid (tks_one l3)
  obtain ⟨_, ad1, cap1, rfl, _, _, _⟩ := h1
  obtain ⟨_, ad2, cap2, rfl, _, _, _⟩ := h2
  obtain ⟨_, ad3, cap3, rfl, _, _, _⟩ := h3
  obtain ⟨F1, hF1⟩ : ∃ F, l1.flatMap Tk.cells = F := ⟨_, rfl⟩
  obtain ⟨F2, hF2⟩ : ∃ F, l2.flatMap Tk.cells = F := ⟨_, rfl⟩
  obtain ⟨F3, hF3⟩ : ∃ F, l3.flatMap Tk.cells = F := ⟨_, rfl⟩
  have HFF : Hid ((l1 ++ l2 ++ l3).flatMap Tk.cells = [] ++ F1 ++ F2 ++ F3) := Lw.hid (by rw [List.flatMap_append, List.flatMap_append, hF1, hF2, hF3]; rfl)
  have HLL : Hid ((l1 ++ l2 ++ l3).length = l1.length + l2.length + l3.length) := Lw.hid (by rw [List.length_append, List.length_append])
  rw [hF1] at HR1 HT1
  rw [hF2] at HR2 HT2
  rw [hF3] at HR3 HT3
  obtain ⟨n1, hm1⟩ : ∃ n, l1.length = n := ⟨_, rfl⟩
  obtain ⟨n2, hm2⟩ : ∃ n, l2.length = n := ⟨_, rfl⟩
  obtain ⟨n3, hm3⟩ : ∃ n, l3.length = n := ⟨_, rfl⟩
  rw [hm1] at HR1 hn1 e0 HLL; rw [hm2] at HR2 hn2 h0 e1 HLL; rw [hm3] at HR3 hn3 e2 HLL
  rw [HFF.out, HLL.out]
  clear hF1 hF2 hF3 hm1 hm2 hm3 HFF HLL
  go_enter Tryd.func18, Tryd.ntmps18
  go_wp2_with fail
  refine wp_loop_rounds 4 ?_
  rw [rounds_succ]
  go_wp2_with fail
  rw [rounds_succ]
  go_wp2_with fail
  rw [rounds_succ]
  go_wp2_with fail
  rw [rounds_succ]
  go_wp2_with fail
  rw [show ((n1 : Int) + (n2 : Int) + (n3 : Int)) = ((n1 + n2 + n3 : Nat) : Int) by omega]
  refine (grow_tk _ (n1 + n2 + n3) (by omega) (by omega)).mono ?_
  rintro x w1 ⟨v0, rfl, ho, hb, k1⟩
  obtain ⟨ada, capa, rfl, _, _, _⟩ := own_slice ho
  have K1 := Lw.hid k1; have HO1 := Lw.hid ho; have HB1 := Lw.hid hb
  have E1 := Lw.hid e1; have E2 := Lw.hid e2
  have x0 := K1.out.cell e0 (fun h => h)
  have HR1' := Lw.hid (Rd.kept K1.out HR1.out (fun _ _ h => h))
  clear k1 ho hb e0 e1 e2 HR1
  go_wp2_with fail
  refine wp_loop_rounds 4 ?_
  rw [rounds_succ]
  go_wp2_with (at_builtin; refine wpList_app rfl _ _ _ rfl ETk _ 0 _ rfl HO1.out _ n1 _ rfl HR1'.out HT1.out (by unfold maxLen; omega) (by omega) ?_; intro ad5 cap5 w2 ho2 hg2 hf2)
  have K2 : Hid (Kept (fun _ => False) w w2) := Lw.hid (K1.out.grown hg2 (fun i hi hl => by have := HB1.out i hi; omega))
  rw [Nat.zero_add] at ho2 hf2
  have HO2 := Lw.hid ho2
  have HB2 : Hid (∀ i, blk (.slice ad5 (n1) cap5) i → w.heap.size ≤ i) := Lw.hid (fun i hi => by
    rcases hf2 i hi with h | h
    · exact HB1.out i h
    · have := K1.out.size; omega)
  have x1 := K2.out.cell E1.out (fun h => h)
  have HR2' := Lw.hid (Rd.kept K2.out HR2.out (fun _ _ h => h))
  clear ho2 hg2 hf2 x0 HR1' HO1 HB1
  go_wp2_with fail
  rw [rounds_succ]
  go_wp2_with (at_builtin; refine wpList_app rfl _ _ _ rfl ETk _ (n1) _ rfl HO2.out _ n2 _ rfl HR2'.out HT2.out (by unfold maxLen; omega) (by omega) ?_; intro ad6 cap6 w3 ho3 hg3 hf3)
  have K3 : Hid (Kept (fun _ => False) w w3) := Lw.hid (K2.out.grown hg3 (fun i hi hl => by have := HB2.out i hi; omega))
  have HO3 := Lw.hid ho3
  have HB3 : Hid (∀ i, blk (.slice ad6 (n1 + n2) cap6) i → w.heap.size ≤ i) := Lw.hid (fun i hi => by
    rcases hf3 i hi with h | h
    · exact HB2.out i h
    · have := K2.out.size; omega)
  have x2 := K3.out.cell E2.out (fun h => h)
  have HR3' := Lw.hid (Rd.kept K3.out HR3.out (fun _ _ h => h))
  clear ho3 hg3 hf3 x1 HR2' HO2 HB2
  go_wp2_with fail
  rw [rounds_succ]
  go_wp2_with (at_builtin; refine wpList_app rfl _ _ _ rfl ETk _ (n1 + n2) _ rfl HO3.out _ n3 _ rfl HR3'.out HT3.out (by unfold maxLen; omega) (by omega) ?_; intro ad7 cap7 w4 ho4 hg4 hf4)
  have K4 : Hid (Kept (fun _ => False) w w4) := Lw.hid (K3.out.grown hg4 (fun i hi hl => by have := HB3.out i hi; omega))
  have HO4 := Lw.hid ho4
  clear ho4 hg4 hf4 x2 HR3' HO3 HB3
  go_wp2_with fail
  rw [rounds_succ]
  go_wp2_with fail
  go_ret
  exact ⟨_, rfl, HO4.out, K4.out⟩
end Go.Proofs.YtifcgeanippepaaDoor
