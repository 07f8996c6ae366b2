/- strings' Replacer: build, at the four pairs. -/
import Derived.Test.YtoedopgjonhemaaGreatDoorRepl
import Derived.OwnWalk
namespace Go.Proofs.YtoedopgjonhemaaGreatDoor
open Go Go.RowKit Go.Lw
set_option maxRecDepth 100000
set_option linter.unusedVariables false
set_option linter.unusedSimpArgs false
attribute [local go_sem] BA_toList
/-- The pairs, the last ahead. -/
def PairsAt (w : World) (ob : Nat) : Prop := ∀ j, j < 4 → w.cell? ⟨ob, 6 - 2 * j, none⟩ = some (.string (BA [torC j])) ∧ w.cell? ⟨ob, 7 - 2 * j, none⟩ = some (.string (BA (repB (torC j))))
/-- The block of the replacer. -/
def RepC (w : World) (pb : Nat) (f : Nat → Value) : Prop := ∃ A : Array Value, w.heap[pb]? = some (.cells A 116 (0, 0)) ∧ A.size = 257 ∧ ∀ i, i < 257 → A[i]? = some (f i)
theorem rep_zero : ∃ Z : Array Value, Z.size = 257 ∧ (∀ i, i < 257 → Z[i]? = some (.slice none 0 0)) ∧ ∀ w, (zeroValue 116).run Tryz.prog w = .ok (.agg Z) w := by
  refine ⟨Array.replicate 257 (.slice none 0 0), by simp, fun i hi => by simp [hi], fun w => ?_⟩
  kernel_rfl
/-- The block as it is laid. -/
def repZ (Z : Array Value) (tb : Nat) : Array Value := Z.setIfInBounds 256 (.slice (some ⟨tb, 0, none⟩) 0 4)
theorem repZ_size {Z : Array Value} {tb : Nat} (h : Z.size = 257) : (repZ Z tb).size = 257 := by simp [repZ, h]
theorem repZ_get {Z : Array Value} {tb : Nat} (h : Z.size = 257) (h2 : ∀ i, i < 257 → Z[i]? = some (.slice none 0 0)) (i : Nat) (hi : i < 257) : (repZ Z tb)[i]? = some (if i = 256 then .slice (some ⟨tb, 0, none⟩) 0 4 else .slice none 0 0) := by
  unfold repZ
  by_cases e : i = 256
  · subst e; rw [if_pos rfl, Array.getElem?_setIfInBounds_self_of_lt (by omega)]
  · rw [if_neg e, Array.getElem?_setIfInBounds_ne (Ne.symm e)]; exact h2 i hi
theorem repZ_cells {Z : Array Value} {tb : Nat} (h1 : Z.size = 257) (h2 : ∀ i, i < 257 → Z[i]? = some (.slice none 0 0)) : (repZ Z tb).all (·.oneCell') = true := by
  rw [Array.all_eq_true]
  intro i hi
  have h := repZ_get (tb := tb) h1 h2 i (by rw [repZ_size h1] at hi; exact hi)
  rw [Array.getElem?_eq_getElem hi, Option.some.injEq] at h
  rw [h]
  split <;> rfl
theorem RepC.cell {w : World} {pb : Nat} {f : Nat → Value} (h : RepC w pb f) (i : Nat) (hi : i < 257) : w.cell? ⟨pb, i, none⟩ = some (f i) := by
  obtain ⟨A, h1, h2, h3⟩ := h
  rw [heap_cell h1]; exact h3 i hi
theorem RepC.free {w : World} {pb : Nat} {f : Nat → Value} (h : RepC w pb f) (i : Nat) : w.frozen? ⟨pb, i, none⟩ = false := by
  obtain ⟨A, h1, _⟩ := h
  exact heap_free h1 i
theorem RepC.lt {w : World} {pb : Nat} {f : Nat → Value} (h : RepC w pb f) : pb < w.heap.size := by
  obtain ⟨A, h1, _⟩ := h
  exact heap_lt h1
theorem RepC.kept {S : Nat → Prop} {w w' : World} {pb : Nat} {f : Nat → Value} (h : RepC w pb f) (k : Kept S w w') (hg : ¬ S pb) : RepC w' pb f := by
  obtain ⟨A, h1, h2, h3⟩ := h
  exact ⟨A, k.heap h1 hg, h2, h3⟩
theorem RepC.stored {w : World} {pb : Nat} {f : Nat → Value} (h : RepC w pb f) (c : Nat) (v : Value) (hc : c < 257) : RepC (w.setCell ⟨pb, c, none⟩ v) pb (fun i => if i = c then v else f i) := by
  obtain ⟨A, h1, h2, h3⟩ := h
  refine ⟨_, heap_set h1 c v, by simpa using h2, fun i hi => ?_⟩
  by_cases e : c = i
  · subst e
    simp [h2, hc]
  · rw [Array.getElem?_setIfInBounds_ne e, h3 i hi]
    simp only [if_neg (Ne.symm e)]
theorem torC_ne {k j : Nat} (hk : k < j) (hj : j < 4) : (torC j).toNat ≠ (torC k).toNat := by
  have h : (j = 1 ∧ k = 0) ∨ (j = 2 ∧ k = 0) ∨ (j = 2 ∧ k = 1) ∨ (j = 3 ∧ k = 0) ∨ (j = 3 ∧ k = 1) ∨ (j = 3 ∧ k = 2) := by omega
  rcases h with ⟨rfl, rfl⟩ | ⟨rfl, rfl⟩ | ⟨rfl, rfl⟩ | ⟨rfl, rfl⟩ | ⟨rfl, rfl⟩ | ⟨rfl, rfl⟩ <;> decide
/-- The texts to be replaced, the last j. -/
def TbAt (w : World) (tb j : Nat) : Prop := ∃ A : Array Value, w.heap[tb]? = some (.cells A 9 (0, 0)) ∧ A.size = 4 ∧ ∀ k, k < j → A[k]? = some (.string (BA [torC k]))
theorem TbAt.lt {w : World} {tb j : Nat} (h : TbAt w tb j) : tb < w.heap.size := by
  obtain ⟨A, h1, _⟩ := h
  exact heap_lt h1
theorem TbAt.free {w : World} {tb j : Nat} (h : TbAt w tb j) (i : Nat) : w.frozen? ⟨tb, i, none⟩ = false := by
  obtain ⟨A, h1, _⟩ := h
  exact heap_free h1 i
theorem TbAt.spare {w : World} {tb j i : Nat} (h : TbAt w tb j) (hi : i < 4) : ∃ v, w.cell? ⟨tb, i, none⟩ = some v := by
  obtain ⟨A, h1, h2, _⟩ := h
  rw [heap_cell h1]
  exact ⟨_, Array.getElem?_eq_getElem (by omega)⟩
theorem TbAt.cell {w : World} {tb j i : Nat} (h : TbAt w tb j) (hi : i < j) : w.cell? ⟨tb, i, none⟩ = some (.string (BA [torC i])) := by
  obtain ⟨A, h1, _, h3⟩ := h
  rw [heap_cell h1]; exact h3 i hi
theorem TbAt.kept {S : Nat → Prop} {w w' : World} {tb j : Nat} (h : TbAt w tb j) (k : Kept S w w') (hg : ¬ S tb) : TbAt w' tb j := by
  obtain ⟨A, h1, h2, h3⟩ := h
  exact ⟨A, k.heap h1 hg, h2, h3⟩
theorem TbAt.stored {w : World} {tb j : Nat} (h : TbAt w tb j) (hj : j < 4) : TbAt (w.setCell ⟨tb, j, none⟩ (.string (BA [torC j]))) tb (j + 1) := by
  obtain ⟨A, h1, h2, h3⟩ := h
  refine ⟨_, heap_set h1 j _, by simpa using h2, fun i hi => ?_⟩
  by_cases e : j = i
  · subst e
    simp [h2, hj]
  · rw [Array.getElem?_setIfInBounds_ne e, h3 i (by omega)]
theorem TbAt.of_own {w : World} {tb : Nat} (h : w.ownsRow 0 9 1 (.slice (some ⟨tb, 0, none⟩) 0 4) 0 []) : TbAt w tb 0 := by
  obtain ⟨h0, h1⟩ := h
  rcases h1 with ⟨h, _⟩ | ⟨g, cap, cur, hv, hb, hg, hn, hm, hs, ht⟩
  · cases h
  · cases hv
    exact ⟨cur, hg, by omega, fun k hk => absurd hk (by omega)⟩
/-- The replacer, the last j pairs laid. -/
structure RepJ (w : World) (pb tb j : Nat) : Prop where
  ne : pb ≠ tb
  own : TbAt w tb j
  rep : ∃ f, RepC w pb f ∧ f 256 = .slice (some ⟨tb, 0, none⟩) j 4 ∧ (∀ k, k < j → ∃ g cap, f (torC k).toNat = .slice (some ⟨g, 0, none⟩) (repB (torC k)).length cap ∧ RdB w (.slice (some ⟨g, 0, none⟩) (repB (torC k)).length cap) (repB (torC k)) ∧ g ≠ pb ∧ g ≠ tb) ∧ ∀ i, i < 256 → (∀ k, k < j → i ≠ (torC k).toNat) → f i = .slice none 0 0
theorem rep_next {w wa w4 : World} {pb tb j g cap : Nat} {f : Nat → Value} (hj : j < 4) (hne : pb ≠ tb) (ht : TbAt w tb j) (hf : RepC w pb f)
    (h3 : ∀ k, k < j → ∃ g cap, f (torC k).toNat = .slice (some ⟨g, 0, none⟩) (repB (torC k)).length cap ∧ RdB w (.slice (some ⟨g, 0, none⟩) (repB (torC k)).length cap) (repB (torC k)) ∧ g ≠ pb ∧ g ≠ tb)
    (h4 : ∀ i, i < 256 → (∀ k, k < j → i ≠ (torC k).toNat) → f i = .slice none 0 0) (hka : Kept (fun _ => False) w wa)
    (hgg : w.heap.size ≤ g) (hb : RdB w4 (.slice (some ⟨g, 0, none⟩) (repB (torC j)).length cap) (repB (torC j)))
    (hk4 : Kept (fun _ => False) ((wa.setCell ⟨tb, j, none⟩ (.string (BA [torC j]))).setCell ⟨pb, 256, none⟩ (.slice (some ⟨tb, 0, none⟩) (j + 1) 4)) w4) :
    RepJ (w4.setCell ⟨pb, (torC j).toNat, none⟩ (.slice (some ⟨g, 0, none⟩) (repB (torC j)).length cap)) pb tb (j + 1) ∧ Kept (fun k => k = tb ∨ k = pb) w (w4.setCell ⟨pb, (torC j).toNat, none⟩ (.slice (some ⟨g, 0, none⟩) (repB (torC j)).length cap)) := by
  have hk3 : Kept (fun k => k = tb ∨ k = pb) w (wa.setCell ⟨tb, j, none⟩ (.string (BA [torC j]))) := (hka.mono (fun _ _ h => h.elim)).set tb j (fun _ => Or.inl rfl) _
  have hk5 : Kept (fun k => k = tb ∨ k = pb) w w4 := (hk3.set pb 256 (fun _ => Or.inr rfl) _).trans hk4 (fun _ _ h => h.elim)
  have hk6 : Kept (fun k => k = tb ∨ k = pb) w (w4.setCell ⟨pb, (torC j).toNat, none⟩ (.slice (some ⟨g, 0, none⟩) (repB (torC j)).length cap)) := hk5.set pb _ (fun _ => Or.inr rfl) _
  have hc256 := (torC j).toNat_lt
  have hpl := hf.lt
  have htl := ht.lt
  refine ⟨⟨hne, ?_, ?_⟩, hk6⟩
  · have t1 := (ht.kept hka (fun h => h)).stored hj
    have t2 := t1.kept ((Kept.refl (fun k => k = pb) _).set pb 256 (fun _ => rfl) (.slice (some ⟨tb, 0, none⟩) (j + 1) 4)) (fun h => hne h.symm)
    exact (t2.kept hk4 (fun h => h)).kept ((Kept.refl (fun k => k = pb) _).set pb _ (fun _ => rfl) _) (fun h => hne h.symm)
  · have f3 : RepC (wa.setCell ⟨tb, j, none⟩ (.string (BA [torC j]))) pb f := ((hf.kept hka (fun h => h)).kept ((Kept.refl (fun k => k = tb) wa).set tb j (fun _ => rfl) _) hne)
    have f6 := (((f3.stored 256 (.slice (some ⟨tb, 0, none⟩) (j + 1) 4) (by decide)).kept hk4 (fun h => h)).stored (torC j).toNat (.slice (some ⟨g, 0, none⟩) (repB (torC j)).length cap) (by omega))
    refine ⟨_, f6, by rw [if_neg (by omega), if_pos rfl], fun k hk => ?_, fun i hi hn => ?_⟩
    · by_cases e : k = j
      · subst e
        refine ⟨g, cap, by rw [if_pos rfl], hb.kept ((Kept.refl (fun k => k = pb) w4).set pb _ (fun _ => rfl) _) (fun q hq h => by have e := blk_some hq; simp only at e; omega), by omega, by omega⟩
      · obtain ⟨g', cap', q1, q2, q3, q4⟩ := h3 k (by omega)
        refine ⟨g', cap', by rw [if_neg (Ne.symm (torC_ne (by omega) hj)), if_neg (by have := (torC k).toNat_lt; omega), q1], q2.kept hk6 (fun q hq h => by have e := blk_some hq; simp only at e; omega), q3, q4⟩
    · rw [if_neg (hn j (by omega)), if_neg (by omega)]
      exact h4 i hi (fun k hk => hn k (by omega))
theorem specB_tor {c : UInt8} (h : specB c = true) : ∃ k, k < 4 ∧ torC k = c := by
  have h : c = 42 ∨ c = 43 ∨ c = 41 ∨ c = 40 := by
    unfold specB at h
    simp only [Bool.or_eq_true, beq_iff_eq] at h
    rcases h with ((h | h) | h) | h <;> simp [h]
  rcases h with rfl | rfl | rfl | rfl
  · exact ⟨0, by decide, rfl⟩
  · exact ⟨1, by decide, rfl⟩
  · exact ⟨2, by decide, rfl⟩
  · exact ⟨3, by decide, rfl⟩
theorem RepJ.all {w : World} {pb tb : Nat} (h : RepJ w pb tb 4) : RepAt w pb := by
  obtain ⟨f, h1, h2, h3, h4⟩ := h.rep
  refine ⟨fun c hc => ?_, fun c hc => ?_, tb, 4, ?_, Nat.le_refl _, fun k hk => ?_⟩
  · obtain ⟨k, hk, rfl⟩ := specB_tor hc
    obtain ⟨g, cap, q1, q2, _⟩ := h3 k hk
    exact ⟨g, cap, by rw [h1.cell _ (by have := (torC k).toNat_lt; omega), q1], q2⟩
  · rw [h1.cell _ (by have := c.toNat_lt; omega), h4 _ c.toNat_lt (fun k hk e => ?_)]
    have e2 : c = torC k := UInt8.toNat_inj.1 e
    rw [e2, torC_spec k hk] at hc
    exact absurd hc (by decide)
  · rw [h1.cell _ (by decide), h2]
  · exact h.own.cell hk
theorem rep_first {w w1 : World} {Z : Array Value} (h1 : Z.size = 257) (h2 : ∀ i, i < 257 → Z[i]? = some (.slice none 0 0)) (ho : w1.ownsRow 0 9 1 (.slice (some ⟨w.heap.size, 0, none⟩) 0 4) 0 []) (hg : w.grownBy w1 none) :
    RepJ ((w1.alloc (.cells Z 116)).setRow w1.heap.size (repZ Z w.heap.size)) w1.heap.size w.heap.size 0 ∧ Kept (fun _ => False) w ((w1.alloc (.cells Z 116)).setRow w1.heap.size (repZ Z w.heap.size)) := by
  have hk1 : Kept (fun _ => False) w w1 := (Kept.refl _ w).grown hg (fun k hk _ => by cases hk)
  have htl : w.heap.size < w1.heap.size := own_lt ho _ rfl
  have hk2 : Kept (fun k => k = w1.heap.size) (w1.alloc (.cells Z 116)) ((w1.alloc (.cells Z 116)).setRow w1.heap.size (repZ Z w.heap.size)) := by
    refine ⟨rfl, rfl, rfl, by rw [setRow_size]; exact Nat.le_refl _, fun k hk hn => setRow_other _ _ _ _ hn⟩
  have hk3 : Kept (fun k => k = w1.heap.size) w1 ((w1.alloc (.cells Z 116)).setRow w1.heap.size (repZ Z w.heap.size)) := ((Kept.refl (fun k => k = w1.heap.size) w1).alloc _).trans hk2 (fun k _ h => h)
  refine ⟨⟨by omega, (TbAt.of_own ho).kept hk3 (by omega), ?_⟩, hk1.trans hk3 (fun k hk h => by have := hk1.size; omega)⟩
  refine ⟨_, ⟨repZ Z w.heap.size, setRow_heap _ _ _ _ _ _ (heap_alloc _ _), repZ_size h1, repZ_get h1 h2⟩, if_pos rfl, fun k hk => absurd hk (by omega), fun i hi _ => if_neg (by omega)⟩
set_option maxHeartbeats 16000000 in
theorem build_any (w : World) (rb ob ocap : Nat) (h4 : w.cell? ⟨rb, 4, none⟩ = some (.slice (some ⟨ob, 0, none⟩) 8 ocap)) (hp : PairsAt w ob) :
    Calls Tryz.prog 33 #[.pointer (some ⟨rb, 0, none⟩)] w fun x w' => ∃ pb, x = .returned (.iface 117 (.pointer (some ⟨pb, 0, none⟩))) ∧ RepAt w' pb ∧ Kept (fun _ => False) w w' := by
  have HP := Lw.hid hp
  clear hp
  go_enter Tryz.func33, Tryz.ntmps33
  go_wp2_with fail
  go_loopg [4, 5] 4 (fun gk s4 s5 wx => ∃ k : Nat, gk = 4 - k ∧ k ≤ 4 ∧ s5 = .int .i64 ((2 * k : Nat) : Int) ∧ s4 = .bool (k == 0) ∧ wx = w)
  case atStart => exact ⟨0, rfl, Nat.zero_le _, rfl, rfl, rfl⟩
  case round =>
    obtain ⟨k, rfl, hk, rfl, rfl, rfl⟩ := hrel
    by_cases hlt : k < 4
    · obtain ⟨hc1, hc2⟩ := HP.out (3 - k) (by omega)
      obtain ⟨i, hi⟩ : ∃ i, 2 * k = i := ⟨_, rfl⟩
      rw [show 6 - 2 * (3 - k) = i by omega] at hc1
      rw [show 7 - 2 * (3 - k) = i + 1 by omega] at hc2
      have hl1 := BA_size [torC (3 - k)]
      have hl2 := BA_size (repB (torC (3 - k)))
      have hsp := torC_spec (3 - k) (by omega)
      obtain ⟨rl, hrl⟩ : ∃ l, (repB (torC (3 - k))).length = l := ⟨_, rfl⟩
      have hrl2 : rl ≠ 1 := by
        have h : k = 0 ∨ k = 1 ∨ k = 2 ∨ k = 3 := by omega
        rw [← hrl]
        rcases h with rfl | rfl | rfl | rfl <;> decide
      have hb : ((rl : Int) == 1) = false := by rw [beq_eq_false_iff_ne]; omega
      have hb2 : ((rl : Int) != 1) = true := by rw [bne_iff_ne]; omega
      rw [hrl] at hl2
      rw [hi]
      have hi8 : i ≤ 6 := by omega
      have hw1 : wrap64 ((i : Int) + 1) = ((i + 1 : Nat) : Int) := by unfold wrap64; omega
      have HW : Hid (wrap64 ((i : Int) + 2) = ((2 * (k + 1) : Nat) : Int)) := Lw.hid (by unfold wrap64; omega)
      have HI := Lw.hid hi
      clear hi hrl
      go_wp2_with fail
      go_roundg (4 - (k + 1))
      case measure => omega
      case rel => exact ⟨k + 1, rfl, by omega, by have := HI.out; first | rw [HW.out] | (congr 1; omega), by first | rfl | simp, rfl⟩
    · obtain rfl : k = 4 := by omega
      obtain ⟨z0, hz, hz0, hz1, hz2⟩ : ∃ i : TypeInfo, Tryz.prog.info? 9 = some i ∧ i.zero = some (.string ⟨#[]⟩) ∧ i.size = 1 ∧ i.bytes = 16 := ⟨_, rfl, rfl, rfl, rfl⟩
      obtain ⟨Z, hzz1, hzz3, hzz2⟩ := rep_zero
      go_wp2_with (refine wpList_make_own _ rfl _ _ _ rfl 0 9 z0 _ 1 Tryz.underlying30 hz hz0 hz1 _ _ _ 4 rfl rfl rfl (by rw [hz2]; decide) (by decide) (Nat.zero_le _) ?_; intro w1 ho1 hg1; obtain ⟨tb, htb⟩ : ∃ tb, wr.heap.size = tb := ⟨_, rfl⟩; rw [htb] at ho1 ⊢; have hq := repZ_size (tb := tb) hzz1; have hq2 := repZ_cells (tb := tb) hzz1 hzz3; go_wp2_with (refine wpList_store_row rfl 116 _ _ rfl w1.heap.size (repZ Z tb) rfl rfl 116 Z (heap_alloc _ _) (by rw [hq]; rfl) (by rw [hq, hzz1]) hq2 ?_))
      obtain ⟨pb, hpb⟩ : ∃ pb, w1.heap.size = pb := ⟨_, rfl⟩
      obtain ⟨w2, hw2⟩ : ∃ w2, (w1.alloc (.cells Z 116)).setRow w1.heap.size (repZ Z tb) = w2 := ⟨_, rfl⟩
      rw [hw2, hpb]
      have HJ0 : Hid (RepJ w2 pb tb 0 ∧ Kept (fun _ => False) wr w2) := Lw.hid (by subst hw2; subst hpb; subst htb; exact rep_first hzz1 hzz3 ho1 hg1)
      obtain ⟨wo, hwo⟩ : ∃ wo : World, wo = wr := ⟨_, rfl⟩
      subst hwo
      have HPN : Hid (wo.heap.size ≤ pb ∧ wo.heap.size ≤ tb) := Lw.hid ⟨by rw [← hpb]; exact hg1.size, by omega⟩
      clear hw2 hpb ho1 hg1 hq hq2 htb hzz1 hzz2 hzz3 hz0 hz1 hz2 hz
      go_loopg [12] 4 (fun gk s12 wx => ∃ j : Nat, gk = 4 - j ∧ j ≤ 4 ∧ s12 = .int .i64 (6 - 2 * (j : Int)) ∧ RepJ wx pb tb j ∧ Kept (fun _ => False) wo wx)
      case atStart => exact ⟨0, rfl, Nat.zero_le _, rfl, HJ0.out.1, HJ0.out.2⟩
      case round =>
        clear HJ0
        obtain ⟨j, rfl, hj4, rfl, hjr, hkx⟩ := hrel
        have HJ := Lw.hid hjr; have HK := Lw.hid hkx
        clear hjr hkx
        by_cases hjl : j < 4
        · obtain ⟨hc1, hc2⟩ := HP.out j hjl
          have hd1 := HK.out.cell hc1 (fun h => h)
          have hd2 := HK.out.cell hc2 (fun h => h)
          obtain ⟨i, hi⟩ : ∃ i, 6 - 2 * j = i := ⟨_, rfl⟩
          rw [hi] at hd1
          rw [show 7 - 2 * j = i + 1 by omega] at hd2
          have HIJ : Hid ((6 : Int) - 2 * (j : Int) = (i : Int)) := Lw.hid (by omega)
          rw [HIJ.out]
          have hge : decide ((0 : Int) ≤ (i : Int)) = true := decide_eq_true (by omega)
          have hi6 : i ≤ 6 := by omega
          have hw1 : wrap64 ((i : Int) + 1) = ((i + 1 : Nat) : Int) := by unfold wrap64; omega
          obtain ⟨c, hcc⟩ : ∃ c, torC j = c := ⟨_, rfl⟩
          have HCC := Lw.hid hcc
          rw [hcc] at hd1 hd2
          have g0 := BA_get (l := [c]) (k := 0) rfl
          have hsz := BA_size [c]
          have hc256 := c.toNat_lt
          obtain ⟨f, hf1, hf2, hf3, hf4⟩ := HJ.out.rep
          have hcell := hf1.cell c.toNat (by omega)
          have hnil : f c.toNat = .slice none 0 0 := hf4 c.toNat (by omega) (fun k hk => by rw [← HCC.out]; exact torC_ne hk hjl)
          rw [hnil] at hcell
          have hcell2 := hf1.cell 256 (by omega)
          rw [hf2] at hcell2
          have HF := Lw.hid hf1
          have HF3 := Lw.hid hf3
          have HF4 := Lw.hid hf4
          have hfr1 := hf1.free c.toNat
          have hfr2 := hf1.free 256
          have HOWN := Lw.hid HJ.out.own
          clear hi hc1 hc2 hcc hnil hf1 hf3 hf4
          have heqn : ∀ w : World, (binOp .eql 113 (.slice none 0 0) (.slice none 0 0)).run Tryz.prog w = .ok (.bool true) w := fun _ => rfl
          obtain ⟨z0, hz, hz0, hz1, hz2⟩ : ∃ i : TypeInfo, Tryz.prog.info? 9 = some i ∧ i.zero = some (.string ⟨#[]⟩) ∧ i.size = 1 ∧ i.bytes = 16 := ⟨_, rfl, rfl, rfl, rfl⟩
          have htl : tb < wr.heap.size := HOWN.out.lt
          obtain ⟨ov, hov⟩ := HOWN.out.spare hjl
          have hof := HOWN.out.free j
          have hj4b : j + 1 ≤ 4 := by omega
          have hpl : pb < wr.heap.size := HF.out.lt
          have hne1 : pb ≠ tb := HJ.out.ne
          have hne2 : tb ≠ pb := fun h => hne1 h.symm
          go_wp2_with (first
            | refine wpList_strBA rfl _ _ _ rfl _ [c] rfl (RdB.lit _ [c] _ 1 rfl (by decide)) Tryz.underlying113 Tryz.underlying5 Tryz.underlying9 ?_
            | (refine wpList_bytes rfl _ _ _ rfl _ rfl Tryz.underlying9 Tryz.underlying113 Tryz.underlying5 (by rw [BA_size]; have := repB_len c; unfold maxLen; omega) ?_
               intro g9 c9 w9 hg9 _ hrd9 hk9 _
               have e9 : (BA (repB c)).data.toList = repB c := rfl
               rw [e9, BA_size] at hrd9
               rw [BA_size]
               clear e9
               have HRD9 := Lw.hid hrd9
               have HK9 : Hid (Kept (fun _ => False) ((wr.setCell ⟨tb, j, none⟩ (.string (BA [c]))).setCell ⟨pb, 256, none⟩ (.slice (some ⟨tb, 0, none⟩) (j + 1) 4)) w9) := Lw.hid ((((Kept.refl _ _).alloc _).alloc _).trans hk9 (fun _ _ h => h))
               have HSZ9 : Hid (wr.heap.size ≤ g9) := Lw.hid (by have h := hg9.out; simp only [World.size_alloc, World.size_setCell] at h; omega)
               clear hg9 hrd9 hk9
               have hf9 : RepC w9 pb (fun i => if i = 256 then .slice (some ⟨tb, 0, none⟩) (j + 1) 4 else f i) := (((HF.out.kept ((Kept.refl (fun k => k = tb) wr).set tb j (fun _ => rfl) _) hne1).stored 256 _ (by decide)).kept HK9.out (fun h => h))
               have hv9 := hf9.cell c.toNat (by omega)
               have hz9 := hf9.free c.toNat
               clear hf9))
          go_roundg (4 - (j + 1))
          case measure => omega
          case rel =>
            have hn := rep_next (g := g9) (cap := c9) hjl hne1 HOWN.out HF.out HF3.out HF4.out (Kept.refl _ wr) (by have := HSZ9.out; omega) (by rw [HCC.out]; exact HRD9.out) (by rw [HCC.out]; exact HK9.out)
            rw [HCC.out] at hn
            exact ⟨j + 1, rfl, by omega, by first | rfl | (congr 1; have := HIJ.out; omega), hn.1, HK.out.trans hn.2 (fun k hk h => by have := HPN.out; omega)⟩
        · obtain rfl : j = 4 := by omega
          have hge : decide ((0 : Int) ≤ 6 - 2 * ((4 : Nat) : Int)) = false := rfl
          go_wp2_with fail
          go_ret
          exact ⟨pb, rfl, HJ.out.all, HK.out⟩
end Go.Proofs.YtoedopgjonhemaaGreatDoor
