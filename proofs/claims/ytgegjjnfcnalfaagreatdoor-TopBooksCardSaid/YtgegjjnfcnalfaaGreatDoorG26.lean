/- Of the proof of TopBooks: JH. -/
import Derived.Test.YtgegjjnfcnalfaaGreatDoorG16
import Derived.Test.YtgegjjnfcnalfaaGreatDoorG25
namespace Go.Proofs.YtgegjjnfcnalfaaGreatDoor
open Go Go.RowKit Go.Lw
set_option maxRecDepth 100000
set_option linter.unusedVariables false
set_option linter.unusedSimpArgs false
attribute [local go_sem] BA_toList
def recB1 (id : Nat) (t : List UInt8) : List UInt8 := [1] ++ be 4 id ++ (be 2 t.length ++ t)
def recB2 (id : Nat) (ch : UInt8) (off : Nat) (t : List UInt8) : List UInt8 := [2] ++ be 4 id ++ [ch] ++ be 4 off ++ (be 2 t.length ++ t)
def recB3 (id num : Nat) : List UInt8 := [3] ++ be 4 id ++ be 4 num
def recB4 (id num : Nat) (o : Option (List UInt8)) : List UInt8 := [4] ++ be 4 id ++ [UInt8.ofNat num] ++ stateB num o
def recB5 (id : Nat) : List UInt8 := [5] ++ be 4 id
def recB6 (a b c : Nat) : List UInt8 := [6] ++ be 4 a ++ be 4 b ++ be 4 c
theorem WI.step {w0 w w' : World} {bw : Nat} {l l' : List UInt8} {D : Nat → Bool} {γ : Value} (h : WI w0 bw l [] D γ w) (hp : WrPost w w' bw γ l' 0) : ∃ γ', WI w0 bw l' [] D γ' w' := by
  obtain ⟨v, h1, h2, h3⟩ := hp
  have hz := h.kept.size
  refine ⟨v, ⟨h.kept.trans h2 (fun i hi hk => ?_), h1, h.lo, fun k hk => ?_⟩⟩
  · rcases hk with rfl | hk
    · have := h.lo; omega
    · have := h.fr i hk; omega
  · rcases h3 k hk with h4 | h4
    · exact h.fr k h4
    · omega
theorem lW_none (l : List UInt8) : ∀ cs : List (Nat × List UInt8), lW l cs (fun _ => false) = l := by
  intro cs
  unfold lW
  induction cs with
  | nil => rfl
  | cons p cs ih => simpa using ih
theorem WI.arm {w0 w : World} {bw : Nat} {l : List UInt8} {γ : Value} {D : Nat → Bool} (h : WI w0 bw l [] D γ w) (cs : List (Nat × List UInt8)) : WI w0 bw l cs (fun _ => false) γ w := ⟨h.kept, by rw [lW_none]; exact h.wr, h.lo, h.fr⟩
theorem stateB_len (n : Nat) (o : Option (List UInt8)) (ho : ∀ t, o = some t → t.length ≤ 4096) : (stateB n o).length ≤ 5000 := by
  cases o with
  | none => simp [stateB, headB, varB, treeB]
  | some t => have := ho t rfl; simp [stateB, headB, varB, treeB, be_length]; omega
def BPost (w w' : World) (e : Ending) (L : List UInt8) : Prop := ∃ r, e = .returned r ∧ IsOwn w.heap.size L r w' ∧ Kept (fun _ => False) w w'
set_option maxHeartbeats 8000000 in
theorem bytes1_any (w : World) (id : Nat) (t : List UInt8) (ch off num : Int) (sq : Option Addr) (a b d : Int) (hid : id < 4294967296) (ht : t.length ≤ 60) :
    Calls Tryz.prog 76 #[rv 1 id t ch off num sq a b d] w fun e w' => BPost w w' e (recB1 id t) := by
  unfold rv
  have hbt : (BA t).size = t.length := BA_size t
  obtain ⟨w1, hw1⟩ : ∃ w1, w.alloc (.cells #[.int .u8 1, .int .u32 (id : Int), .string (BA t), .int .i64 ch, .int .i64 off, .int .i64 num, .pointer sq, .int .u32 a, .int .u32 b, .int .u32 d] 69) = w1 := ⟨_, rfl⟩
  obtain ⟨r, hr⟩ : ∃ r, w.heap.size = r := ⟨_, rfl⟩
  have K1 : Hid (Kept (fun _ => False) w w1) := Lw.hid (by rw [← hw1]; exact (Kept.refl _ w).alloc _)
  have HRB : Hid (w1.heap[r]? = some (.cells #[.int .u8 1, .int .u32 (id : Int), .string (BA t), .int .i64 ch, .int .i64 off, .int .i64 num, .pointer sq, .int .u32 a, .int .u32 b, .int .u32 d] 69 (0, 0))) := Lw.hid (by rw [← hw1, ← hr]; exact heap_alloc w _)
  have hz1 : w1.heap.size = w.heap.size + 1 := by rw [← hw1]; simp
  have HW1 := Lw.hid hw1; have HR := Lw.hid hr
  obtain ⟨w2, hw2⟩ : ∃ w2, w1.alloc (.cells #[.slice none 0 0, .int .i64 0] 86) = w2 := ⟨_, rfl⟩
  obtain ⟨bw, hbw⟩ : ∃ bw, w1.heap.size = bw := ⟨_, rfl⟩
  have hbr : w.heap.size + 1 = bw := by omega
  have HW2 := Lw.hid hw2; have HBW := Lw.hid hbw; have HBR := Lw.hid hbr
  have WI0 : Hid (WI w1 bw [] [] (fun _ => false) (.slice none 0 0) w2) := Lw.hid ⟨by rw [← hw2]; exact (Kept.refl _ w1).alloc _, by rw [← hw2, ← hbw]; exact ⟨⟨_, heap_alloc _ _⟩, World.ownsRow_nil _ _ _ _, fun h => blk_none h⟩, by omega, fun k h => (blk_none h).elim⟩
  clear hw1 hr hw2 hbw hbr hz1
  go_enter Tryz.func76, Tryz.ntmps76
  go_wp2_with fail
  rw [HW1.out]
  rw [HW2.out]
  obtain ⟨w3, hw3⟩ : ∃ w3, w2.alloc (.cells #[.int .u8 1] 5) = w3 := ⟨_, rfl⟩
  have k3 : Kept (fun _ => False) w2 w3 := by rw [← hw3]; exact (Kept.refl _ w2).alloc _
  have WI3 := Lw.hid (WI0.out.same k3)
  have rd3 : RdB w3 (.slice (some ⟨w2.heap.size, 0, none⟩) 1 1) [1] := by rw [← hw3]; exact RdB.lit w2 [1] _ 1 rfl (by unfold maxLen; omega)
  have hs2 : w2.heap.size = bw + 1 := by rw [← HW2.out, ← HBW.out]; simp
  rw [hs2] at rd3
  have RD3 := Lw.hid rd3
  rw [hw3, HBR.out, HR.out]
  clear hw3 k3 rd3 hs2
  refine (byte_any w3 bw _ [] _ [1] WI3.out.wr RD3.out (by simp)).mono ?_
  rintro e w4 ⟨rfl, hp⟩
  obtain ⟨γ4, hi4⟩ := WI3.out.step hp
  have WI4 := Lw.hid hi4
  have c0 := heap_cell (hi4.kept.heap HRB.out (fun h => h)) 0
  have c1 := heap_cell (hi4.kept.heap HRB.out (fun h => h)) 1
  clear hp hi4
  go_wp2_with fail
  refine (four_any w4 bw γ4 _ _ id rfl hid WI4.out.wr (by simp [lW])).mono ?_
  rintro e w5 ⟨rfl, hp⟩
  obtain ⟨γ5, hi5⟩ := WI4.out.step hp
  have WI5 := Lw.hid hi5
  have d0 := heap_cell (hi5.kept.heap HRB.out (fun h => h)) 0
  clear hp hi5 c0 c1
  have c2 := heap_cell (WI5.out.kept.heap HRB.out (fun h => h)) 2
  go_wp2_with fail
  refine (text_any w5 bw γ5 _ (BA t) (by rw [hbt]; omega) WI5.out.wr (by simp [lW, be_length])).mono ?_
  rintro e w6 ⟨rfl, hp⟩
  obtain ⟨γ6, hi6⟩ := WI5.out.step hp
  rw [hbt] at hi6
  have WI6 := Lw.hid hi6
  clear hp hi6 c2 d0
  go_wp2_with fail
  refine (done_any w6 bw γ6 _ WI6.out.wr (by simp [lW, be_length]; omega)).mono ?_
  rintro e w8 ⟨rr, rfl, γ8, hw8, k8, f8, ho8, hb8⟩
  have HO8 := Lw.hid ho8; have HB8 := Lw.hid hb8
  have K8 : Hid (Kept (fun _ => False) w w8) := Lw.hid ((K1.out.trans WI6.out.kept (fun _ _ h => h)).trans k8 (fun i hi hk => by
    have hz := K1.out.size
    rcases hk with h | h
    · have := WI6.out.lo; omega
    · have := WI6.out.fr i h; omega))
  have hz8 := WI6.out.kept.size; have hz1 := K1.out.size
  clear hw8 k8 f8 ho8 hb8
  go_wp2_with fail
  go_ret
  exact ⟨rr, rfl, ⟨HO8.out, fun k hk => by have := (HB8.out k hk).1; omega⟩, K8.out⟩
set_option maxHeartbeats 8000000 in
theorem bytes3_any (w : World) (id num : Nat) (t : List UInt8) (ch off : Int) (sq : Option Addr) (a b d : Int) (hid : id < 4294967296) (hnum : num ≤ 2147483647) :
    Calls Tryz.prog 76 #[rv 3 id t ch off num sq a b d] w fun e w' => BPost w w' e (recB3 id num) := by
  unfold rv
  obtain ⟨w1, hw1⟩ : ∃ w1, w.alloc (.cells #[.int .u8 3, .int .u32 (id : Int), .string (BA t), .int .i64 ch, .int .i64 off, .int .i64 (num : Int), .pointer sq, .int .u32 a, .int .u32 b, .int .u32 d] 69) = w1 := ⟨_, rfl⟩
  obtain ⟨r, hr⟩ : ∃ r, w.heap.size = r := ⟨_, rfl⟩
  have K1 : Hid (Kept (fun _ => False) w w1) := Lw.hid (by rw [← hw1]; exact (Kept.refl _ w).alloc _)
  have HRB : Hid (w1.heap[r]? = some (.cells #[.int .u8 3, .int .u32 (id : Int), .string (BA t), .int .i64 ch, .int .i64 off, .int .i64 (num : Int), .pointer sq, .int .u32 a, .int .u32 b, .int .u32 d] 69 (0, 0))) := Lw.hid (by rw [← hw1, ← hr]; exact heap_alloc w _)
  have hz1 : w1.heap.size = w.heap.size + 1 := by rw [← hw1]; simp
  have HW1 := Lw.hid hw1; have HR := Lw.hid hr
  obtain ⟨w2, hw2⟩ : ∃ w2, w1.alloc (.cells #[.slice none 0 0, .int .i64 0] 86) = w2 := ⟨_, rfl⟩
  obtain ⟨bw, hbw⟩ : ∃ bw, w1.heap.size = bw := ⟨_, rfl⟩
  have hbr : w.heap.size + 1 = bw := by omega
  have HW2 := Lw.hid hw2; have HBW := Lw.hid hbw; have HBR := Lw.hid hbr
  have WI0 : Hid (WI w1 bw [] [] (fun _ => false) (.slice none 0 0) w2) := Lw.hid ⟨by rw [← hw2]; exact (Kept.refl _ w1).alloc _, by rw [← hw2, ← hbw]; exact ⟨⟨_, heap_alloc _ _⟩, World.ownsRow_nil _ _ _ _, fun h => blk_none h⟩, by omega, fun k h => (blk_none h).elim⟩
  clear hw1 hr hw2 hbw hbr hz1
  go_enter Tryz.func76, Tryz.ntmps76
  go_wp2_with fail
  rw [HW1.out]
  rw [HW2.out]
  obtain ⟨w3, hw3⟩ : ∃ w3, w2.alloc (.cells #[.int .u8 3] 5) = w3 := ⟨_, rfl⟩
  have k3 : Kept (fun _ => False) w2 w3 := by rw [← hw3]; exact (Kept.refl _ w2).alloc _
  have WI3 := Lw.hid (WI0.out.same k3)
  have rd3 : RdB w3 (.slice (some ⟨w2.heap.size, 0, none⟩) 1 1) [3] := by rw [← hw3]; exact RdB.lit w2 [3] _ 1 rfl (by unfold maxLen; omega)
  have hs2 : w2.heap.size = bw + 1 := by rw [← HW2.out, ← HBW.out]; simp
  rw [hs2] at rd3
  have RD3 := Lw.hid rd3
  rw [hw3, HBR.out, HR.out]
  clear hw3 k3 rd3 hs2
  refine (byte_any w3 bw _ [] _ [3] WI3.out.wr RD3.out (by simp)).mono ?_
  rintro e w4 ⟨rfl, hp⟩
  obtain ⟨γ4, hi4⟩ := WI3.out.step hp
  have WI4 := Lw.hid hi4
  have c0 := heap_cell (hi4.kept.heap HRB.out (fun h => h)) 0
  have c1 := heap_cell (hi4.kept.heap HRB.out (fun h => h)) 1
  clear hp hi4
  go_wp2_with fail
  refine (four_any w4 bw γ4 _ _ id rfl hid WI4.out.wr (by simp [lW])).mono ?_
  rintro e w5 ⟨rfl, hp⟩
  obtain ⟨γ5, hi5⟩ := WI4.out.step hp
  have WI5 := Lw.hid hi5
  have d0 := heap_cell (hi5.kept.heap HRB.out (fun h => h)) 0
  clear hp hi5 c0 c1
  have c5 := heap_cell (WI5.out.kept.heap HRB.out (fun h => h)) 5
  go_wp2_with fail
  refine (four_any w5 bw γ5 _ _ num rfl (by omega) WI5.out.wr (by simp [lW, be_length])).mono ?_
  rintro e w6 ⟨rfl, hp⟩
  obtain ⟨γ6, hi6⟩ := WI5.out.step hp
  have WI6 := Lw.hid hi6
  clear hp hi6 c5 d0
  go_wp2_with fail
  refine (done_any w6 bw γ6 _ WI6.out.wr (by simp [lW, be_length])).mono ?_
  rintro e w8 ⟨rr, rfl, γ8, hw8, k8, f8, ho8, hb8⟩
  have HO8 := Lw.hid ho8; have HB8 := Lw.hid hb8
  have K8 : Hid (Kept (fun _ => False) w w8) := Lw.hid ((K1.out.trans WI6.out.kept (fun _ _ h => h)).trans k8 (fun i hi hk => by
    have hz := K1.out.size
    rcases hk with h | h
    · have := WI6.out.lo; omega
    · have := WI6.out.fr i h; omega))
  have hz8 := WI6.out.kept.size; have hz1 := K1.out.size
  clear hw8 k8 f8 ho8 hb8
  go_wp2_with fail
  go_ret
  exact ⟨rr, rfl, ⟨HO8.out, fun k hk => by have := (HB8.out k hk).1; omega⟩, K8.out⟩
set_option maxHeartbeats 8000000 in
theorem bytes5_any (w : World) (id : Nat) (t : List UInt8) (ch off num : Int) (sq : Option Addr) (a b d : Int) (hid : id < 4294967296) :
    Calls Tryz.prog 76 #[rv 5 id t ch off num sq a b d] w fun e w' => BPost w w' e (recB5 id) := by
  unfold rv
  obtain ⟨w1, hw1⟩ : ∃ w1, w.alloc (.cells #[.int .u8 5, .int .u32 (id : Int), .string (BA t), .int .i64 ch, .int .i64 off, .int .i64 num, .pointer sq, .int .u32 a, .int .u32 b, .int .u32 d] 69) = w1 := ⟨_, rfl⟩
  obtain ⟨r, hr⟩ : ∃ r, w.heap.size = r := ⟨_, rfl⟩
  have K1 : Hid (Kept (fun _ => False) w w1) := Lw.hid (by rw [← hw1]; exact (Kept.refl _ w).alloc _)
  have HRB : Hid (w1.heap[r]? = some (.cells #[.int .u8 5, .int .u32 (id : Int), .string (BA t), .int .i64 ch, .int .i64 off, .int .i64 num, .pointer sq, .int .u32 a, .int .u32 b, .int .u32 d] 69 (0, 0))) := Lw.hid (by rw [← hw1, ← hr]; exact heap_alloc w _)
  have hz1 : w1.heap.size = w.heap.size + 1 := by rw [← hw1]; simp
  have HW1 := Lw.hid hw1; have HR := Lw.hid hr
  obtain ⟨w2, hw2⟩ : ∃ w2, w1.alloc (.cells #[.slice none 0 0, .int .i64 0] 86) = w2 := ⟨_, rfl⟩
  obtain ⟨bw, hbw⟩ : ∃ bw, w1.heap.size = bw := ⟨_, rfl⟩
  have hbr : w.heap.size + 1 = bw := by omega
  have HW2 := Lw.hid hw2; have HBW := Lw.hid hbw; have HBR := Lw.hid hbr
  have WI0 : Hid (WI w1 bw [] [] (fun _ => false) (.slice none 0 0) w2) := Lw.hid ⟨by rw [← hw2]; exact (Kept.refl _ w1).alloc _, by rw [← hw2, ← hbw]; exact ⟨⟨_, heap_alloc _ _⟩, World.ownsRow_nil _ _ _ _, fun h => blk_none h⟩, by omega, fun k h => (blk_none h).elim⟩
  clear hw1 hr hw2 hbw hbr hz1
  go_enter Tryz.func76, Tryz.ntmps76
  go_wp2_with fail
  rw [HW1.out]
  rw [HW2.out]
  obtain ⟨w3, hw3⟩ : ∃ w3, w2.alloc (.cells #[.int .u8 5] 5) = w3 := ⟨_, rfl⟩
  have k3 : Kept (fun _ => False) w2 w3 := by rw [← hw3]; exact (Kept.refl _ w2).alloc _
  have WI3 := Lw.hid (WI0.out.same k3)
  have rd3 : RdB w3 (.slice (some ⟨w2.heap.size, 0, none⟩) 1 1) [5] := by rw [← hw3]; exact RdB.lit w2 [5] _ 1 rfl (by unfold maxLen; omega)
  have hs2 : w2.heap.size = bw + 1 := by rw [← HW2.out, ← HBW.out]; simp
  rw [hs2] at rd3
  have RD3 := Lw.hid rd3
  rw [hw3, HBR.out, HR.out]
  clear hw3 k3 rd3 hs2
  refine (byte_any w3 bw _ [] _ [5] WI3.out.wr RD3.out (by simp)).mono ?_
  rintro e w4 ⟨rfl, hp⟩
  obtain ⟨γ4, hi4⟩ := WI3.out.step hp
  have WI4 := Lw.hid hi4
  have c0 := heap_cell (hi4.kept.heap HRB.out (fun h => h)) 0
  have c1 := heap_cell (hi4.kept.heap HRB.out (fun h => h)) 1
  clear hp hi4
  go_wp2_with fail
  refine (four_any w4 bw γ4 _ _ id rfl hid WI4.out.wr (by simp [lW])).mono ?_
  rintro e w5 ⟨rfl, hp⟩
  obtain ⟨γ5, hi5⟩ := WI4.out.step hp
  have WI5 := Lw.hid hi5
  have d0 := heap_cell (hi5.kept.heap HRB.out (fun h => h)) 0
  clear hp hi5 c0 c1
  clear WI4
  go_wp2_with fail
  refine (done_any w5 bw γ5 _ WI5.out.wr (by simp [lW, be_length])).mono ?_
  rintro e w8 ⟨rr, rfl, γ8, hw8, k8, f8, ho8, hb8⟩
  have HO8 := Lw.hid ho8; have HB8 := Lw.hid hb8
  have K8 : Hid (Kept (fun _ => False) w w8) := Lw.hid ((K1.out.trans WI5.out.kept (fun _ _ h => h)).trans k8 (fun i hi hk => by
    have hz := K1.out.size
    rcases hk with h | h
    · have := WI5.out.lo; omega
    · have := WI5.out.fr i h; omega))
  have hz8 := WI5.out.kept.size; have hz1 := K1.out.size
  clear hw8 k8 f8 ho8 hb8
  go_wp2_with fail
  go_ret
  exact ⟨rr, rfl, ⟨HO8.out, fun k hk => by have := (HB8.out k hk).1; omega⟩, K8.out⟩
set_option maxHeartbeats 8000000 in
theorem bytes6_any (w : World) (id : Int) (t : List UInt8) (ch off num : Int) (sq : Option Addr) (a b d : Nat) (ha : a < 4294967296) (hb : b < 4294967296) (hd : d < 4294967296) :
    Calls Tryz.prog 76 #[rv 6 id t ch off num sq a b d] w fun e w' => BPost w w' e (recB6 a b d) := by
  unfold rv
  obtain ⟨w1, hw1⟩ : ∃ w1, w.alloc (.cells #[.int .u8 6, .int .u32 id, .string (BA t), .int .i64 ch, .int .i64 off, .int .i64 num, .pointer sq, .int .u32 (a : Int), .int .u32 (b : Int), .int .u32 (d : Int)] 69) = w1 := ⟨_, rfl⟩
  obtain ⟨r, hr⟩ : ∃ r, w.heap.size = r := ⟨_, rfl⟩
  have K1 : Hid (Kept (fun _ => False) w w1) := Lw.hid (by rw [← hw1]; exact (Kept.refl _ w).alloc _)
  have HRB : Hid (w1.heap[r]? = some (.cells #[.int .u8 6, .int .u32 id, .string (BA t), .int .i64 ch, .int .i64 off, .int .i64 num, .pointer sq, .int .u32 (a : Int), .int .u32 (b : Int), .int .u32 (d : Int)] 69 (0, 0))) := Lw.hid (by rw [← hw1, ← hr]; exact heap_alloc w _)
  have hz1 : w1.heap.size = w.heap.size + 1 := by rw [← hw1]; simp
  have HW1 := Lw.hid hw1; have HR := Lw.hid hr
  obtain ⟨w2, hw2⟩ : ∃ w2, w1.alloc (.cells #[.slice none 0 0, .int .i64 0] 86) = w2 := ⟨_, rfl⟩
  obtain ⟨bw, hbw⟩ : ∃ bw, w1.heap.size = bw := ⟨_, rfl⟩
  have hbr : w.heap.size + 1 = bw := by omega
  have HW2 := Lw.hid hw2; have HBW := Lw.hid hbw; have HBR := Lw.hid hbr
  have WI0 : Hid (WI w1 bw [] [] (fun _ => false) (.slice none 0 0) w2) := Lw.hid ⟨by rw [← hw2]; exact (Kept.refl _ w1).alloc _, by rw [← hw2, ← hbw]; exact ⟨⟨_, heap_alloc _ _⟩, World.ownsRow_nil _ _ _ _, fun h => blk_none h⟩, by omega, fun k h => (blk_none h).elim⟩
  clear hw1 hr hw2 hbw hbr hz1
  go_enter Tryz.func76, Tryz.ntmps76
  go_wp2_with fail
  rw [HW1.out]
  rw [HW2.out]
  obtain ⟨w3, hw3⟩ : ∃ w3, w2.alloc (.cells #[.int .u8 6] 5) = w3 := ⟨_, rfl⟩
  have k3 : Kept (fun _ => False) w2 w3 := by rw [← hw3]; exact (Kept.refl _ w2).alloc _
  have WI3 := Lw.hid (WI0.out.same k3)
  have rd3 : RdB w3 (.slice (some ⟨w2.heap.size, 0, none⟩) 1 1) [6] := by rw [← hw3]; exact RdB.lit w2 [6] _ 1 rfl (by unfold maxLen; omega)
  have hs2 : w2.heap.size = bw + 1 := by rw [← HW2.out, ← HBW.out]; simp
  rw [hs2] at rd3
  have RD3 := Lw.hid rd3
  rw [hw3, HBR.out, HR.out]
  clear hw3 k3 rd3 hs2
  refine (byte_any w3 bw _ [] _ [6] WI3.out.wr RD3.out (by simp)).mono ?_
  rintro e w4 ⟨rfl, hp⟩
  obtain ⟨γ4, hi4⟩ := WI3.out.step hp
  have WI4 := Lw.hid hi4
  have c0 := heap_cell (hi4.kept.heap HRB.out (fun h => h)) 0
  obtain ⟨w5, hw5⟩ : ∃ w5, w4 = w5 := ⟨_, rfl⟩
  rw [hw5] at WI4 c0 ⊢
  obtain ⟨γ5, hγ5⟩ : ∃ γ5, γ4 = γ5 := ⟨_, rfl⟩
  rw [hγ5] at WI4
  have WI5 := WI4
  clear hp hi4 hw5 hγ5
  go_wp2_with fail
  refine wp_region_set 12 (WI w1 bw ([6]) [(3, be 4 a), (7, be 4 b), (11, be 4 d)]) (wR bw) [gV (.pointer (some ⟨r, 7, none⟩)), gV (.pointer (some ⟨r, 7, none⟩)), gV (.int .u32 (a : Int)), gV (.pointer (some ⟨bw, 0, none⟩)), gV (.pointer (some ⟨r, 7, none⟩)), gV (.pointer (some ⟨r, 8, none⟩)), gV (.int .u32 (b : Int)), gV (.pointer (some ⟨bw, 0, none⟩)), gV (.pointer (some ⟨r, 7, none⟩)), gV (.pointer (some ⟨r, 9, none⟩)), gV (.int .u32 (d : Int)), gV (.pointer (some ⟨bw, 0, none⟩))] (γ5) (by kernel_rfl) (by kernel_rfl) ((WI5.out.arm [(3, be 4 a), (7, be 4 b), (11, be 4 d)]).same ((Kept.refl _ _).drew)) ?_ ?_
  · refine gsteps_cons (fun D γ a' w' hI hD0 hdep hcl hag hlt hf K hK => ?_) ?_
    · have s1 := hag.same 1 (by decide)
      clear hlt
      clear hag
      go_wp2_with fail
      exact hK _ _ _ (hI.pure (Kept.refl _ _) rfl) (wR.pure (Kept.refl _ _)) rfl
    refine gsteps_cons (fun D γ a' w' hI hD0 hdep hcl hag hlt hf K hK => ?_) ?_
    · obtain ⟨⟨_, h0, rfl⟩, -⟩ : SFacts _ _ a' w' [0] := hf
      clear hlt
      clear hag
      go_wp2_with fail
      exact hK _ _ _ (hI.pure (Kept.refl _ _) rfl) (wR.pure (Kept.refl _ _)) rfl
    refine gsteps_cons (fun D γ a' w' hI hD0 hdep hcl hag hlt hf K hK => ?_) ?_
    · obtain ⟨⟨_, h1, rfl⟩, -⟩ : SFacts _ _ a' w' [1] := hf
      clear hlt
      clear hag
      have c7 := heap_cell (hI.kept.heap HRB.out (fun h => h)) 7
      go_wp2_with fail
      exact hK _ _ _ (hI.pure (Kept.refl _ _) rfl) (wR.pure (Kept.refl _ _)) rfl
    refine gsteps_cons (fun D γ a' w' hI hD0 hdep hcl hag hlt hf K hK => ?_) ?_
    · obtain ⟨⟨_, h2, rfl⟩, -⟩ : SFacts _ _ a' w' [2] := hf
      have s3 := hag.same 3 (by decide)
      clear hlt
      clear hag
      have HI := Lw.hid hI
      clear hI
      go_wp2_with fail
      have d3 : D 3 = false := hD0
      have d7 : D 7 = false := by cases hx : D 7 with | false => rfl | true => exact absurd (hcl 7 _ rfl hx 3 (by decide)) (by rw [d3]; decide)
      have d11 : D 11 = false := by cases hx : D 11 with | false => rfl | true => exact absurd (hcl 11 _ rfl hx 7 (by decide)) (by rw [d7]; decide)
      have hw := HI.out.wr
      rw [show lW ([6]) [(3, be 4 a), (7, be 4 b), (11, be 4 d)] D = [6] by simp [lW, d3, d7, d11]] at hw
      have HWW := Lw.hid hw
      clear hw
      refine (four_any w' bw γ _ _ a rfl ha HWW.out (by simp [be_length])).mono ?_
      rintro e w7 ⟨rfl, hp⟩
      have HP := Lw.hid hp
      clear hp
      go_wp2_with fail
      obtain ⟨γ', hi', hr'⟩ := HI.out.call HP.out (j := 3) (by simp [lW, d3, d7, d11])
      exact hK _ γ' _ hi' hr' rfl
    refine gsteps_cons (fun D γ a' w' hI hD0 hdep hcl hag hlt hf K hK => ?_) ?_
    · have s1 := hag.same 1 (by decide)
      clear hlt
      clear hag
      go_wp2_with fail
      exact hK _ _ _ (hI.pure (Kept.refl _ _) rfl) (wR.pure (Kept.refl _ _)) rfl
    refine gsteps_cons (fun D γ a' w' hI hD0 hdep hcl hag hlt hf K hK => ?_) ?_
    · obtain ⟨⟨_, h4, rfl⟩, -⟩ : SFacts _ _ a' w' [4] := hf
      clear hlt
      clear hag
      go_wp2_with fail
      exact hK _ _ _ (hI.pure (Kept.refl _ _) rfl) (wR.pure (Kept.refl _ _)) rfl
    refine gsteps_cons (fun D γ a' w' hI hD0 hdep hcl hag hlt hf K hK => ?_) ?_
    · obtain ⟨⟨_, h5, rfl⟩, -⟩ : SFacts _ _ a' w' [5] := hf
      clear hlt
      clear hag
      have c8 := heap_cell (hI.kept.heap HRB.out (fun h => h)) 8
      go_wp2_with fail
      exact hK _ _ _ (hI.pure (Kept.refl _ _) rfl) (wR.pure (Kept.refl _ _)) rfl
    refine gsteps_cons (fun D γ a' w' hI hD0 hdep hcl hag hlt hf K hK => ?_) ?_
    · obtain ⟨⟨_, h3, rfl⟩, ⟨_, h6, rfl⟩, -⟩ : SFacts _ _ a' w' [3, 6] := hf
      clear hlt
      clear hag
      have HI := Lw.hid hI
      clear hI
      go_wp2_with fail
      have d3 : D 3 = true := hdep 3 (by decide)
      have d7 : D 7 = false := hD0
      have d11 : D 11 = false := by cases hx : D 11 with | false => rfl | true => exact absurd (hcl 11 _ rfl hx 7 (by decide)) (by rw [d7]; decide)
      have hw := HI.out.wr
      rw [show lW ([6]) [(3, be 4 a), (7, be 4 b), (11, be 4 d)] D = [6] ++ (be 4 a) by simp [lW, d3, d7, d11]] at hw
      have HWW := Lw.hid hw
      clear hw
      refine (four_any w' bw γ _ _ b rfl hb HWW.out (by simp [be_length])).mono ?_
      rintro e w7 ⟨rfl, hp⟩
      have HP := Lw.hid hp
      clear hp
      go_wp2_with fail
      obtain ⟨γ', hi', hr'⟩ := HI.out.call HP.out (j := 7) (by simp [lW, d3, d7, d11])
      exact hK _ γ' _ hi' hr' rfl
    refine gsteps_cons (fun D γ a' w' hI hD0 hdep hcl hag hlt hf K hK => ?_) ?_
    · have s1 := hag.same 1 (by decide)
      clear hlt
      clear hag
      go_wp2_with fail
      exact hK _ _ _ (hI.pure (Kept.refl _ _) rfl) (wR.pure (Kept.refl _ _)) rfl
    refine gsteps_cons (fun D γ a' w' hI hD0 hdep hcl hag hlt hf K hK => ?_) ?_
    · obtain ⟨⟨_, h8, rfl⟩, -⟩ : SFacts _ _ a' w' [8] := hf
      clear hlt
      clear hag
      go_wp2_with fail
      exact hK _ _ _ (hI.pure (Kept.refl _ _) rfl) (wR.pure (Kept.refl _ _)) rfl
    refine gsteps_cons (fun D γ a' w' hI hD0 hdep hcl hag hlt hf K hK => ?_) ?_
    · obtain ⟨⟨_, h9, rfl⟩, -⟩ : SFacts _ _ a' w' [9] := hf
      clear hlt
      clear hag
      have c9 := heap_cell (hI.kept.heap HRB.out (fun h => h)) 9
      go_wp2_with fail
      exact hK _ _ _ (hI.pure (Kept.refl _ _) rfl) (wR.pure (Kept.refl _ _)) rfl
    refine gsteps_cons (fun D γ a' w' hI hD0 hdep hcl hag hlt hf K hK => ?_) ?_
    · obtain ⟨⟨_, h7, rfl⟩, ⟨_, h10, rfl⟩, -⟩ : SFacts _ _ a' w' [7, 10] := hf
      clear hlt
      clear hag
      have HI := Lw.hid hI
      clear hI
      go_wp2_with fail
      have d7 : D 7 = true := hdep 7 (by decide)
      have d3 : D 3 = true := hcl 7 _ rfl d7 3 (by decide)
      have d11 : D 11 = false := hD0
      have hw := HI.out.wr
      rw [show lW ([6]) [(3, be 4 a), (7, be 4 b), (11, be 4 d)] D = [6] ++ (be 4 a) ++ (be 4 b) by simp [lW, d3, d7, d11]] at hw
      have HWW := Lw.hid hw
      clear hw
      refine (four_any w' bw γ _ _ d rfl hd HWW.out (by simp [be_length])).mono ?_
      rintro e w7 ⟨rfl, hp⟩
      have HP := Lw.hid hp
      clear hp
      go_wp2_with fail
      obtain ⟨γ', hi', hr'⟩ := HI.out.call HP.out (j := 11) (by simp [lW, d3, d7, d11])
      exact hK _ γ' _ hi' hr' rfl
    exact trivial
  · intro vs γ wz hI hvs
    have q0 : vs 0 = (.pointer (some ⟨r, 7, none⟩)) := hvs 0 _ _ rfl rfl
    have q1 : vs 1 = (.pointer (some ⟨r, 7, none⟩)) := hvs 1 _ _ rfl rfl
    have q2 : vs 2 = (.int .u32 (a : Int)) := hvs 2 _ _ rfl rfl
    have q3 : vs 3 = (.pointer (some ⟨bw, 0, none⟩)) := hvs 3 _ _ rfl rfl
    have q4 : vs 4 = (.pointer (some ⟨r, 7, none⟩)) := hvs 4 _ _ rfl rfl
    have q5 : vs 5 = (.pointer (some ⟨r, 8, none⟩)) := hvs 5 _ _ rfl rfl
    have q6 : vs 6 = (.int .u32 (b : Int)) := hvs 6 _ _ rfl rfl
    have q7 : vs 7 = (.pointer (some ⟨bw, 0, none⟩)) := hvs 7 _ _ rfl rfl
    have q8 : vs 8 = (.pointer (some ⟨r, 7, none⟩)) := hvs 8 _ _ rfl rfl
    have q9 : vs 9 = (.pointer (some ⟨r, 9, none⟩)) := hvs 9 _ _ rfl rfl
    have q10 : vs 10 = (.int .u32 (d : Int)) := hvs 10 _ _ rfl rfl
    have q11 : vs 11 = (.pointer (some ⟨bw, 0, none⟩)) := hvs 11 _ _ rfl rfl
    clear hvs
    simp only [List.take_succ_cons, List.take_zero, List.drop_succ_cons, List.drop_zero, putAll, Act.put, List.setIfInBounds_toArray, List.set_cons_zero, List.set_cons_succ, Nat.reduceAdd, q0, q1, q2, q3, q4, q5, q6, q7, q8, q9, q10, q11]
    clear q0 q1 q2 q3 q4 q5 q6 q7 q8 q9 q10 q11
    have WIX : WI w1 bw ([6] ++ (be 4 a) ++ (be 4 b) ++ (be 4 d)) [] (fun _ => false) γ wz := ⟨hI.kept, hI.wr, hI.lo, hI.fr⟩
    have WI6 := Lw.hid WIX
    clear hI WIX
    go_wp2_with fail
    refine (done_any wz bw γ _ WI6.out.wr (by simp [lW, be_length])).mono ?_
    rintro e w8 ⟨rr, rfl, γ8, hw8, k8, f8, ho8, hb8⟩
    have HO8 := Lw.hid ho8; have HB8 := Lw.hid hb8
    have K8 : Hid (Kept (fun _ => False) w w8) := Lw.hid ((K1.out.trans WI6.out.kept (fun _ _ h => h)).trans k8 (fun i hi hk => by
      have hz := K1.out.size
      rcases hk with h | h
      · have := WI6.out.lo; omega
      · have := WI6.out.fr i h; omega))
    have hz8 := WI6.out.kept.size; have hz1 := K1.out.size
    clear hw8 k8 f8 ho8 hb8
    go_wp2_with fail
    go_ret
    exact ⟨rr, rfl, ⟨HO8.out, fun k hk => by have := (HB8.out k hk).1; omega⟩, K8.out⟩
set_option maxHeartbeats 8000000 in
theorem bytes22_any (w : World) (id off : Nat) (t : List UInt8) (num : Int) (sq : Option Addr) (a b d : Int) (hid : id < 4294967296) (hoff : off < 4294967296) (ht : t.length ≤ 60) :
    Calls Tryz.prog 76 #[rv 2 id t 2 off num sq a b d] w fun e w' => BPost w w' e (recB2 id 2 off t) := by
  unfold rv
  have hbt : (BA t).size = t.length := BA_size t
  obtain ⟨w1, hw1⟩ : ∃ w1, w.alloc (.cells #[.int .u8 2, .int .u32 (id : Int), .string (BA t), .int .i64 2, .int .i64 (off : Int), .int .i64 num, .pointer sq, .int .u32 a, .int .u32 b, .int .u32 d] 69) = w1 := ⟨_, rfl⟩
  obtain ⟨r, hr⟩ : ∃ r, w.heap.size = r := ⟨_, rfl⟩
  have K1 : Hid (Kept (fun _ => False) w w1) := Lw.hid (by rw [← hw1]; exact (Kept.refl _ w).alloc _)
  have HRB : Hid (w1.heap[r]? = some (.cells #[.int .u8 2, .int .u32 (id : Int), .string (BA t), .int .i64 2, .int .i64 (off : Int), .int .i64 num, .pointer sq, .int .u32 a, .int .u32 b, .int .u32 d] 69 (0, 0))) := Lw.hid (by rw [← hw1, ← hr]; exact heap_alloc w _)
  have hz1 : w1.heap.size = w.heap.size + 1 := by rw [← hw1]; simp
  have HW1 := Lw.hid hw1; have HR := Lw.hid hr
  obtain ⟨w2, hw2⟩ : ∃ w2, w1.alloc (.cells #[.slice none 0 0, .int .i64 0] 86) = w2 := ⟨_, rfl⟩
  obtain ⟨bw, hbw⟩ : ∃ bw, w1.heap.size = bw := ⟨_, rfl⟩
  have hbr : w.heap.size + 1 = bw := by omega
  have HW2 := Lw.hid hw2; have HBW := Lw.hid hbw; have HBR := Lw.hid hbr
  have WI0 : Hid (WI w1 bw [] [] (fun _ => false) (.slice none 0 0) w2) := Lw.hid ⟨by rw [← hw2]; exact (Kept.refl _ w1).alloc _, by rw [← hw2, ← hbw]; exact ⟨⟨_, heap_alloc _ _⟩, World.ownsRow_nil _ _ _ _, fun h => blk_none h⟩, by omega, fun k h => (blk_none h).elim⟩
  clear hw1 hr hw2 hbw hbr hz1
  go_enter Tryz.func76, Tryz.ntmps76
  go_wp2_with fail
  rw [HW1.out]
  rw [HW2.out]
  obtain ⟨w3, hw3⟩ : ∃ w3, w2.alloc (.cells #[.int .u8 2] 5) = w3 := ⟨_, rfl⟩
  have k3 : Kept (fun _ => False) w2 w3 := by rw [← hw3]; exact (Kept.refl _ w2).alloc _
  have WI3 := Lw.hid (WI0.out.same k3)
  have rd3 : RdB w3 (.slice (some ⟨w2.heap.size, 0, none⟩) 1 1) [2] := by rw [← hw3]; exact RdB.lit w2 [2] _ 1 rfl (by unfold maxLen; omega)
  have hs2 : w2.heap.size = bw + 1 := by rw [← HW2.out, ← HBW.out]; simp
  rw [hs2] at rd3
  have RD3 := Lw.hid rd3
  rw [hw3, HBR.out, HR.out]
  clear hw3 k3 rd3 hs2
  refine (byte_any w3 bw _ [] _ [2] WI3.out.wr RD3.out (by simp)).mono ?_
  rintro e w4 ⟨rfl, hp⟩
  obtain ⟨γ4, hi4⟩ := WI3.out.step hp
  have WI4 := Lw.hid hi4
  have c0 := heap_cell (hi4.kept.heap HRB.out (fun h => h)) 0
  have c1 := heap_cell (hi4.kept.heap HRB.out (fun h => h)) 1
  clear hp hi4
  go_wp2_with fail
  refine (four_any w4 bw γ4 _ _ id rfl hid WI4.out.wr (by simp [lW])).mono ?_
  rintro e w5 ⟨rfl, hp⟩
  obtain ⟨γ5, hi5⟩ := WI4.out.step hp
  have WI5 := Lw.hid hi5
  have d0 := heap_cell (hi5.kept.heap HRB.out (fun h => h)) 0
  clear hp hi5 c0 c1
  go_wp2_with fail
  refine wp_region_set 12 (WI w1 bw ([2] ++ be 4 id) [(4, [2]), (8, be 4 off), (11, be 2 t.length ++ t)]) (wR bw) [gV (.pointer (some ⟨r, 3, none⟩)), gV (.int .i64 2), gV (.int .u8 2), wRow bw [2], gV (.pointer (some ⟨bw, 0, none⟩)), gV (.pointer (some ⟨r, 4, none⟩)), gV (.int .i64 (off : Int)), gV (.int .u32 (off : Int)), gV (.pointer (some ⟨bw, 0, none⟩)), gV (.pointer (some ⟨r, 2, none⟩)), gV (.string (BA t)), gV (.pointer (some ⟨bw, 0, none⟩))] (γ5) (by kernel_rfl) (by kernel_rfl) ((WI5.out.arm [(4, [2]), (8, be 4 off), (11, be 2 t.length ++ t)]).same ((Kept.refl _ _).drew)) ?_ ?_
  · refine gsteps_cons (fun D γ a' w' hI hD0 hdep hcl hag hlt hf K hK => ?_) ?_
    · have s1 := hag.same 1 (by decide)
      clear hlt
      clear hag
      go_wp2_with fail
      exact hK _ _ _ (hI.pure (Kept.refl _ _) rfl) (wR.pure (Kept.refl _ _)) rfl
    refine gsteps_cons (fun D γ a' w' hI hD0 hdep hcl hag hlt hf K hK => ?_) ?_
    · obtain ⟨⟨_, h0, rfl⟩, -⟩ : SFacts _ _ a' w' [0] := hf
      clear hlt
      clear hag
      have c3 := heap_cell (hI.kept.heap HRB.out (fun h => h)) 3
      go_wp2_with fail
      exact hK _ _ _ (hI.pure (Kept.refl _ _) rfl) (wR.pure (Kept.refl _ _)) rfl
    refine gsteps_cons (fun D γ a' w' hI hD0 hdep hcl hag hlt hf K hK => ?_) ?_
    · obtain ⟨⟨_, h1, rfl⟩, -⟩ : SFacts _ _ a' w' [1] := hf
      clear hlt
      clear hag
      go_wp2_with fail
      exact hK _ _ _ (hI.pure (Kept.refl _ _) rfl) (wR.pure (Kept.refl _ _)) rfl
    refine gsteps_cons (fun D γ a' w' hI hD0 hdep hcl hag hlt hf K hK => ?_) ?_
    · obtain ⟨⟨_, h2, rfl⟩, -⟩ : SFacts _ _ a' w' [2] := hf
      clear hlt
      clear hag
      have HI := Lw.hid hI
      clear hI
      go_wp2_with fail
      have k5 : Kept (fun _ => False) w' (w'.alloc (.cells #[.int .u8 2] 5)) := (Kept.refl _ w').alloc _
      have hbl : bw < w'.heap.size := by obtain ⟨T, hT⟩ := HI.out.wr.1; exact heap_lt hT
      have hgl := own_lt HI.out.wr.2.1
      exact hK _ _ _ (HI.out.pure k5 rfl) (wR.pure k5) ⟨by
          have e : #[Value.int .u8 2] = (([2] : List UInt8).map bv).toArray := by simp [bv]
          rw [e]
          exact RdB.lit w' [2] _ 1 rfl (by unfold maxLen; omega), fun k hk => by
          have e : k = w'.heap.size := blk_some hk
          rw [e]
          exact ⟨by omega, fun h => by have := hgl _ h; omega, by simp⟩⟩
    refine gsteps_cons (fun D γ a' w' hI hD0 hdep hcl hag hlt hf K hK => ?_) ?_
    · obtain ⟨⟨v3, h3, e3⟩, -⟩ : SFacts _ _ a' w' [3] := hf
      have s3 := hag.same 3 (by decide)
      clear hlt
      clear hag
      obtain ⟨hr1, hr2⟩ := e3
      have HRW := Lw.hid hr1
      clear hr1 hr2
      have HI := Lw.hid hI
      clear hI
      go_wp2_with fail
      have d4 : D 4 = false := hD0
      have d8 : D 8 = false := by cases hx : D 8 with | false => rfl | true => exact absurd (hcl 8 _ rfl hx 4 (by decide)) (by rw [d4]; decide)
      have d11 : D 11 = false := by cases hx : D 11 with | false => rfl | true => exact absurd (hcl 11 _ rfl hx 8 (by decide)) (by rw [d8]; decide)
      have hw := HI.out.wr
      rw [show lW ([2] ++ be 4 id) [(4, [2]), (8, be 4 off), (11, be 2 t.length ++ t)] D = [2] ++ be 4 id by simp [lW, d4, d8, d11]] at hw
      have HWW := Lw.hid hw
      clear hw
      refine (byte_any w' bw γ _ _ [2] HWW.out HRW.out (by simp [be_length])).mono ?_
      rintro e w7 ⟨rfl, hp⟩
      have HP := Lw.hid hp
      clear hp
      go_wp2_with fail
      obtain ⟨γ', hi', hr'⟩ := HI.out.call HP.out (j := 4) (by simp [lW, d4, d8, d11])
      exact hK _ γ' _ hi' hr' rfl
    refine gsteps_cons (fun D γ a' w' hI hD0 hdep hcl hag hlt hf K hK => ?_) ?_
    · have s1 := hag.same 1 (by decide)
      clear hlt
      clear hag
      go_wp2_with fail
      exact hK _ _ _ (hI.pure (Kept.refl _ _) rfl) (wR.pure (Kept.refl _ _)) rfl
    refine gsteps_cons (fun D γ a' w' hI hD0 hdep hcl hag hlt hf K hK => ?_) ?_
    · obtain ⟨⟨_, h5, rfl⟩, -⟩ : SFacts _ _ a' w' [5] := hf
      clear hlt
      clear hag
      have c4 := heap_cell (hI.kept.heap HRB.out (fun h => h)) 4
      go_wp2_with fail
      exact hK _ _ _ (hI.pure (Kept.refl _ _) rfl) (wR.pure (Kept.refl _ _)) rfl
    refine gsteps_cons (fun D γ a' w' hI hD0 hdep hcl hag hlt hf K hK => ?_) ?_
    · obtain ⟨⟨_, h6, rfl⟩, -⟩ : SFacts _ _ a' w' [6] := hf
      clear hlt
      clear hag
      go_wp2_with fail
      exact hK _ _ _ (hI.pure (Kept.refl _ _) rfl) (wR.pure (Kept.refl _ _)) rfl
    refine gsteps_cons (fun D γ a' w' hI hD0 hdep hcl hag hlt hf K hK => ?_) ?_
    · obtain ⟨⟨_, h4, rfl⟩, ⟨_, h7, rfl⟩, -⟩ : SFacts _ _ a' w' [4, 7] := hf
      clear hlt
      clear hag
      have HI := Lw.hid hI
      clear hI
      go_wp2_with fail
      have d4 : D 4 = true := hdep 4 (by decide)
      have d8 : D 8 = false := hD0
      have d11 : D 11 = false := by cases hx : D 11 with | false => rfl | true => exact absurd (hcl 11 _ rfl hx 8 (by decide)) (by rw [d8]; decide)
      have hw := HI.out.wr
      rw [show lW ([2] ++ be 4 id) [(4, [2]), (8, be 4 off), (11, be 2 t.length ++ t)] D = [2] ++ be 4 id ++ ([2]) by simp [lW, d4, d8, d11]] at hw
      have HWW := Lw.hid hw
      clear hw
      refine (four_any w' bw γ _ _ off rfl hoff HWW.out (by simp [be_length])).mono ?_
      rintro e w7 ⟨rfl, hp⟩
      have HP := Lw.hid hp
      clear hp
      go_wp2_with fail
      obtain ⟨γ', hi', hr'⟩ := HI.out.call HP.out (j := 8) (by simp [lW, d4, d8, d11])
      exact hK _ γ' _ hi' hr' rfl
    refine gsteps_cons (fun D γ a' w' hI hD0 hdep hcl hag hlt hf K hK => ?_) ?_
    · have s1 := hag.same 1 (by decide)
      clear hlt
      clear hag
      go_wp2_with fail
      exact hK _ _ _ (hI.pure (Kept.refl _ _) rfl) (wR.pure (Kept.refl _ _)) rfl
    refine gsteps_cons (fun D γ a' w' hI hD0 hdep hcl hag hlt hf K hK => ?_) ?_
    · obtain ⟨⟨_, h9, rfl⟩, -⟩ : SFacts _ _ a' w' [9] := hf
      clear hlt
      clear hag
      have c2 := heap_cell (hI.kept.heap HRB.out (fun h => h)) 2
      go_wp2_with fail
      exact hK _ _ _ (hI.pure (Kept.refl _ _) rfl) (wR.pure (Kept.refl _ _)) rfl
    refine gsteps_cons (fun D γ a' w' hI hD0 hdep hcl hag hlt hf K hK => ?_) ?_
    · obtain ⟨⟨_, h8, rfl⟩, ⟨_, h10, rfl⟩, -⟩ : SFacts _ _ a' w' [8, 10] := hf
      clear hlt
      clear hag
      have HI := Lw.hid hI
      clear hI
      go_wp2_with fail
      have d8 : D 8 = true := hdep 8 (by decide)
      have d4 : D 4 = true := hcl 8 _ rfl d8 4 (by decide)
      have d11 : D 11 = false := hD0
      have hw := HI.out.wr
      rw [show lW ([2] ++ be 4 id) [(4, [2]), (8, be 4 off), (11, be 2 t.length ++ t)] D = [2] ++ be 4 id ++ ([2]) ++ (be 4 off) by simp [lW, d4, d8, d11]] at hw
      have HWW := Lw.hid hw
      clear hw
      refine (text_any w' bw γ _ (BA t) (by rw [hbt]; omega) HWW.out (by simp [be_length])).mono ?_
      rintro e w7 ⟨rfl, hp⟩
      have HP := Lw.hid hp
      clear hp
      go_wp2_with fail
      obtain ⟨γ', hi', hr'⟩ := HI.out.call HP.out (j := 11) (by simp [lW, d4, d8, d11]; rw [hbt]; rfl)
      exact hK _ γ' _ hi' hr' rfl
    exact trivial
  · intro vs γ wz hI hvs
    have q0 : vs 0 = (.pointer (some ⟨r, 3, none⟩)) := hvs 0 _ _ rfl rfl
    have q1 : vs 1 = (.int .i64 2) := hvs 1 _ _ rfl rfl
    have q2 : vs 2 = (.int .u8 2) := hvs 2 _ _ rfl rfl
    have q3 := hvs 3 _ _ rfl rfl
    have q4 : vs 4 = (.pointer (some ⟨bw, 0, none⟩)) := hvs 4 _ _ rfl rfl
    have q5 : vs 5 = (.pointer (some ⟨r, 4, none⟩)) := hvs 5 _ _ rfl rfl
    have q6 : vs 6 = (.int .i64 (off : Int)) := hvs 6 _ _ rfl rfl
    have q7 : vs 7 = (.int .u32 (off : Int)) := hvs 7 _ _ rfl rfl
    have q8 : vs 8 = (.pointer (some ⟨bw, 0, none⟩)) := hvs 8 _ _ rfl rfl
    have q9 : vs 9 = (.pointer (some ⟨r, 2, none⟩)) := hvs 9 _ _ rfl rfl
    have q10 : vs 10 = (.string (BA t)) := hvs 10 _ _ rfl rfl
    have q11 : vs 11 = (.pointer (some ⟨bw, 0, none⟩)) := hvs 11 _ _ rfl rfl
    clear hvs
    simp only [List.take_succ_cons, List.take_zero, List.drop_succ_cons, List.drop_zero, putAll, Act.put, List.setIfInBounds_toArray, List.set_cons_zero, List.set_cons_succ, Nat.reduceAdd, q0, q1, q2, q4, q5, q6, q7, q8, q9, q10, q11]
    clear q0 q1 q2 q4 q5 q6 q7 q8 q9 q10 q11
    generalize vs 3 = x3 at *
    have WIX : WI w1 bw ([2] ++ be 4 id ++ ([2]) ++ (be 4 off) ++ (be 2 t.length ++ t)) [] (fun _ => false) γ wz := ⟨hI.kept, hI.wr, hI.lo, hI.fr⟩
    have WI6 := Lw.hid WIX
    clear hI WIX q3
    go_wp2_with fail
    refine (done_any wz bw γ _ WI6.out.wr (by simp [lW, be_length]; omega)).mono ?_
    rintro e w8 ⟨rr, rfl, γ8, hw8, k8, f8, ho8, hb8⟩
    have HO8 := Lw.hid ho8; have HB8 := Lw.hid hb8
    have K8 : Hid (Kept (fun _ => False) w w8) := Lw.hid ((K1.out.trans WI6.out.kept (fun _ _ h => h)).trans k8 (fun i hi hk => by
      have hz := K1.out.size
      rcases hk with h | h
      · have := WI6.out.lo; omega
      · have := WI6.out.fr i h; omega))
    have hz8 := WI6.out.kept.size; have hz1 := K1.out.size
    clear hw8 k8 f8 ho8 hb8
    go_wp2_with fail
    go_ret
    exact ⟨rr, rfl, ⟨HO8.out, fun k hk => by have := (HB8.out k hk).1; omega⟩, K8.out⟩
set_option maxHeartbeats 8000000 in
theorem bytes23_any (w : World) (id off : Nat) (t : List UInt8) (num : Int) (sq : Option Addr) (a b d : Int) (hid : id < 4294967296) (hoff : off < 4294967296) (ht : t.length ≤ 60) :
    Calls Tryz.prog 76 #[rv 2 id t 3 off num sq a b d] w fun e w' => BPost w w' e (recB2 id 3 off t) := by
  unfold rv
  have hbt : (BA t).size = t.length := BA_size t
  obtain ⟨w1, hw1⟩ : ∃ w1, w.alloc (.cells #[.int .u8 2, .int .u32 (id : Int), .string (BA t), .int .i64 3, .int .i64 (off : Int), .int .i64 num, .pointer sq, .int .u32 a, .int .u32 b, .int .u32 d] 69) = w1 := ⟨_, rfl⟩
  obtain ⟨r, hr⟩ : ∃ r, w.heap.size = r := ⟨_, rfl⟩
  have K1 : Hid (Kept (fun _ => False) w w1) := Lw.hid (by rw [← hw1]; exact (Kept.refl _ w).alloc _)
  have HRB : Hid (w1.heap[r]? = some (.cells #[.int .u8 2, .int .u32 (id : Int), .string (BA t), .int .i64 3, .int .i64 (off : Int), .int .i64 num, .pointer sq, .int .u32 a, .int .u32 b, .int .u32 d] 69 (0, 0))) := Lw.hid (by rw [← hw1, ← hr]; exact heap_alloc w _)
  have hz1 : w1.heap.size = w.heap.size + 1 := by rw [← hw1]; simp
  have HW1 := Lw.hid hw1; have HR := Lw.hid hr
  obtain ⟨w2, hw2⟩ : ∃ w2, w1.alloc (.cells #[.slice none 0 0, .int .i64 0] 86) = w2 := ⟨_, rfl⟩
  obtain ⟨bw, hbw⟩ : ∃ bw, w1.heap.size = bw := ⟨_, rfl⟩
  have hbr : w.heap.size + 1 = bw := by omega
  have HW2 := Lw.hid hw2; have HBW := Lw.hid hbw; have HBR := Lw.hid hbr
  have WI0 : Hid (WI w1 bw [] [] (fun _ => false) (.slice none 0 0) w2) := Lw.hid ⟨by rw [← hw2]; exact (Kept.refl _ w1).alloc _, by rw [← hw2, ← hbw]; exact ⟨⟨_, heap_alloc _ _⟩, World.ownsRow_nil _ _ _ _, fun h => blk_none h⟩, by omega, fun k h => (blk_none h).elim⟩
  clear hw1 hr hw2 hbw hbr hz1
  go_enter Tryz.func76, Tryz.ntmps76
  go_wp2_with fail
  rw [HW1.out]
  rw [HW2.out]
  obtain ⟨w3, hw3⟩ : ∃ w3, w2.alloc (.cells #[.int .u8 2] 5) = w3 := ⟨_, rfl⟩
  have k3 : Kept (fun _ => False) w2 w3 := by rw [← hw3]; exact (Kept.refl _ w2).alloc _
  have WI3 := Lw.hid (WI0.out.same k3)
  have rd3 : RdB w3 (.slice (some ⟨w2.heap.size, 0, none⟩) 1 1) [2] := by rw [← hw3]; exact RdB.lit w2 [2] _ 1 rfl (by unfold maxLen; omega)
  have hs2 : w2.heap.size = bw + 1 := by rw [← HW2.out, ← HBW.out]; simp
  rw [hs2] at rd3
  have RD3 := Lw.hid rd3
  rw [hw3, HBR.out, HR.out]
  clear hw3 k3 rd3 hs2
  refine (byte_any w3 bw _ [] _ [2] WI3.out.wr RD3.out (by simp)).mono ?_
  rintro e w4 ⟨rfl, hp⟩
  obtain ⟨γ4, hi4⟩ := WI3.out.step hp
  have WI4 := Lw.hid hi4
  have c0 := heap_cell (hi4.kept.heap HRB.out (fun h => h)) 0
  have c1 := heap_cell (hi4.kept.heap HRB.out (fun h => h)) 1
  clear hp hi4
  go_wp2_with fail
  refine (four_any w4 bw γ4 _ _ id rfl hid WI4.out.wr (by simp [lW])).mono ?_
  rintro e w5 ⟨rfl, hp⟩
  obtain ⟨γ5, hi5⟩ := WI4.out.step hp
  have WI5 := Lw.hid hi5
  have d0 := heap_cell (hi5.kept.heap HRB.out (fun h => h)) 0
  clear hp hi5 c0 c1
  go_wp2_with fail
  refine wp_region_set 12 (WI w1 bw ([2] ++ be 4 id) [(4, [3]), (8, be 4 off), (11, be 2 t.length ++ t)]) (wR bw) [gV (.pointer (some ⟨r, 3, none⟩)), gV (.int .i64 3), gV (.int .u8 3), wRow bw [3], gV (.pointer (some ⟨bw, 0, none⟩)), gV (.pointer (some ⟨r, 4, none⟩)), gV (.int .i64 (off : Int)), gV (.int .u32 (off : Int)), gV (.pointer (some ⟨bw, 0, none⟩)), gV (.pointer (some ⟨r, 2, none⟩)), gV (.string (BA t)), gV (.pointer (some ⟨bw, 0, none⟩))] (γ5) (by kernel_rfl) (by kernel_rfl) ((WI5.out.arm [(4, [3]), (8, be 4 off), (11, be 2 t.length ++ t)]).same ((Kept.refl _ _).drew)) ?_ ?_
  · refine gsteps_cons (fun D γ a' w' hI hD0 hdep hcl hag hlt hf K hK => ?_) ?_
    · have s1 := hag.same 1 (by decide)
      clear hlt
      clear hag
      go_wp2_with fail
      exact hK _ _ _ (hI.pure (Kept.refl _ _) rfl) (wR.pure (Kept.refl _ _)) rfl
    refine gsteps_cons (fun D γ a' w' hI hD0 hdep hcl hag hlt hf K hK => ?_) ?_
    · obtain ⟨⟨_, h0, rfl⟩, -⟩ : SFacts _ _ a' w' [0] := hf
      clear hlt
      clear hag
      have c3 := heap_cell (hI.kept.heap HRB.out (fun h => h)) 3
      go_wp2_with fail
      exact hK _ _ _ (hI.pure (Kept.refl _ _) rfl) (wR.pure (Kept.refl _ _)) rfl
    refine gsteps_cons (fun D γ a' w' hI hD0 hdep hcl hag hlt hf K hK => ?_) ?_
    · obtain ⟨⟨_, h1, rfl⟩, -⟩ : SFacts _ _ a' w' [1] := hf
      clear hlt
      clear hag
      go_wp2_with fail
      exact hK _ _ _ (hI.pure (Kept.refl _ _) rfl) (wR.pure (Kept.refl _ _)) rfl
    refine gsteps_cons (fun D γ a' w' hI hD0 hdep hcl hag hlt hf K hK => ?_) ?_
    · obtain ⟨⟨_, h2, rfl⟩, -⟩ : SFacts _ _ a' w' [2] := hf
      clear hlt
      clear hag
      have HI := Lw.hid hI
      clear hI
      go_wp2_with fail
      have k5 : Kept (fun _ => False) w' (w'.alloc (.cells #[.int .u8 3] 5)) := (Kept.refl _ w').alloc _
      have hbl : bw < w'.heap.size := by obtain ⟨T, hT⟩ := HI.out.wr.1; exact heap_lt hT
      have hgl := own_lt HI.out.wr.2.1
      exact hK _ _ _ (HI.out.pure k5 rfl) (wR.pure k5) ⟨by
          have e : #[Value.int .u8 3] = (([3] : List UInt8).map bv).toArray := by simp [bv]
          rw [e]
          exact RdB.lit w' [3] _ 1 rfl (by unfold maxLen; omega), fun k hk => by
          have e : k = w'.heap.size := blk_some hk
          rw [e]
          exact ⟨by omega, fun h => by have := hgl _ h; omega, by simp⟩⟩
    refine gsteps_cons (fun D γ a' w' hI hD0 hdep hcl hag hlt hf K hK => ?_) ?_
    · obtain ⟨⟨v3, h3, e3⟩, -⟩ : SFacts _ _ a' w' [3] := hf
      have s3 := hag.same 3 (by decide)
      clear hlt
      clear hag
      obtain ⟨hr1, hr2⟩ := e3
      have HRW := Lw.hid hr1
      clear hr1 hr2
      have HI := Lw.hid hI
      clear hI
      go_wp2_with fail
      have d4 : D 4 = false := hD0
      have d8 : D 8 = false := by cases hx : D 8 with | false => rfl | true => exact absurd (hcl 8 _ rfl hx 4 (by decide)) (by rw [d4]; decide)
      have d11 : D 11 = false := by cases hx : D 11 with | false => rfl | true => exact absurd (hcl 11 _ rfl hx 8 (by decide)) (by rw [d8]; decide)
      have hw := HI.out.wr
      rw [show lW ([2] ++ be 4 id) [(4, [3]), (8, be 4 off), (11, be 2 t.length ++ t)] D = [2] ++ be 4 id by simp [lW, d4, d8, d11]] at hw
      have HWW := Lw.hid hw
      clear hw
      refine (byte_any w' bw γ _ _ [3] HWW.out HRW.out (by simp [be_length])).mono ?_
      rintro e w7 ⟨rfl, hp⟩
      have HP := Lw.hid hp
      clear hp
      go_wp2_with fail
      obtain ⟨γ', hi', hr'⟩ := HI.out.call HP.out (j := 4) (by simp [lW, d4, d8, d11])
      exact hK _ γ' _ hi' hr' rfl
    refine gsteps_cons (fun D γ a' w' hI hD0 hdep hcl hag hlt hf K hK => ?_) ?_
    · have s1 := hag.same 1 (by decide)
      clear hlt
      clear hag
      go_wp2_with fail
      exact hK _ _ _ (hI.pure (Kept.refl _ _) rfl) (wR.pure (Kept.refl _ _)) rfl
    refine gsteps_cons (fun D γ a' w' hI hD0 hdep hcl hag hlt hf K hK => ?_) ?_
    · obtain ⟨⟨_, h5, rfl⟩, -⟩ : SFacts _ _ a' w' [5] := hf
      clear hlt
      clear hag
      have c4 := heap_cell (hI.kept.heap HRB.out (fun h => h)) 4
      go_wp2_with fail
      exact hK _ _ _ (hI.pure (Kept.refl _ _) rfl) (wR.pure (Kept.refl _ _)) rfl
    refine gsteps_cons (fun D γ a' w' hI hD0 hdep hcl hag hlt hf K hK => ?_) ?_
    · obtain ⟨⟨_, h6, rfl⟩, -⟩ : SFacts _ _ a' w' [6] := hf
      clear hlt
      clear hag
      go_wp2_with fail
      exact hK _ _ _ (hI.pure (Kept.refl _ _) rfl) (wR.pure (Kept.refl _ _)) rfl
    refine gsteps_cons (fun D γ a' w' hI hD0 hdep hcl hag hlt hf K hK => ?_) ?_
    · obtain ⟨⟨_, h4, rfl⟩, ⟨_, h7, rfl⟩, -⟩ : SFacts _ _ a' w' [4, 7] := hf
      clear hlt
      clear hag
      have HI := Lw.hid hI
      clear hI
      go_wp2_with fail
      have d4 : D 4 = true := hdep 4 (by decide)
      have d8 : D 8 = false := hD0
      have d11 : D 11 = false := by cases hx : D 11 with | false => rfl | true => exact absurd (hcl 11 _ rfl hx 8 (by decide)) (by rw [d8]; decide)
      have hw := HI.out.wr
      rw [show lW ([2] ++ be 4 id) [(4, [3]), (8, be 4 off), (11, be 2 t.length ++ t)] D = [2] ++ be 4 id ++ ([3]) by simp [lW, d4, d8, d11]] at hw
      have HWW := Lw.hid hw
      clear hw
      refine (four_any w' bw γ _ _ off rfl hoff HWW.out (by simp [be_length])).mono ?_
      rintro e w7 ⟨rfl, hp⟩
      have HP := Lw.hid hp
      clear hp
      go_wp2_with fail
      obtain ⟨γ', hi', hr'⟩ := HI.out.call HP.out (j := 8) (by simp [lW, d4, d8, d11])
      exact hK _ γ' _ hi' hr' rfl
    refine gsteps_cons (fun D γ a' w' hI hD0 hdep hcl hag hlt hf K hK => ?_) ?_
    · have s1 := hag.same 1 (by decide)
      clear hlt
      clear hag
      go_wp2_with fail
      exact hK _ _ _ (hI.pure (Kept.refl _ _) rfl) (wR.pure (Kept.refl _ _)) rfl
    refine gsteps_cons (fun D γ a' w' hI hD0 hdep hcl hag hlt hf K hK => ?_) ?_
    · obtain ⟨⟨_, h9, rfl⟩, -⟩ : SFacts _ _ a' w' [9] := hf
      clear hlt
      clear hag
      have c2 := heap_cell (hI.kept.heap HRB.out (fun h => h)) 2
      go_wp2_with fail
      exact hK _ _ _ (hI.pure (Kept.refl _ _) rfl) (wR.pure (Kept.refl _ _)) rfl
    refine gsteps_cons (fun D γ a' w' hI hD0 hdep hcl hag hlt hf K hK => ?_) ?_
    · obtain ⟨⟨_, h8, rfl⟩, ⟨_, h10, rfl⟩, -⟩ : SFacts _ _ a' w' [8, 10] := hf
      clear hlt
      clear hag
      have HI := Lw.hid hI
      clear hI
      go_wp2_with fail
      have d8 : D 8 = true := hdep 8 (by decide)
      have d4 : D 4 = true := hcl 8 _ rfl d8 4 (by decide)
      have d11 : D 11 = false := hD0
      have hw := HI.out.wr
      rw [show lW ([2] ++ be 4 id) [(4, [3]), (8, be 4 off), (11, be 2 t.length ++ t)] D = [2] ++ be 4 id ++ ([3]) ++ (be 4 off) by simp [lW, d4, d8, d11]] at hw
      have HWW := Lw.hid hw
      clear hw
      refine (text_any w' bw γ _ (BA t) (by rw [hbt]; omega) HWW.out (by simp [be_length])).mono ?_
      rintro e w7 ⟨rfl, hp⟩
      have HP := Lw.hid hp
      clear hp
      go_wp2_with fail
      obtain ⟨γ', hi', hr'⟩ := HI.out.call HP.out (j := 11) (by simp [lW, d4, d8, d11]; rw [hbt]; rfl)
      exact hK _ γ' _ hi' hr' rfl
    exact trivial
  · intro vs γ wz hI hvs
    have q0 : vs 0 = (.pointer (some ⟨r, 3, none⟩)) := hvs 0 _ _ rfl rfl
    have q1 : vs 1 = (.int .i64 3) := hvs 1 _ _ rfl rfl
    have q2 : vs 2 = (.int .u8 3) := hvs 2 _ _ rfl rfl
    have q3 := hvs 3 _ _ rfl rfl
    have q4 : vs 4 = (.pointer (some ⟨bw, 0, none⟩)) := hvs 4 _ _ rfl rfl
    have q5 : vs 5 = (.pointer (some ⟨r, 4, none⟩)) := hvs 5 _ _ rfl rfl
    have q6 : vs 6 = (.int .i64 (off : Int)) := hvs 6 _ _ rfl rfl
    have q7 : vs 7 = (.int .u32 (off : Int)) := hvs 7 _ _ rfl rfl
    have q8 : vs 8 = (.pointer (some ⟨bw, 0, none⟩)) := hvs 8 _ _ rfl rfl
    have q9 : vs 9 = (.pointer (some ⟨r, 2, none⟩)) := hvs 9 _ _ rfl rfl
    have q10 : vs 10 = (.string (BA t)) := hvs 10 _ _ rfl rfl
    have q11 : vs 11 = (.pointer (some ⟨bw, 0, none⟩)) := hvs 11 _ _ rfl rfl
    clear hvs
    simp only [List.take_succ_cons, List.take_zero, List.drop_succ_cons, List.drop_zero, putAll, Act.put, List.setIfInBounds_toArray, List.set_cons_zero, List.set_cons_succ, Nat.reduceAdd, q0, q1, q2, q4, q5, q6, q7, q8, q9, q10, q11]
    clear q0 q1 q2 q4 q5 q6 q7 q8 q9 q10 q11
    generalize vs 3 = x3 at *
    have WIX : WI w1 bw ([2] ++ be 4 id ++ ([3]) ++ (be 4 off) ++ (be 2 t.length ++ t)) [] (fun _ => false) γ wz := ⟨hI.kept, hI.wr, hI.lo, hI.fr⟩
    have WI6 := Lw.hid WIX
    clear hI WIX q3
    go_wp2_with fail
    refine (done_any wz bw γ _ WI6.out.wr (by simp [lW, be_length]; omega)).mono ?_
    rintro e w8 ⟨rr, rfl, γ8, hw8, k8, f8, ho8, hb8⟩
    have HO8 := Lw.hid ho8; have HB8 := Lw.hid hb8
    have K8 : Hid (Kept (fun _ => False) w w8) := Lw.hid ((K1.out.trans WI6.out.kept (fun _ _ h => h)).trans k8 (fun i hi hk => by
      have hz := K1.out.size
      rcases hk with h | h
      · have := WI6.out.lo; omega
      · have := WI6.out.fr i h; omega))
    have hz8 := WI6.out.kept.size; have hz1 := K1.out.size
    clear hw8 k8 f8 ho8 hb8
    go_wp2_with fail
    go_ret
    exact ⟨rr, rfl, ⟨HO8.out, fun k hk => by have := (HB8.out k hk).1; omega⟩, K8.out⟩
set_option maxHeartbeats 8000000 in
theorem bytes4_any (w : World) (G : Nat → Prop) (q : Nat) (id num : Nat) (o : Option (List UInt8)) (hs : StAt w G q (num : Int) o) (t : List UInt8) (ch off : Int) (a b d : Int) (hid : id < 4294967296) (hnum : num < 256) (ho : ∀ t, o = some t → t.length ≤ 4096) :
    Calls Tryz.prog 76 #[rv 4 id t ch off num (some ⟨q, 0, none⟩) a b d] w fun e w' => BPost w w' e (recB4 id num o) := by
  unfold rv
  have HS := Lw.hid hs
  clear hs
  have hsl : (stateB num o).length ≤ 5000 := stateB_len num o ho
  obtain ⟨w1, hw1⟩ : ∃ w1, w.alloc (.cells #[.int .u8 4, .int .u32 (id : Int), .string (BA t), .int .i64 ch, .int .i64 off, .int .i64 (num : Int), .pointer (some ⟨q, 0, none⟩), .int .u32 a, .int .u32 b, .int .u32 d] 69) = w1 := ⟨_, rfl⟩
  obtain ⟨r, hr⟩ : ∃ r, w.heap.size = r := ⟨_, rfl⟩
  have K1 : Hid (Kept (fun _ => False) w w1) := Lw.hid (by rw [← hw1]; exact (Kept.refl _ w).alloc _)
  have HRB : Hid (w1.heap[r]? = some (.cells #[.int .u8 4, .int .u32 (id : Int), .string (BA t), .int .i64 ch, .int .i64 off, .int .i64 (num : Int), .pointer (some ⟨q, 0, none⟩), .int .u32 a, .int .u32 b, .int .u32 d] 69 (0, 0))) := Lw.hid (by rw [← hw1, ← hr]; exact heap_alloc w _)
  have hz1 : w1.heap.size = w.heap.size + 1 := by rw [← hw1]; simp
  have HW1 := Lw.hid hw1; have HR := Lw.hid hr
  obtain ⟨w2, hw2⟩ : ∃ w2, w1.alloc (.cells #[.slice none 0 0, .int .i64 0] 86) = w2 := ⟨_, rfl⟩
  obtain ⟨bw, hbw⟩ : ∃ bw, w1.heap.size = bw := ⟨_, rfl⟩
  have hbr : w.heap.size + 1 = bw := by omega
  have HW2 := Lw.hid hw2; have HBW := Lw.hid hbw; have HBR := Lw.hid hbr
  have WI0 : Hid (WI w1 bw [] [] (fun _ => false) (.slice none 0 0) w2) := Lw.hid ⟨by rw [← hw2]; exact (Kept.refl _ w1).alloc _, by rw [← hw2, ← hbw]; exact ⟨⟨_, heap_alloc _ _⟩, World.ownsRow_nil _ _ _ _, fun h => blk_none h⟩, by omega, fun k h => (blk_none h).elim⟩
  clear hw1 hr hw2 hbw hbr hz1
  go_enter Tryz.func76, Tryz.ntmps76
  go_wp2_with fail
  rw [HW1.out]
  rw [HW2.out]
  obtain ⟨w3, hw3⟩ : ∃ w3, w2.alloc (.cells #[.int .u8 4] 5) = w3 := ⟨_, rfl⟩
  have k3 : Kept (fun _ => False) w2 w3 := by rw [← hw3]; exact (Kept.refl _ w2).alloc _
  have WI3 := Lw.hid (WI0.out.same k3)
  have rd3 : RdB w3 (.slice (some ⟨w2.heap.size, 0, none⟩) 1 1) [4] := by rw [← hw3]; exact RdB.lit w2 [4] _ 1 rfl (by unfold maxLen; omega)
  have hs2 : w2.heap.size = bw + 1 := by rw [← HW2.out, ← HBW.out]; simp
  rw [hs2] at rd3
  have RD3 := Lw.hid rd3
  rw [hw3, HBR.out, HR.out]
  clear hw3 k3 rd3 hs2
  refine (byte_any w3 bw _ [] _ [4] WI3.out.wr RD3.out (by simp)).mono ?_
  rintro e w4 ⟨rfl, hp⟩
  obtain ⟨γ4, hi4⟩ := WI3.out.step hp
  have WI4 := Lw.hid hi4
  have c0 := heap_cell (hi4.kept.heap HRB.out (fun h => h)) 0
  have c1 := heap_cell (hi4.kept.heap HRB.out (fun h => h)) 1
  clear hp hi4
  go_wp2_with fail
  refine (four_any w4 bw γ4 _ _ id rfl hid WI4.out.wr (by simp [lW])).mono ?_
  rintro e w5 ⟨rfl, hp⟩
  obtain ⟨γ5, hi5⟩ := WI4.out.step hp
  have WI5 := Lw.hid hi5
  have d0 := heap_cell (hi5.kept.heap HRB.out (fun h => h)) 0
  clear hp hi5 c0 c1
  go_wp2_with fail
  refine wp_region_set 9 (WI w1 bw ([4] ++ be 4 id) [(4, [UInt8.ofNat num]), (8, stateB num o)]) (wR bw) [gV (.pointer (some ⟨r, 5, none⟩)), gV (.int .i64 (num : Int)), gV (.int .u8 (num : Int)), wRow bw [UInt8.ofNat num], gV (.pointer (some ⟨bw, 0, none⟩)), gV (.pointer (some ⟨r, 6, none⟩)), gV (.pointer (some ⟨q, 0, none⟩)), wRow bw (stateB num o), gV (.pointer (some ⟨bw, 0, none⟩))] (γ5) (by kernel_rfl) (by kernel_rfl) ((WI5.out.arm [(4, [UInt8.ofNat num]), (8, stateB num o)]).same ((Kept.refl _ _).drew)) ?_ ?_
  · refine gsteps_cons (fun D γ a' w' hI hD0 hdep hcl hag hlt hf K hK => ?_) ?_
    · have s1 := hag.same 1 (by decide)
      clear hlt
      clear hag
      go_wp2_with fail
      exact hK _ _ _ (hI.pure (Kept.refl _ _) rfl) (wR.pure (Kept.refl _ _)) rfl
    refine gsteps_cons (fun D γ a' w' hI hD0 hdep hcl hag hlt hf K hK => ?_) ?_
    · obtain ⟨⟨_, h0, rfl⟩, -⟩ : SFacts _ _ a' w' [0] := hf
      clear hlt
      clear hag
      have c5 := heap_cell (hI.kept.heap HRB.out (fun h => h)) 5
      go_wp2_with fail
      exact hK _ _ _ (hI.pure (Kept.refl _ _) rfl) (wR.pure (Kept.refl _ _)) rfl
    refine gsteps_cons (fun D γ a' w' hI hD0 hdep hcl hag hlt hf K hK => ?_) ?_
    · obtain ⟨⟨_, h1, rfl⟩, -⟩ : SFacts _ _ a' w' [1] := hf
      clear hlt
      clear hag
      go_wp2_with fail
      exact hK _ _ _ (hI.pure (Kept.refl _ _) rfl) (wR.pure (Kept.refl _ _)) rfl
    refine gsteps_cons (fun D γ a' w' hI hD0 hdep hcl hag hlt hf K hK => ?_) ?_
    · obtain ⟨⟨_, h2, rfl⟩, -⟩ : SFacts _ _ a' w' [2] := hf
      clear hlt
      clear hag
      have HI := Lw.hid hI
      clear hI
      go_wp2_with fail
      have k5 : Kept (fun _ => False) w' (w'.alloc (.cells #[.int .u8 (num : Int)] 5)) := (Kept.refl _ w').alloc _
      have hbl : bw < w'.heap.size := by obtain ⟨T, hT⟩ := HI.out.wr.1; exact heap_lt hT
      have hgl := own_lt HI.out.wr.2.1
      exact hK _ _ _ (HI.out.pure k5 rfl) (wR.pure k5) ⟨by
          have e : #[Value.int .u8 (num : Int)] = (([UInt8.ofNat num] : List UInt8).map bv).toArray := by simp [bv, UInt8.toNat_ofNat', Nat.mod_eq_of_lt hnum]
          rw [e]
          exact RdB.lit w' [UInt8.ofNat num] _ 1 rfl (by unfold maxLen; omega), fun k hk => by
          have e : k = w'.heap.size := blk_some hk
          rw [e]
          exact ⟨by omega, fun h => by have := hgl _ h; omega, by simp⟩⟩
    refine gsteps_cons (fun D γ a' w' hI hD0 hdep hcl hag hlt hf K hK => ?_) ?_
    · obtain ⟨⟨v3, h3, e3⟩, -⟩ : SFacts _ _ a' w' [3] := hf
      have s3 := hag.same 3 (by decide)
      clear hlt
      clear hag
      obtain ⟨hr1, hr2⟩ := e3
      have HRW := Lw.hid hr1
      clear hr1 hr2
      have HI := Lw.hid hI
      clear hI
      go_wp2_with fail
      have d4 : D 4 = false := hD0
      have d8 : D 8 = false := by cases hx : D 8 with | false => rfl | true => exact absurd (hcl 8 _ rfl hx 4 (by decide)) (by rw [d4]; decide)
      have hw := HI.out.wr
      rw [show lW ([4] ++ be 4 id) [(4, [UInt8.ofNat num]), (8, stateB num o)] D = [4] ++ be 4 id by simp [lW, d4, d8]] at hw
      have HWW := Lw.hid hw
      clear hw
      refine (byte_any w' bw γ _ _ [UInt8.ofNat num] HWW.out HRW.out (by simp [be_length])).mono ?_
      rintro e w7 ⟨rfl, hp⟩
      have HP := Lw.hid hp
      clear hp
      go_wp2_with fail
      obtain ⟨γ', hi', hr'⟩ := HI.out.call HP.out (j := 4) (by simp [lW, d4, d8])
      exact hK _ γ' _ hi' hr' rfl
    refine gsteps_cons (fun D γ a' w' hI hD0 hdep hcl hag hlt hf K hK => ?_) ?_
    · have s1 := hag.same 1 (by decide)
      clear hlt
      clear hag
      go_wp2_with fail
      exact hK _ _ _ (hI.pure (Kept.refl _ _) rfl) (wR.pure (Kept.refl _ _)) rfl
    refine gsteps_cons (fun D γ a' w' hI hD0 hdep hcl hag hlt hf K hK => ?_) ?_
    · obtain ⟨⟨_, h5, rfl⟩, -⟩ : SFacts _ _ a' w' [5] := hf
      clear hlt
      clear hag
      have c6 := heap_cell (hI.kept.heap HRB.out (fun h => h)) 6
      go_wp2_with fail
      exact hK _ _ _ (hI.pure (Kept.refl _ _) rfl) (wR.pure (Kept.refl _ _)) rfl
    refine gsteps_cons (fun D γ a' w' hI hD0 hdep hcl hag hlt hf K hK => ?_) ?_
    · obtain ⟨⟨_, h6, rfl⟩, -⟩ : SFacts _ _ a' w' [6, 4] := hf
      clear hlt
      clear hag
      have HI := Lw.hid hI
      clear hI
      go_wp2_with fail
      have hbl : bw < w'.heap.size := by obtain ⟨T, hT⟩ := HI.out.wr.1; exact heap_lt hT
      have hgl := own_lt HI.out.wr.2.1
      refine (sbytes_any w' G q num o ((HS.out.kept K1.out (fun _ _ h => h)).kept HI.out.kept (fun _ _ h => h)) hnum ho).mono ?_
      rintro e w7 ⟨vs7, rfl, ⟨ho7, hb7⟩, k7⟩
      have HO7 := Lw.hid ho7; have HB7 := Lw.hid hb7; have K7 := Lw.hid k7
      clear ho7 hb7 k7
      go_wp2_with fail
      exact hK _ _ _ (HI.out.pure K7.out rfl) (wR.pure K7.out) ⟨RdB.of_own HO7.out rfl, fun k hk => by have h1 := HB7.out k hk; exact ⟨by omega, fun h => by have := hgl _ h; omega, own_lt HO7.out k hk⟩⟩
    refine gsteps_cons (fun D γ a' w' hI hD0 hdep hcl hag hlt hf K hK => ?_) ?_
    · obtain ⟨⟨_, h4, rfl⟩, ⟨v7, h7, e7⟩, -⟩ : SFacts _ _ a' w' [4, 7] := hf
      clear hlt
      clear hag
      obtain ⟨hr1, hr2⟩ := e7
      have HRW := Lw.hid hr1
      clear hr1 hr2
      have HI := Lw.hid hI
      clear hI
      go_wp2_with fail
      have d4 : D 4 = true := hdep 4 (by decide)
      have d8 : D 8 = false := hD0
      have hw := HI.out.wr
      rw [show lW ([4] ++ be 4 id) [(4, [UInt8.ofNat num]), (8, stateB num o)] D = [4] ++ be 4 id ++ ([UInt8.ofNat num]) by simp [lW, d4, d8]] at hw
      have HWW := Lw.hid hw
      clear hw
      refine (byte_any w' bw γ _ _ (stateB num o) HWW.out HRW.out (by simp [be_length]; omega)).mono ?_
      rintro e w7 ⟨rfl, hp⟩
      have HP := Lw.hid hp
      clear hp
      go_wp2_with fail
      obtain ⟨γ', hi', hr'⟩ := HI.out.call HP.out (j := 8) (by simp [lW, d4, d8])
      exact hK _ γ' _ hi' hr' rfl
    exact trivial
  · intro vs γ wz hI hvs
    have q0 : vs 0 = (.pointer (some ⟨r, 5, none⟩)) := hvs 0 _ _ rfl rfl
    have q1 : vs 1 = (.int .i64 (num : Int)) := hvs 1 _ _ rfl rfl
    have q2 : vs 2 = (.int .u8 (num : Int)) := hvs 2 _ _ rfl rfl
    have q3 := hvs 3 _ _ rfl rfl
    have q4 : vs 4 = (.pointer (some ⟨bw, 0, none⟩)) := hvs 4 _ _ rfl rfl
    have q5 : vs 5 = (.pointer (some ⟨r, 6, none⟩)) := hvs 5 _ _ rfl rfl
    have q6 : vs 6 = (.pointer (some ⟨q, 0, none⟩)) := hvs 6 _ _ rfl rfl
    have q7 := hvs 7 _ _ rfl rfl
    have q8 : vs 8 = (.pointer (some ⟨bw, 0, none⟩)) := hvs 8 _ _ rfl rfl
    clear hvs
    simp only [List.take_succ_cons, List.take_zero, List.drop_succ_cons, List.drop_zero, putAll, Act.put, List.setIfInBounds_toArray, List.set_cons_zero, List.set_cons_succ, Nat.reduceAdd, q0, q1, q2, q4, q5, q6, q8]
    clear q0 q1 q2 q4 q5 q6 q8
    generalize vs 3 = x3 at *
    generalize vs 7 = x7 at *
    have WIX : WI w1 bw ([4] ++ be 4 id ++ ([UInt8.ofNat num]) ++ (stateB num o)) [] (fun _ => false) γ wz := ⟨hI.kept, hI.wr, hI.lo, hI.fr⟩
    have WI6 := Lw.hid WIX
    clear hI WIX q3 q7
    go_wp2_with fail
    refine (done_any wz bw γ _ WI6.out.wr (by simp [lW, be_length]; omega)).mono ?_
    rintro e w8 ⟨rr, rfl, γ8, hw8, k8, f8, ho8, hb8⟩
    have HO8 := Lw.hid ho8; have HB8 := Lw.hid hb8
    have K8 : Hid (Kept (fun _ => False) w w8) := Lw.hid ((K1.out.trans WI6.out.kept (fun _ _ h => h)).trans k8 (fun i hi hk => by
      have hz := K1.out.size
      rcases hk with h | h
      · have := WI6.out.lo; omega
      · have := WI6.out.fr i h; omega))
    have hz8 := WI6.out.kept.size; have hz1 := K1.out.size
    clear hw8 k8 f8 ho8 hb8
    go_wp2_with fail
    go_ret
    exact ⟨rr, rfl, ⟨HO8.out, fun k hk => by have := (HB8.out k hk).1; omega⟩, K8.out⟩
end Go.Proofs.YtgegjjnfcnalfaaGreatDoor
