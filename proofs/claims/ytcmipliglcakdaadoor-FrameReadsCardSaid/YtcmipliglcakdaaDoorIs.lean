/- A piece is read as it was laid? ('is'): the walk. -/
import Derived.Test.YtcmipliglcakdaaDoorReader
import Derived.Test.YtcmipliglcakdaaDoorLaysW
import Derived.Deep.RegionHeld3
namespace Go.Proofs.YtcmipliglcakdaaDoor
open Go Go.RowKit Go.Lw
set_option maxRecDepth 100000
/-- What a reading of a piece tells, and leaves. -/
def Piece.isL (p : Piece) (r : Rdr) : Bool × Rdr :=
  if p.what = 1 then ((r.num 1).1 == p.n % 256, (r.num 1).2) else if p.what = 2 then ((r.num 2).1 == p.n % 65536, (r.num 2).2) else if p.what = 3 then ((r.num 4).1 == p.n % 4294967296, (r.num 4).2)
  else if p.what = 4 then ((r.num 8).1 == p.n, (r.num 8).2) else if p.what = 5 then (r.text.1 == p.text.data.toList, r.text.2) else ((r.take p.text.size).1 == p.text.data.toList, (r.take p.text.size).2)
set_option maxHeartbeats 1000000 in
theorem is1 (w : World) (br : Nat) (v : Value) (r : Rdr) (n : Nat) (text : ByteArray) (h : ReaderAt w br v r) (b : Bool) (hb : ((r.num 1).1 == n % 256) = b) :
    Calls Tryd.prog 48 #[.pointer (some ⟨br, 0, none⟩), .agg #[.int .i64 1, .int .u64 (n : Int), .string text]] w fun e w' => e = .returned (.bool b) ∧ RdPost w w' br v (r.num 1).2 := by
  have HK := Lw.hid ((Kept.refl (fun _ => False) w).alloc (.cells #[.int .i64 1, .int .u64 (n : Int), .string text] 35))
  have H := Lw.hid (ReaderAt.kept HK.out h (fun h => h) (fun _ _ h => h))
  have HLT := Lw.hid h.lt
  have HB : Hid ((((r.num 1).1 : Int) == IntKind.u8.wrap (n : Int)) = b) := Lw.hid (by rw [← hb, IntKind.wrap_u8, Bool.eq_iff_iff, beq_iff_eq, beq_iff_eq]; omega)
  clear h hb
  go_enter Tryd.func48, Tryd.ntmps48
  go_wp2_with fail
  have hc : (w.alloc (.cells #[.int .i64 1, .int .u64 (n : Int), .string text] 35)).cell? ⟨w.heap.size, 1, none⟩ = some (.int .u64 (n : Int)) := by simp
  generalize w.alloc (.cells #[.int .i64 1, .int .u64 (n : Int), .string text] 35) = wa at *
  go_region_held3 (fun w' => w'.cell? ⟨w.heap.size, 1, none⟩ = some (.int .u64 (n : Int))) (first | exact hk1 | go_keep)
    (first | (go_at_call 34; refine (rbyte_any _ br v r ?_).mono ?_; (exact H.out); rintro e w1 ⟨rfl, hp⟩; have hk1 := rd_cell hp hc (Nat.ne_of_gt HLT.out)))
  have HP := Lw.hid (RdPost.of_kept HK.out (RdPost.of_kept ((Kept.refl (fun _ => False) wa).drew) hp))
  clear hp hk1
  go_wp2_with fail
  go_ret
  exact ⟨by rw [← HB.out]; rfl, HP.out⟩
set_option maxHeartbeats 1000000 in
theorem is2 (w : World) (br : Nat) (v : Value) (r : Rdr) (n : Nat) (text : ByteArray) (h : ReaderAt w br v r) (b : Bool) (hb : ((r.num 2).1 == n % 65536) = b) :
    Calls Tryd.prog 48 #[.pointer (some ⟨br, 0, none⟩), .agg #[.int .i64 2, .int .u64 (n : Int), .string text]] w fun e w' => e = .returned (.bool b) ∧ RdPost w w' br v (r.num 2).2 := by
  have HK := Lw.hid ((Kept.refl (fun _ => False) w).alloc (.cells #[.int .i64 2, .int .u64 (n : Int), .string text] 35))
  have H := Lw.hid (ReaderAt.kept HK.out h (fun h => h) (fun _ _ h => h))
  have HLT := Lw.hid h.lt
  have HB : Hid ((((r.num 2).1 : Int) == IntKind.u16.wrap (n : Int)) = b) := Lw.hid (by rw [← hb, IntKind.wrap_u16, Bool.eq_iff_iff, beq_iff_eq, beq_iff_eq]; omega)
  clear h hb
  go_enter Tryd.func48, Tryd.ntmps48
  go_wp2_with fail
  have hc : (w.alloc (.cells #[.int .i64 2, .int .u64 (n : Int), .string text] 35)).cell? ⟨w.heap.size, 1, none⟩ = some (.int .u64 (n : Int)) := by simp
  generalize w.alloc (.cells #[.int .i64 2, .int .u64 (n : Int), .string text] 35) = wa at *
  go_region_held3 (fun w' => w'.cell? ⟨w.heap.size, 1, none⟩ = some (.int .u64 (n : Int))) (first | exact hk1 | go_keep)
    (first | (go_at_call 36; refine (rtwo_any _ br v r ?_).mono ?_; (exact H.out); rintro e w1 ⟨rfl, hp⟩; have hk1 := rd_cell hp hc (Nat.ne_of_gt HLT.out)))
  have HP := Lw.hid (RdPost.of_kept HK.out (RdPost.of_kept ((Kept.refl (fun _ => False) wa).drew) hp))
  clear hp hk1
  go_wp2_with fail
  go_ret
  exact ⟨by rw [← HB.out]; rfl, HP.out⟩
set_option maxHeartbeats 1000000 in
theorem is3 (w : World) (br : Nat) (v : Value) (r : Rdr) (n : Nat) (text : ByteArray) (h : ReaderAt w br v r) (b : Bool) (hb : ((r.num 4).1 == n % 4294967296) = b) :
    Calls Tryd.prog 48 #[.pointer (some ⟨br, 0, none⟩), .agg #[.int .i64 3, .int .u64 (n : Int), .string text]] w fun e w' => e = .returned (.bool b) ∧ RdPost w w' br v (r.num 4).2 := by
  have HK := Lw.hid ((Kept.refl (fun _ => False) w).alloc (.cells #[.int .i64 3, .int .u64 (n : Int), .string text] 35))
  have H := Lw.hid (ReaderAt.kept HK.out h (fun h => h) (fun _ _ h => h))
  have HLT := Lw.hid h.lt
  have HB : Hid ((((r.num 4).1 : Int) == IntKind.u32.wrap (n : Int)) = b) := Lw.hid (by rw [← hb, IntKind.wrap_u32, Bool.eq_iff_iff, beq_iff_eq, beq_iff_eq]; omega)
  clear h hb
  go_enter Tryd.func48, Tryd.ntmps48
  go_wp2_with fail
  have hc : (w.alloc (.cells #[.int .i64 3, .int .u64 (n : Int), .string text] 35)).cell? ⟨w.heap.size, 1, none⟩ = some (.int .u64 (n : Int)) := by simp
  generalize w.alloc (.cells #[.int .i64 3, .int .u64 (n : Int), .string text] 35) = wa at *
  go_region_held3 (fun w' => w'.cell? ⟨w.heap.size, 1, none⟩ = some (.int .u64 (n : Int))) (first | exact hk1 | go_keep)
    (first | (go_at_call 37; refine (rfour_any _ br v r ?_).mono ?_; (exact H.out); rintro e w1 ⟨rfl, hp⟩; have hk1 := rd_cell hp hc (Nat.ne_of_gt HLT.out)))
  have HP := Lw.hid (RdPost.of_kept HK.out (RdPost.of_kept ((Kept.refl (fun _ => False) wa).drew) hp))
  clear hp hk1
  go_wp2_with fail
  go_ret
  exact ⟨by rw [← HB.out]; rfl, HP.out⟩
set_option maxHeartbeats 1000000 in
theorem is4 (w : World) (br : Nat) (v : Value) (r : Rdr) (n : Nat) (text : ByteArray) (h : ReaderAt w br v r) (b : Bool) (hb : ((r.num 8).1 == n) = b) :
    Calls Tryd.prog 48 #[.pointer (some ⟨br, 0, none⟩), .agg #[.int .i64 4, .int .u64 (n : Int), .string text]] w fun e w' => e = .returned (.bool b) ∧ RdPost w w' br v (r.num 8).2 := by
  have HK := Lw.hid ((Kept.refl (fun _ => False) w).alloc (.cells #[.int .i64 4, .int .u64 (n : Int), .string text] 35))
  have H := Lw.hid (ReaderAt.kept HK.out h (fun h => h) (fun _ _ h => h))
  have HLT := Lw.hid h.lt
  have HB : Hid ((((r.num 8).1 : Int) == (n : Int)) = b) := Lw.hid (by rw [← hb, Bool.eq_iff_iff, beq_iff_eq, beq_iff_eq]; omega)
  clear h hb
  go_enter Tryd.func48, Tryd.ntmps48
  go_wp2_with fail
  have hc : (w.alloc (.cells #[.int .i64 4, .int .u64 (n : Int), .string text] 35)).cell? ⟨w.heap.size, 1, none⟩ = some (.int .u64 (n : Int)) := by simp
  generalize w.alloc (.cells #[.int .i64 4, .int .u64 (n : Int), .string text] 35) = wa at *
  go_region_held3 (fun w' => w'.cell? ⟨w.heap.size, 1, none⟩ = some (.int .u64 (n : Int))) (first | exact hk1 | go_keep)
    (first | (go_at_call 38; refine (reight_any _ br v r ?_).mono ?_; (exact H.out); rintro e w1 ⟨rfl, hp⟩; have hk1 := rd_cell hp hc (Nat.ne_of_gt HLT.out)))
  have HP := Lw.hid (RdPost.of_kept HK.out (RdPost.of_kept ((Kept.refl (fun _ => False) wa).drew) hp))
  clear hp hk1
  go_wp2_with fail
  go_ret
  exact ⟨by rw [← HB.out]; rfl, HP.out⟩
set_option maxHeartbeats 1000000 in
theorem is5 (w : World) (br : Nat) (v : Value) (r : Rdr) (n : Nat) (text : ByteArray) (h : ReaderAt w br v r) (b : Bool) (hb : (r.text.1 == text.data.toList) = b) :
    Calls Tryd.prog 48 #[.pointer (some ⟨br, 0, none⟩), .agg #[.int .i64 5, .int .u64 (n : Int), .string text]] w fun e w' => e = .returned (.bool b) ∧ RdPost w w' br v r.text.2 := by
  have HK := Lw.hid ((Kept.refl (fun _ => False) w).alloc (.cells #[.int .i64 5, .int .u64 (n : Int), .string text] 35))
  have H := Lw.hid (ReaderAt.kept HK.out h (fun h => h) (fun _ _ h => h))
  have HLT := Lw.hid h.lt
  have HB := Lw.hid hb
  clear h hb
  go_enter Tryd.func48, Tryd.ntmps48
  go_wp2_with fail
  have hc : (w.alloc (.cells #[.int .i64 5, .int .u64 (n : Int), .string text] 35)).cell? ⟨w.heap.size, 2, none⟩ = some (.string text) := by simp
  generalize w.alloc (.cells #[.int .i64 5, .int .u64 (n : Int), .string text] 35) = wa at *
  go_region_held3 (fun w' => w'.cell? ⟨w.heap.size, 2, none⟩ = some (.string text)) (first | exact hk1 | go_keep)
    (first | (go_at_call 39; refine (rtext_any _ br v r ?_).mono ?_; (exact H.out); rintro e w1 ⟨rfl, hp⟩; have hk1 := rd_cell hp hc (Nat.ne_of_gt HLT.out)))
  have HP := Lw.hid (RdPost.of_kept HK.out (RdPost.of_kept ((Kept.refl (fun _ => False) wa).drew) hp))
  clear hp hk1
  go_wp2_with fail
  go_ret
  exact ⟨by rw [← HB.out, ← ByteArray.toList_eq]; rfl, HP.out⟩
set_option maxHeartbeats 1000000 in
theorem is0 (w : World) (br : Nat) (v : Value) (r : Rdr) (what : Int) (n : Nat) (text : ByteArray) (ht : text.size ≤ 100) (h1 : (what == 1) = false) (h2 : (what == 2) = false) (h3 : (what == 3) = false) (h4 : (what == 4) = false) (h5 : (what == 5) = false) (h : ReaderAt w br v r) (b : Bool) (hb : ((r.take text.size).1 == text.data.toList) = b) :
    Calls Tryd.prog 48 #[.pointer (some ⟨br, 0, none⟩), .agg #[.int .i64 what, .int .u64 (n : Int), .string text]] w fun e w' => e = .returned (.bool b) ∧ RdPost w w' br v (r.take text.size).2 := by
  have HK := Lw.hid ((Kept.refl (fun _ => False) w).alloc (.cells #[.int .i64 what, .int .u64 (n : Int), .string text] 35))
  have H := Lw.hid (ReaderAt.kept HK.out h (fun h => h) (fun _ _ h => h))
  have HLT := Lw.hid h.lt
  have HB := Lw.hid hb
  clear h hb
  go_enter Tryd.func48, Tryd.ntmps48
  go_wp2_with fail
  have hc : (w.alloc (.cells #[.int .i64 what, .int .u64 (n : Int), .string text] 35)).cell? ⟨w.heap.size, 2, none⟩ = some (.string text) := by simp
  generalize w.alloc (.cells #[.int .i64 what, .int .u64 (n : Int), .string text] 35) = wa at *
  go_region_with (first | (go_at_call 32; refine (take_any _ br v r _ text.size rfl ?_ ?_).mono ?_; (omega); (exact H.out); rintro e w1 ⟨out, rfl, ho, hp, hf⟩; have hk1 := rd_cell hp hc (Nat.ne_of_gt HLT.out); have hcv := run_str (P := Tryd.prog) (src := 22) (dst := 9) ho Tryd.underlying22 Tryd.underlying5 Tryd.underlying9))
  all_goals
    have HP := Lw.hid (RdPost.of_kept HK.out (RdPost.of_kept ((Kept.refl (fun _ => False) wa).drew) hp))
    clear hp
    go_wp2_with fail
    go_ret
    exact ⟨by rw [← HB.out, ← ByteArray.toList_eq]; rfl, HP.out⟩
theorem is_any (w : World) (br : Nat) (v : Value) (r : Rdr) (p : Piece) (ht : p.text.size ≤ 100) (h : ReaderAt w br v r) :
    Calls Tryd.prog 48 #[.pointer (some ⟨br, 0, none⟩), p.val] w fun e w' => e = .returned (.bool (p.isL r).1) ∧ RdPost w w' br v (p.isL r).2 := by
  obtain ⟨what, n, text⟩ := p
  unfold Piece.isL
  by_cases h1 : what = 1
  · subst h1; exact is1 w br v r n text h _ rfl
  by_cases h2 : what = 2
  · subst h2; exact is2 w br v r n text h _ rfl
  by_cases h3 : what = 3
  · subst h3; exact is3 w br v r n text h _ rfl
  by_cases h4 : what = 4
  · subst h4; exact is4 w br v r n text h _ rfl
  by_cases h5 : what = 5
  · subst h5; exact is5 w br v r n text h _ rfl
  simp only [h1, h2, h3, h4, h5, if_false]
  exact is0 w br v r what n text ht (ne_false h1) (ne_false h2) (ne_false h3) (ne_false h4) (ne_false h5) h _ rfl
end Go.Proofs.YtcmipliglcakdaaDoor
