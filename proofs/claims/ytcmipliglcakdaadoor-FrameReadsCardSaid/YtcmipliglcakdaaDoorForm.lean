/- A piece's form, by the document: the walk of 'form'. -/
import Derived.Test.YtcmipliglcakdaaDoorLay
import Derived.StillTailTactics
namespace Go.Proofs.YtcmipliglcakdaaDoor
open Go Go.RowKit Go.Lw
set_option maxRecDepth 100000
set_option maxHeartbeats 1000000 in
theorem form1 (w : World) (n : Nat) (text : ByteArray) (hn : n < 18446744073709551616) :
    Calls Tryd.prog 19 #[.agg #[.int .i64 1, .int .u64 (n : Int), .string text]] w fun e w' => ∃ v, e = .returned v ∧ RdB w' v (be 1 n) ∧ Kept (fun _ => False) w w' := by
  have hsh : ∀ w, (Op.shift BinOp.shl IntKind.i64 1 IntKind.i64 (IntKind.i64.wrap 0)).run Tryd.prog w = .ok (.int .i64 1) w := fun _ => by kernel_rfl
  go_enter Tryd.func19, Tryd.ntmps19
  go_wp2_with fail
  refine wp_still_tail 6 (by kernel_rfl) (by kernel_rfl) ?_
  simp only [List.take_succ_cons, List.take_zero, List.drop_succ_cons, List.drop_zero]
  repeat still_step
  refine wpStill_nil ?_
  go_wp2_with fail
  refine (number_any _ n 1 hn (by omega)).mono ?_
  rintro e w1 ⟨v, rfl, ho, hk, hb⟩
  have HO := Lw.hid (RdB.of_own ho (be_length _ _).symm)
  have HK := Lw.hid (((Kept.refl (fun _ => False) w).alloc _).drew.trans hk (fun _ _ h => h))
  clear ho hk hb
  go_wp2_with fail
  go_ret
  exact ⟨_, rfl, HO.out, HK.out⟩
set_option maxHeartbeats 1000000 in
theorem form2 (w : World) (n : Nat) (text : ByteArray) (hn : n < 18446744073709551616) :
    Calls Tryd.prog 19 #[.agg #[.int .i64 2, .int .u64 (n : Int), .string text]] w fun e w' => ∃ v, e = .returned v ∧ RdB w' v (be 2 n) ∧ Kept (fun _ => False) w w' := by
  have hsh : ∀ w, (Op.shift BinOp.shl IntKind.i64 1 IntKind.i64 (IntKind.i64.wrap 1)).run Tryd.prog w = .ok (.int .i64 2) w := fun _ => by kernel_rfl
  go_enter Tryd.func19, Tryd.ntmps19
  go_wp2_with fail
  refine wp_still_tail 6 (by kernel_rfl) (by kernel_rfl) ?_
  simp only [List.take_succ_cons, List.take_zero, List.drop_succ_cons, List.drop_zero]
  repeat still_step
  refine wpStill_nil ?_
  go_wp2_with fail
  refine (number_any _ n 2 hn (by omega)).mono ?_
  rintro e w1 ⟨v, rfl, ho, hk, hb⟩
  have HO := Lw.hid (RdB.of_own ho (be_length _ _).symm)
  have HK := Lw.hid (((Kept.refl (fun _ => False) w).alloc _).drew.trans hk (fun _ _ h => h))
  clear ho hk hb
  go_wp2_with fail
  go_ret
  exact ⟨_, rfl, HO.out, HK.out⟩
set_option maxHeartbeats 1000000 in
theorem form3 (w : World) (n : Nat) (text : ByteArray) (hn : n < 18446744073709551616) :
    Calls Tryd.prog 19 #[.agg #[.int .i64 3, .int .u64 (n : Int), .string text]] w fun e w' => ∃ v, e = .returned v ∧ RdB w' v (be 4 n) ∧ Kept (fun _ => False) w w' := by
  have hsh : ∀ w, (Op.shift BinOp.shl IntKind.i64 1 IntKind.i64 (IntKind.i64.wrap 2)).run Tryd.prog w = .ok (.int .i64 4) w := fun _ => by kernel_rfl
  go_enter Tryd.func19, Tryd.ntmps19
  go_wp2_with fail
  refine wp_still_tail 6 (by kernel_rfl) (by kernel_rfl) ?_
  simp only [List.take_succ_cons, List.take_zero, List.drop_succ_cons, List.drop_zero]
  repeat still_step
  refine wpStill_nil ?_
  go_wp2_with fail
  refine (number_any _ n 4 hn (by omega)).mono ?_
  rintro e w1 ⟨v, rfl, ho, hk, hb⟩
  have HO := Lw.hid (RdB.of_own ho (be_length _ _).symm)
  have HK := Lw.hid (((Kept.refl (fun _ => False) w).alloc _).drew.trans hk (fun _ _ h => h))
  clear ho hk hb
  go_wp2_with fail
  go_ret
  exact ⟨_, rfl, HO.out, HK.out⟩
set_option maxHeartbeats 1000000 in
theorem form4 (w : World) (n : Nat) (text : ByteArray) (hn : n < 18446744073709551616) :
    Calls Tryd.prog 19 #[.agg #[.int .i64 4, .int .u64 (n : Int), .string text]] w fun e w' => ∃ v, e = .returned v ∧ RdB w' v (be 8 n) ∧ Kept (fun _ => False) w w' := by
  have hsh : ∀ w, (Op.shift BinOp.shl IntKind.i64 1 IntKind.i64 (IntKind.i64.wrap 3)).run Tryd.prog w = .ok (.int .i64 8) w := fun _ => by kernel_rfl
  go_enter Tryd.func19, Tryd.ntmps19
  go_wp2_with fail
  refine wp_still_tail 6 (by kernel_rfl) (by kernel_rfl) ?_
  simp only [List.take_succ_cons, List.take_zero, List.drop_succ_cons, List.drop_zero]
  repeat still_step
  refine wpStill_nil ?_
  go_wp2_with fail
  refine (number_any _ n 8 hn (by omega)).mono ?_
  rintro e w1 ⟨v, rfl, ho, hk, hb⟩
  have HO := Lw.hid (RdB.of_own ho (be_length _ _).symm)
  have HK := Lw.hid (((Kept.refl (fun _ => False) w).alloc _).drew.trans hk (fun _ _ h => h))
  clear ho hk hb
  go_wp2_with fail
  go_ret
  exact ⟨_, rfl, HO.out, HK.out⟩
set_option maxHeartbeats 1000000 in
theorem form5 (w : World) (n : Nat) (text : ByteArray) (ht : text.size ≤ 100) :
    Calls Tryd.prog 19 #[.agg #[.int .i64 5, .int .u64 (n : Int), .string text]] w fun e w' => ∃ v, e = .returned v ∧ RdB w' v (be 2 text.size ++ text.data.toList) ∧ Kept (fun _ => False) w w' := by
  go_enter Tryd.func19, Tryd.ntmps19
  go_wp2_with fail
  refine (refText_any _ text (by omega)).mono ?_
  rintro e w1 ⟨v, rfl, ho, hk, hb⟩
  have HO := Lw.hid (RdB.of_own ho rfl)
  have HK := Lw.hid (((Kept.refl (fun _ => False) w).alloc _).trans hk (fun _ _ h => h))
  clear ho hk hb
  go_wp2_with fail
  go_ret
  exact ⟨_, rfl, HO.out, HK.out⟩
set_option maxHeartbeats 1000000 in
theorem form0 (w : World) (what : Int) (n : Nat) (text : ByteArray) (ht : text.size ≤ 100) (h1 : (what == 1) = false) (h2 : (what == 2) = false) (h3 : (what == 3) = false) (h4 : (what == 4) = false) (h5 : (what == 5) = false) :
    Calls Tryd.prog 19 #[.agg #[.int .i64 what, .int .u64 (n : Int), .string text]] w fun e w' => ∃ v, e = .returned v ∧ RdB w' v text.data.toList ∧ Kept (fun _ => False) w w' := by
  go_enter Tryd.func19, Tryd.ntmps19
  go_wp2_with (refine wpList_bytes rfl _ _ _ rfl text rfl Tryd.underlying9 Tryd.underlying22 Tryd.underlying5 (by unfold maxLen; omega) ?_; intro g cap w3 hg hrow hrd hk3 hz)
  go_ret
  exact ⟨_, rfl, hrd, ((Kept.refl (fun _ => False) w).alloc _).trans hk3 (fun _ _ h => h)⟩
theorem form_any (w : World) (p : Piece) (hp : p.ok) (ht : p.text.size ≤ 100) :
    Calls Tryd.prog 19 #[p.val] w fun e w' => ∃ v, e = .returned v ∧ RdB w' v p.form ∧ Kept (fun _ => False) w w' := by
  obtain ⟨what, n, text⟩ := p
  obtain ⟨_, _, hn, hts⟩ := hp
  simp only at hn hts ht
  by_cases h1 : what = 1
  · subst h1; exact form1 w n text hn
  by_cases h2 : what = 2
  · subst h2; exact form2 w n text hn
  by_cases h3 : what = 3
  · subst h3; exact form3 w n text hn
  by_cases h4 : what = 4
  · subst h4; exact form4 w n text hn
  by_cases h5 : what = 5
  · subst h5; exact form5 w n text ht
  have e : Piece.form ⟨what, n, text⟩ = text.data.toList := by simp [Piece.form, h1, h2, h3, h4, h5]
  rw [e]
  exact form0 w what n text ht (ne_false h1) (ne_false h2) (ne_false h3) (ne_false h4) (ne_false h5)
end Go.Proofs.YtcmipliglcakdaaDoor
