/- The walks of the document's Reader (longwireref01): the same plain reader. -/
import Derived.Test.YtcmipliglcakdaaDoorReader
import Derived.BigQuiet
import Derived.Deep.QuietTactic
namespace Go.Proofs.YtcmipliglcakdaaDoor
open Go Go.RowKit Go.Lw
set_option maxRecDepth 100000
def refRdr (B : List UInt8) (at_ : Nat) (s : Bool) : Rdr := if s then ⟨[], true⟩ else ⟨B.drop at_, false⟩
def RefAt (w : World) (br : Nat) (v : Value) (B : List UInt8) (at_ : Nat) (s : Bool) : Prop :=
  (∃ T, w.heap[br]? = some (.cells #[v, .int .i64 (at_ : Int), .bool s] T (0, 0))) ∧ RdB w v B ∧ (B.length ≠ 0 → ¬ blk v br) ∧ at_ ≤ B.length ∧ B.length ≤ 70368744177664
def RefPost (w w' : World) (br : Nat) (v : Value) (B : List UInt8) (r : Rdr) : Prop :=
  ∃ at_ s, RefAt w' br v B at_ s ∧ refRdr B at_ s = r ∧ Kept (fun k => k = br) w w'
theorem RefAt.kept {S : Nat → Prop} {w w' : World} (hk : Kept S w w') {br at_ : Nat} {v : Value} {B : List UInt8} {s : Bool} (h : RefAt w br v B at_ s) (h1 : ¬ S br) (h2 : B.length ≠ 0 → ∀ g, blk v g → ¬ S g) : RefAt w' br v B at_ s := by
  obtain ⟨⟨T, hh⟩, ho, hd⟩ := h
  exact ⟨⟨T, hk.heap hh h1⟩, ho.keptE hk h2, hd⟩
set_option maxHeartbeats 2000000 in
theorem refTake_any (w : World) (br : Nat) (v : Value) (B : List UInt8) (at_ : Nat) (s : Bool) (x : Int) (hx1 : -9223372036854775808 ≤ x) (hx2 : x ≤ 4611686018427387904) (h : RefAt w br v B at_ s) :
    Calls Tryd.prog 33 #[.pointer (some ⟨br, 0, none⟩), .int .i64 x] w fun e w' => ∃ out, e = .returned out ∧ RdB w' out ((refRdr B at_ s).take x.toNat).1 ∧ RefPost w w' br v B ((refRdr B at_ s).take x.toNat).2 ∧ ∀ k, blk out k → blk v k := by
  have H := Lw.hid h
  obtain ⟨⟨T, hh⟩, hr, hd, hat, hl⟩ := h
  obtain ⟨ad, cap, rfl, hc1, hc2, _⟩ := hr.open
  unfold maxLen at hc2
  have c0 : w.cell? ⟨br, 0, none⟩ = some (.slice ad B.length cap) := heap_cell hh 0
  have c1 : w.cell? ⟨br, 1, none⟩ = some (.int .i64 (at_ : Int)) := heap_cell hh 1
  have c2 : w.cell? ⟨br, 2, none⟩ = some (.bool s) := heap_cell hh 2
  have f1 := heap_free hh 1
  have f2 := heap_free hh 2
  have HH := Lw.hid hh
  have HR := Lw.hid hr
  clear hh hr
  obtain ⟨n, hn⟩ : ∃ n : Nat, x.toNat = n := ⟨_, rfl⟩
  rw [hn]
  have hcases : x < 0 ∧ n = 0 ∨ 0 ≤ x ∧ x = (n : Int) := by omega
  clear hn
  cases s with
  | true =>
    have HT : Hid ((refRdr B at_ true).take n = ([], ⟨[], true⟩)) := Lw.hid rfl
    have HW := Lw.hid (heap_set HH.out 2 (.bool true))
    rcases hcases with ⟨hneg, rfl⟩ | ⟨hpos, rfl⟩
    all_goals
      go_enter Tryd.func33, Tryd.ntmps33
      go_wp2_with fail
      go_region
      go_wp2_with fail
      go_ret
      refine ⟨.slice none 0 0, rfl, by rw [HT.out]; exact RdB.nil _, ?_, fun k h => (blk_none h).elim⟩
      rw [HT.out]
      refine ⟨at_, true, ⟨⟨T, HW.out⟩, RdB.keptE (S := fun k => k = br) ((Kept.refl (fun k => k = br) w).set br 2 (fun _ => rfl) _) HR.out (fun hn k hk e => hd hn (e ▸ hk)), hd, hat, hl⟩, rfl, ((Kept.refl (fun k => k = br) w).set br 2 (fun _ => rfl) _).drew⟩
  | false =>
    by_cases hlt : B.length < n + at_
    · have HT : Hid ((refRdr B at_ false).take n = ([], ⟨[], true⟩)) := Lw.hid (take_out (r := ⟨B.drop at_, false⟩) n rfl (by simp; omega))
      have HW := Lw.hid (heap_set HH.out 2 (.bool true))
      rcases hcases with ⟨hneg, rfl⟩ | ⟨hpos, rfl⟩
      · omega
      have hgt : (B.length : Int) - at_ < n := by omega
      go_enter Tryd.func33, Tryd.ntmps33
      go_wp2_with fail
      go_region
      go_wp2_with fail
      go_ret
      refine ⟨.slice none 0 0, rfl, by rw [HT.out]; exact RdB.nil _, ?_, fun k h => (blk_none h).elim⟩
      rw [HT.out]
      refine ⟨at_, true, ⟨⟨T, HW.out⟩, RdB.keptE (S := fun k => k = br) ((Kept.refl (fun k => k = br) w).set br 2 (fun _ => rfl) _) HR.out (fun hn k hk e => hd hn (e ▸ hk)), hd, hat, hl⟩, rfl, ((Kept.refl (fun k => k = br) w).set br 2 (fun _ => rfl) _).drew⟩
    · have HT : Hid ((refRdr B at_ false).take n = ((B.drop at_).take n, ⟨(B.drop at_).drop n, false⟩)) := Lw.hid (take_in (r := ⟨B.drop at_, false⟩) n rfl (by simp; omega))
      have HW := Lw.hid (heap_set HH.out 1 (.int .i64 ((at_ + n : Nat) : Int)))
      have HK := Lw.hid ((Kept.refl (fun k => k = br) w).set br 1 (fun _ => rfl) (.int .i64 ((at_ + n : Nat) : Int)))
      have HR1 := Lw.hid (RdB.keptE HK.out HR.out (fun hn k hk e => hd hn (e ▸ hk)))
      have c0' := heap_cell HW.out 0
      have c1' := heap_cell HW.out 1
      simp only [show ((at_ + n : Nat) : Int) = (at_ : Int) + n by omega] at HW HK HR1 c0' c1'
      simp at c0' c1'
      have HT2 : Hid (refRdr B (at_ + n) false = ⟨(B.drop at_).drop n, false⟩) := Lw.hid (by simp [refRdr])
      have hsz : (B.drop at_).take (at_ + n - at_) = (B.drop at_).take n := by rw [Nat.add_sub_cancel_left]
      rcases hcases with ⟨hneg, rfl⟩ | ⟨hpos, rfl⟩
      · simp only [show ((0 : Nat) : Int) = 0 from rfl, Int.add_zero] at HW HK HR1 c0' c1'
        go_enter Tryd.func33, Tryd.ntmps33
        go_wp2_with fail
        go_region
        go_wp2_with fail
        refine wp_still_tail 14 (by kernel_rfl) (by kernel_rfl) ?_
        simp only [List.take_succ_cons, List.take_zero, List.drop_succ_cons, List.drop_zero]
        repeat still_step
        refine wpStill_nil ?_
        refine wpList_slice_lh rfl _ _ _ _ rfl EB (.slice ad B.length cap) B.length _ _ _ _ _ at_ (at_ + 0) rfl rfl rfl (by exact Rd.drew (Rd.drew HR1.out)) (by first | omega | (rw [IntKind.wrap_i64]; omega)) (by first | omega | (rw [IntKind.wrap_i64]; omega)) (by omega) (by omega) ?_
        intro ad1 cap1 hr1 hb1
        have hr2 := RdB.of_mid (l := B) (by omega) hr1
        rw [hsz, show at_ + 0 - at_ = 0 by omega] at hr2
        rw [show at_ + 0 - at_ = 0 by omega] at hb1
        go_wp2_with fail
        go_ret
        refine ⟨.slice ad1 0 cap1, rfl, by rw [HT.out]; exact hr2, ?_, hb1⟩
        rw [HT.out]
        exact ⟨at_ + 0, false, ⟨⟨T, HW.out⟩, HR1.out, hd, by omega, hl⟩, HT2.out, HK.out.drew.drew⟩
      · have hn2 : (n : Int) ≤ (B.length : Int) - at_ := by omega
        go_enter Tryd.func33, Tryd.ntmps33
        go_wp2_with fail
        go_region
        go_wp2_with fail
        refine wp_still_tail 14 (by kernel_rfl) (by kernel_rfl) ?_
        simp only [List.take_succ_cons, List.take_zero, List.drop_succ_cons, List.drop_zero]
        repeat still_step
        refine wpStill_nil ?_
        refine wpList_slice_lh rfl _ _ _ _ rfl EB (.slice ad B.length cap) B.length _ _ _ _ _ at_ (at_ + n) rfl rfl rfl (by exact Rd.drew (Rd.drew HR1.out)) (by first | omega | (rw [IntKind.wrap_i64]; omega)) (by first | omega | (rw [IntKind.wrap_i64]; omega)) (by omega) (by omega) ?_
        intro ad1 cap1 hr1 hb1
        have hr2 := RdB.of_mid (l := B) (by omega) hr1
        rw [hsz, Nat.add_sub_cancel_left] at hr2
        rw [Nat.add_sub_cancel_left] at hb1
        have HR2 := Lw.hid hr2; have HB2 := Lw.hid hb1
        clear hr1 hr2 hb1
        go_wp2_with fail
        go_ret
        refine ⟨.slice ad1 n cap1, rfl, by rw [HT.out]; exact HR2.out, ?_, HB2.out⟩
        rw [HT.out]
        exact ⟨at_ + n, false, ⟨⟨T, HW.out⟩, HR1.out, hd, by omega, hl⟩, HT2.out, HK.out.drew.drew⟩
theorem refRdr_ok (B : List UInt8) (at_ : Nat) (s : Bool) : (refRdr B at_ s).ok := by
  cases s
  · exact fun h => by cases h
  · exact fun _ => rfl
theorem RefPost.trans {a b c : World} {br : Nat} {v : Value} {B : List UInt8} {r : Rdr} (h1 : Kept (fun k => k = br) a b) (h : RefPost b c br v B r) : RefPost a c br v B r := by
  obtain ⟨at_, s, k1, k2, k3⟩ := h
  exact ⟨at_, s, k1, k2, h1.trans k3 (fun _ _ h => h)⟩
set_option maxHeartbeats 1000000 in
theorem refNum_any (w : World) (br : Nat) (v : Value) (B : List UInt8) (at_ : Nat) (s : Bool) (many : Nat) (hm : many ≤ 8) (h : RefAt w br v B at_ s) :
    Calls Tryd.prog 35 #[.pointer (some ⟨br, 0, none⟩), .int .i64 (many : Int)] w fun e w' => e = .returned (.int .u64 ((((refRdr B at_ s).num many).1 : Nat) : Int)) ∧ RefPost w w' br v B ((refRdr B at_ s).num many).2 := by
  have H := Lw.hid h
  clear h
  go_enter Tryd.func35, Tryd.ntmps35
  go_wp2_with fail
  refine (refTake_any w br v B at_ s (many : Int) (by omega) (by omega) H.out).mono ?_
  rw [Int.toNat_natCast]
  rintro e w1 ⟨out, rfl, ho, hp, hf⟩
  have hl := (refRdr B at_ s).take_len many
  have HP : Hid (RefPost w w1 br v B ((refRdr B at_ s).num many).2) := hp
  have HN : Hid (((refRdr B at_ s).num many).1 = beVal ((refRdr B at_ s).take many).1) := Lw.hid rfl
  generalize ((refRdr B at_ s).take many).1 = l at *
  obtain ⟨ad, cap, rfl, hc1, hc2, hc⟩ := ho.open
  have HC := Lw.hid hc
  clear ho hp hf hc H
  unfold maxLen at hc2
  go_wp2_with fail
  go_loop [5, 7] (fun x i => ∃ k : Nat, k ≤ l.length ∧ i = .int .i64 k ∧ x = .int .u64 ((beVal (l.take k) : Nat) : Int)) (fun _ i => l.length - (intOf i).toNat)
  case atStart => exact ⟨0, Nat.zero_le _, rfl, rfl⟩
  case round =>
    obtain ⟨k, hk, rfl, rfl⟩ := hrel
    by_cases hlt : k < l.length
    · have HS : Hid (beVal (l.take (k + 1)) = beVal (l.take k) * 256 + l[k].toNat) := Lw.hid (by rw [take_snoc _ _ hlt]; exact beVal_snoc _ _)
      obtain ⟨g, off, rfl, hcell⟩ := HC.out k hlt
      have hcb := l[k].toNat_lt
      have hb : beVal (l.take k) * 256 + l[k].toNat < 18446744073709551616 := by
        have h1 := beVal_lt8 (l.take (k + 1)) (by rw [List.length_take]; omega)
        rw [HS.out] at h1; exact h1
      generalize beVal (l.take k) = n at *
      generalize l[k].toNat = c at *
      go_wp2_with fail
      go_round
      case rel => exact ⟨k + 1, by omega, by go_num, by rw [HS.out]; congr 1; omega⟩
      case measure => simp [intOf]; omega
    · have hq : l.take k = l := List.take_of_length_le (by omega)
      rw [hq]
      clear hq
      go_wp2_with fail
      go_ret
      exact ⟨by rw [HN.out]; rfl, HP.out⟩
set_option maxHeartbeats 400000 in
theorem refRText_any (w : World) (br : Nat) (v : Value) (B : List UInt8) (at_ : Nat) (s : Bool) (h : RefAt w br v B at_ s) :
    Calls Tryd.prog 40 #[.pointer (some ⟨br, 0, none⟩)] w fun e w' => e = .returned (.string ⟨((refRdr B at_ s).text).1.toArray⟩) ∧ RefPost w w' br v B ((refRdr B at_ s).text).2 := by
  have H := Lw.hid h
  clear h
  go_enter Tryd.func40, Tryd.ntmps40
  go_wp2_with fail
  refine (refNum_any w br v B at_ s 2 (by omega) H.out).mono ?_
  rintro e w1 ⟨rfl, hp⟩
  have hb := (refRdr B at_ s).num_lt 2
  simp only [Nat.reducePow] at hb
  have HT : Hid ((refRdr B at_ s).text = ((refRdr B at_ s).num 2).2.take ((refRdr B at_ s).num 2).1) := Lw.hid rfl
  generalize ((refRdr B at_ s).num 2).1 = n at *
  obtain ⟨at1, s1, h1, h2, h3⟩ := hp
  have H1 := Lw.hid h1
  have H2 := Lw.hid h2
  have H3 := Lw.hid h3
  clear h1 h2 h3
  go_wp2_with fail
  refine (refTake_any w1 br v B at1 s1 (n : Int) (by omega) (by omega) H1.out).mono ?_
  rw [Int.toNat_natCast, H2.out, ← HT.out]
  rintro e w2 ⟨out, rfl, ho, hp2, hf⟩
  have HO := Lw.hid ho
  have HP := Lw.hid (hp2.trans H3.out)
  clear ho hp2 hf
  go_wp2_with (refine wpList_str rfl _ _ _ rfl _ _ rfl HO.out Tryd.underlying22 Tryd.underlying5 Tryd.underlying9 ?_)
  go_ret
  exact ⟨rfl, HP.out⟩
set_option maxHeartbeats 400000 in
theorem refLeft_any (w : World) (br : Nat) (v : Value) (B : List UInt8) (at_ : Nat) (s : Bool) (h : RefAt w br v B at_ s) :
    Calls Tryd.prog 42 #[.pointer (some ⟨br, 0, none⟩)] w fun e w' => e = .returned (.int .i64 ((refRdr B at_ s).l.length : Int)) ∧ ∃ n, w' = w.drewN n := by
  obtain ⟨⟨T, hh⟩, hr, hd, hat, hl⟩ := h
  obtain ⟨ad, cap, rfl, hc1, hc2, _⟩ := hr.open
  have c0 : w.cell? ⟨br, 0, none⟩ = some (.slice ad B.length cap) := heap_cell hh 0
  have c1 : w.cell? ⟨br, 1, none⟩ = some (.int .i64 (at_ : Int)) := heap_cell hh 1
  have c2 : w.cell? ⟨br, 2, none⟩ = some (.bool s) := heap_cell hh 2
  clear hh hr
  cases s with
  | true =>
    go_enter Tryd.func42, Tryd.ntmps42
    go_wp2_with fail
    go_ret
    exact ⟨rfl, 0, rfl⟩
  | false =>
    have HE : Hid ((refRdr B at_ false).l.length = B.length - at_) := Lw.hid (by simp [refRdr])
    go_enter Tryd.func42, Tryd.ntmps42
    go_wp2_with fail
    go_region
    go_wp2_with fail
    go_ret
    exact ⟨by rw [HE.out]; exact ret_int (by omega), 1, rfl⟩
end Go.Proofs.YtcmipliglcakdaaDoor
