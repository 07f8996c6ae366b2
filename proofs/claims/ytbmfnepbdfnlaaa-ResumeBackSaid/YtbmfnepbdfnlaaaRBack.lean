/- ResumeBack, walked. -/
import Derived.Test.YtbmfnepbdfnlaaaBack13P
import Derived.Test.YtbmfnepbdfnlaaaRReads
namespace Go.Proofs.Ytbmfnepbdfnlaaa
open Go Go.RowKit Go.Lw
set_option maxRecDepth 100000
set_option linter.unusedVariables false
set_option linter.unusedSimpArgs false
set_option maxHeartbeats 400000 in
theorem bclone_any (w : World) (src : Value) (l : List UInt8) (hs : RdB w src l) (hlen : l.length ≤ 70368744177664) :
    Calls Try.prog 34 #[src] w fun e w' => ∃ v, e = .returned v ∧ w'.ownsRow 0 5 1 v l.length (l.map bv) ∧ Kept (fun _ => False) w w' ∧ (∀ k, blk v k → w.heap.size ≤ k) := by
  obtain ⟨ad, cap, rfl, h1, h2, hc⟩ := hs.open
  cases ad with
  | none =>
    obtain rfl : l = [] := by
      cases l with
      | nil => rfl
      | cons c l => obtain ⟨g, off, e, _⟩ := hc 0 (by simp); cases e
    have heq := fun w => Lib.run_eql_slice_nil (P := Try.prog) w 57 5 none 0 cap 0 0 Try.underlying57
    go_enter Try.func34, Try.ntmps34
    go_wp2_with fail
    go_ret
    exact ⟨_, rfl, World.ownsRow_nil w 0 _ 1, Kept.refl _ _, fun k hk => by cases hk⟩
  | some ad =>
    have HS := Lw.hid hs
    clear hc hs
    have heq := fun w => Lib.run_eql_slice_nil (P := Try.prog) w 57 5 (some ad) l.length cap 0 0 Try.underlying57
    have ho : (w.alloc (.cells #[] 5)).ownsRow 0 5 1 (.slice (some ⟨w.heap.size, 0, none⟩) 0 0) 0 [] := World.ownsRow_lit w #[] 0 (Nat.zero_le _) (by unfold maxLen; omega) rfl
    go_enter Try.func34, Try.ntmps34
    go_wp2_with (at_builtin; refine wpList_app rfl _ _ _ rfl EB _ 0 _ rfl ho _ l.length _ rfl (Rd.alloc HS.out _) (bytes_oneCell l) (by unfold maxLen; omega) (by omega) ?_; intro ad' cap' w1 ho' hg hf)
    go_ret
    rw [Nat.zero_add] at ho' hf
    refine ⟨.slice ad' l.length cap', rfl, ho', ((Kept.refl _ w).alloc _).grown hg (fun k hk hl => ?_), fun k hk => ?_⟩
    · have e : k = w.heap.size := blk_some hk
      omega
    · rcases hf k hk with h | h
      · have e : k = w.heap.size := blk_some h
        omega
      · simp at h; omega
set_option maxHeartbeats 16000000 in
theorem rback_any (w : World) (o cu : Nat) (v : Value) (told : List Hv) (ht : RdH w v told) (ho : o < 18446744073709551616) (hcu : cu < 256) (src : Value) (b0 : List UInt8) (hb : RdB w src b0) :
    Calls Try.prog 7 #[.int .u64 (o : Int), v, .int .u8 (cu : Int), src] w fun x w' => x = .returned (.bool true) ∧ Below w.heap.size w w' := by
  obtain ⟨ad, m0, cap, rfl⟩ := ht.sl
  obtain ⟨adb, capb, rfl, hb1, hb2, _⟩ := hb.open
  unfold maxLen at hb2
  obtain ⟨mb, hmb⟩ : ∃ mb, b0.length = mb := ⟨_, rfl⟩
  have HT := Lw.hid ht; have HMB := Lw.hid hmb
  rw [hmb] at hb1 hb ⊢
  have HB := Lw.hid hb
  clear ht hb hmb
  go_enter Try.func7, Try.ntmps7
  go_wp2_with fail
  obtain ⟨n, hn⟩ : ∃ n, o / 72057594037927936 = n := ⟨_, rfl⟩
  have hn9 : n < 256 := by omega
  have hni : (o : Int) / 72057594037927936 = (n : Int) := by omega
  obtain ⟨N, hN⟩ : ∃ N, 1 + n % 60 = N := ⟨_, rfl⟩
  obtain ⟨L, hL⟩ : ∃ L, madeL n o told = L := ⟨_, rfl⟩
  have hmade := made_any w n o _ told HT.out hn9 ho
  rw [← hni, hN, hL] at hmade
  have hmay : mayF N L = true := by rw [← hN, ← hL]; exact made_may n o told
  have hNb : N < 4294967296 := by omega
  have HLN : Hid (L.length ≤ 16) := Lw.hid (mayF_parts hmay).2.2
  have HMAY := Lw.hid hmay
  have HMADE := Lw.hid hmade
  clear hn hni hN hL hmay hmade
  refine HMADE.out.mono ?_
  rintro e w1 ⟨va, rfl, ho1, k1⟩
  obtain ⟨a1, n1, c1, rfl⟩ := ho1.1.sl
  obtain ⟨w2, hw2⟩ : ∃ w2, w1.alloc (.cells #[.int .u32 (N : Int), .slice a1 n1 c1] 26) = w2 := ⟨_, rfl⟩
  obtain ⟨B2, hB2⟩ : ∃ B2, w1.heap.size = B2 := ⟨_, rfl⟩
  have K2 : Hid (Kept (fun _ => False) w w2) := Lw.hid (by rw [← hw2]; exact k1.alloc _)
  have HX2 : Hid (w2.heap[B2]? = some (.cells #[u32v N, .slice a1 n1 c1] 26 (0, 0))) := Lw.hid (by rw [← hw2, ← hB2]; exact heap_at _ _ rfl)
  have HR2 : Hid (RdH w2 (.slice a1 n1 c1) L) := Lw.hid (by rw [← hw2]; exact ho1.1.keptF ((Kept.refl _ w1).alloc _))
  have HOK := Lw.hid ho1.1.2
  have HW2 := Lw.hid hw2; have HB2 := Lw.hid hB2
  clear ho1 k1 hw2 hB2 HMADE
  go_upto_region 2 with fail
  rw [HW2.out, HB2.out]
  have g0 := heap_cell HX2.out 0; have g1 := heap_cell HX2.out 1
  obtain ⟨F, hF⟩ : ∃ F, askB N L = F := ⟨_, rfl⟩
  have HFL : Hid (5 ≤ F.length ∧ F.length ≤ 213) := Lw.hid (by rw [← hF, askB_len]; have := HLN.out; omega)
  have HBF : Hid (bytesF N L = (F, 0)) := Lw.hid (by unfold bytesF; rw [if_pos HMAY.out, hF])
  have HPF : Hid (parseF F = (N, L, 0)) := Lw.hid (by rw [← hF]; exact back_ok HMAY.out hNb HOK.out)
  have HCUT : Hid (∀ k, k < F.length → parseF (F.take k) = (0, [], 4)) := Lw.hid (fun k hk => by rw [← hF] at hk ⊢; exact back_cut HLN.out hk)
  have HMORE : Hid (parseF (F ++ [0]) = (0, [], 5)) := Lw.hid (by rw [← hF]; exact back_more HLN.out)
  clear hF
  go_wp2_with fail
  refine (bytes_any w2 N _ L HR2.out hNb (by have := HLN.out; omega)).mono ?_
  rw [HBF.out]
  rintro e w3 ⟨r3, rfl, hr3, _, k3⟩
  obtain ⟨a3, c3, hv3, hl3, hl3', _⟩ := hr3.open
  obtain ⟨f, hf⟩ : ∃ f, F.length = f := ⟨_, rfl⟩
  have HFN := Lw.hid hf
  have hfl := HFL.out
  simp only at hv3 hl3
  rw [hf] at hv3 hl3 hfl
  subst hv3
  unfold maxLen at hl3'
  have HR3 : Hid (RdB w3 (.slice a3 f c3) F) := Lw.hid hr3
  have K3 := Lw.hid (K2.out.trans k3 (fun _ _ h => h)); have HX3 := Lw.hid (k3.heap HX2.out (fun h => h)); have HRL3 := Lw.hid (HR2.out.keptF k3)
  clear hr3 k3 hf g0 g1
  go_wp2_with fail
  refine (parse_any w3 _ F HR3.out (by have := HFL.out; omega)).mono ?_
  rw [HPF.out]
  rintro e w4 ⟨r4, rfl, hr4, k4⟩
  obtain ⟨a4, n4, c4, rfl⟩ := hr4.1.sl
  obtain ⟨w5, hw5⟩ : ∃ w5, w4.alloc (.cells #[.int .u32 (N : Int), .slice a4 n4 c4] 26) = w5 := ⟨_, rfl⟩
  obtain ⟨B5, hB5⟩ : ∃ B5, w4.heap.size = B5 := ⟨_, rfl⟩
  have K35 : Hid (Kept (fun _ => False) w3 w5) := Lw.hid (by rw [← hw5]; exact k4.alloc _)
  have HX5 : Hid (w5.heap[B5]? = some (.cells #[u32v N, .slice a4 n4 c4] 26 (0, 0))) := Lw.hid (by rw [← hw5, ← hB5]; exact heap_at _ _ rfl)
  have HR5 : Hid (RdH w5 (.slice a4 n4 c4) L) := Lw.hid (by rw [← hw5]; exact hr4.1.keptF ((Kept.refl _ w4).alloc _))
  have HX25 := Lw.hid (K35.out.heap HX3.out (fun h => h)); have HRL5 := Lw.hid (HRL3.out.keptF K35.out); have HF5 := Lw.hid (HR3.out.kept K35.out (fun _ _ h => h)); have K5 := Lw.hid (K3.out.trans K35.out (fun _ _ h => h))
  have HW5 := Lw.hid hw5; have HB5 := Lw.hid hB5
  clear hr4 k4 hw5 hB5
  go_upto_region 4 with fail
  rw [HW5.out, HB5.out]
  have hfg : decide (213 < (f : Int)) = false := by simp; omega
  have hfz : ((f : Int) == 0) = false := beq_eq_false_iff_ne.2 (by omega)
  refine wp_region_tail 23 [stV (.int .i64 0), stV (.bool false), stV (.bool false), stV (.int .i64 0), stV (.bool false), stV (.bool false), stV (.bool false), stV (askV N (.slice a4 n4 c4)), stV (askV N (.slice a1 n1 c1)), stA N w5.heap.size L, stV (.bool true), stV (.bool false), stV (.bool false), stV (.bool false), stV (.slice a3 f c3), stV (.int .i64 (f : Int)), stV (.bool false), stV (.bool false), stV (.bool false), stV (.slice a3 f c3), stV (.int .i64 (f : Int)), stV (.bool false), stV (.bool false)] (by kernel_rfl) (by kernel_rfl) ?_ ?_
  · -- each operation by itself
    refine ssteps_cons (fun a' w' hI hag hf K hK => ?_) ?_
    · have s11 := hag.same 11 (by decide)
      clear hag
      go_wp2_with fail
      exact hK _ _ hI (Kept.refl _ _) rfl
    refine ssteps_cons (fun a' w' hI hag hf K hK => ?_) ?_
    · obtain ⟨⟨_, h0, rfl⟩, -⟩ : SFacts _ _ a' w' [0] := hf
      clear hag
      go_wp2_with fail
      exact hK _ _ hI (Kept.refl _ _) rfl
    refine ssteps_cons (fun a' w' hI hag hf K hK => ?_) ?_
    · obtain ⟨⟨_, h1, rfl⟩, -⟩ : SFacts _ _ a' w' [1] := hf
      clear hag
      go_wp2_with fail
      exact hK _ _ hI (Kept.refl _ _) rfl
    refine ssteps_cons (fun a' w' hI hag hf K hK => ?_) ?_
    · obtain ⟨⟨_, h2, rfl⟩, -⟩ : SFacts _ _ a' w' [2] := hf
      have s13 := hag.same 13 (by decide)
      clear hag
      go_wp2_with fail
      exact hK _ _ hI (Kept.refl _ _) rfl
    refine ssteps_cons (fun a' w' hI hag hf K hK => ?_) ?_
    · obtain ⟨⟨_, h3, rfl⟩, ⟨_, h2, rfl⟩, -⟩ : SFacts _ _ a' w' [3, 2] := hf
      clear hag
      go_wp2_with fail
      exact hK _ _ hI (Kept.refl _ _) rfl
    refine ssteps_cons (fun a' w' hI hag hf K hK => ?_) ?_
    · obtain ⟨⟨_, h2, rfl⟩, ⟨_, h4, rfl⟩, -⟩ : SFacts _ _ a' w' [2, 4] := hf
      clear hag
      go_wp2_with fail
      exact hK _ _ hI (Kept.refl _ _) rfl
    refine ssteps_cons (fun a' w' hI hag hf K hK => ?_) ?_
    · obtain ⟨⟨_, h5, rfl⟩, -⟩ : SFacts _ _ a' w' [5, 2] := hf
      clear hag
      go_wp2_with fail
      exact hK _ _ hI (Kept.refl _ _) rfl
    refine ssteps_cons (fun a' w' hI hag hf K hK => ?_) ?_
    · obtain ⟨⟨_, h6, rfl⟩, -⟩ : SFacts _ _ a' w' [6] := hf
      have s12 := hag.same 12 (by decide)
      clear hag
      have hh := hI.heap HX5.out (fun h => h)
      have d0 := heap_cell hh 0; have d1 := heap_cell hh 1
      clear hh
      go_wp2_with fail
      exact hK _ _ hI (Kept.refl _ _) rfl
    refine ssteps_cons (fun a' w' hI hag hf K hK => ?_) ?_
    · obtain ⟨⟨_, h6, rfl⟩, -⟩ : SFacts _ _ a' w' [6] := hf
      have s9 := hag.same 9 (by decide)
      clear hag
      have hh := hI.heap HX25.out (fun h => h)
      have d0 := heap_cell hh 0; have d1 := heap_cell hh 1
      clear hh
      go_wp2_with fail
      exact hK _ _ hI (Kept.refl _ _) rfl
    refine ssteps_cons (fun a' w' hI hag hf K hK => ?_) ?_
    · obtain ⟨⟨_, h8, rfl⟩, ⟨_, h6, rfl⟩, -⟩ : SFacts _ _ a' w' [8, 6] := hf
      clear hag
      go_wp2_with fail
      refine (of_any w' N _ L (HRL5.out.keptF hI) (by have := HLN.out; omega)).mono ?_
      rintro e w6 ⟨v6, rfl, ho6, k6⟩
      have HO : Hid (OwnH w5.heap.size L v6 w6) := Lw.hid ⟨ho6.1, fun k hk => ⟨Nat.le_trans hI.size (ho6.2 k hk).1, (ho6.2 k hk).2⟩⟩
      clear ho6
      go_wp2_with fail
      exact hK _ _ (hI.trans k6 (fun _ _ h => h)) k6 ⟨_, rfl, HO.out⟩
    refine ssteps_cons (fun a' w' hI hag hf K hK => ?_) ?_
    · obtain ⟨⟨_, h7, rfl⟩, ⟨v9, h9, e9⟩, ⟨_, h6, rfl⟩, -⟩ : SFacts _ _ a' w' [7, 9, 6] := hf
      clear hag
      obtain ⟨u9, rfl, hu9⟩ := e9
      have HU9 : Hid (OwnH w5.heap.size L u9 _) := Lw.hid hu9
      clear hu9
      go_wp2_with fail
      refine (like_any w' N _ _ L (HR5.out.keptF hI) HU9.out.1 (by have := HLN.out; omega)).mono ?_
      rintro e w6 ⟨rfl, k6⟩
      go_wp2_with fail
      exact hK _ _ (hI.trans k6 (fun _ _ h => h)) k6 rfl
    refine ssteps_cons (fun a' w' hI hag hf K hK => ?_) ?_
    · obtain ⟨⟨_, h10, rfl⟩, ⟨_, h6, rfl⟩, -⟩ : SFacts _ _ a' w' [10, 6] := hf
      clear hag
      go_wp2_with fail
      exact hK _ _ hI (Kept.refl _ _) rfl
    refine ssteps_cons (fun a' w' hI hag hf K hK => ?_) ?_
    · obtain ⟨⟨_, h6, rfl⟩, ⟨_, h11, rfl⟩, -⟩ : SFacts _ _ a' w' [6, 11] := hf
      clear hag
      go_wp2_with fail
      exact hK _ _ hI (Kept.refl _ _) rfl
    refine ssteps_cons (fun a' w' hI hag hf K hK => ?_) ?_
    · obtain ⟨⟨_, h12, rfl⟩, -⟩ : SFacts _ _ a' w' [12, 10] := hf
      clear hag
      go_wp2_with fail
      exact hK _ _ hI (Kept.refl _ _) rfl
    refine ssteps_cons (fun a' w' hI hag hf K hK => ?_) ?_
    · obtain ⟨⟨_, h13, rfl⟩, -⟩ : SFacts _ _ a' w' [13] := hf
      have s10 := hag.same 10 (by decide)
      clear hag
      go_wp2_with fail
      exact hK _ _ hI (Kept.refl _ _) rfl
    refine ssteps_cons (fun a' w' hI hag hf K hK => ?_) ?_
    · obtain ⟨⟨_, h14, rfl⟩, ⟨_, h13, rfl⟩, -⟩ : SFacts _ _ a' w' [14, 13] := hf
      clear hag
      go_wp2_with fail
      exact hK _ _ hI (Kept.refl _ _) rfl
    refine ssteps_cons (fun a' w' hI hag hf K hK => ?_) ?_
    · obtain ⟨⟨_, h15, rfl⟩, ⟨_, h13, rfl⟩, -⟩ : SFacts _ _ a' w' [15, 13] := hf
      clear hag
      go_wp2_with fail
      exact hK _ _ hI (Kept.refl _ _) rfl
    refine ssteps_cons (fun a' w' hI hag hf K hK => ?_) ?_
    · obtain ⟨⟨_, h13, rfl⟩, ⟨_, h16, rfl⟩, -⟩ : SFacts _ _ a' w' [13, 16] := hf
      clear hag
      go_wp2_with fail
      exact hK _ _ hI (Kept.refl _ _) rfl
    refine ssteps_cons (fun a' w' hI hag hf K hK => ?_) ?_
    · obtain ⟨⟨_, h17, rfl⟩, -⟩ : SFacts _ _ a' w' [17, 13] := hf
      clear hag
      go_wp2_with fail
      exact hK _ _ hI (Kept.refl _ _) rfl
    refine ssteps_cons (fun a' w' hI hag hf K hK => ?_) ?_
    · obtain ⟨⟨_, h18, rfl⟩, -⟩ : SFacts _ _ a' w' [18] := hf
      have s10 := hag.same 10 (by decide)
      clear hag
      go_wp2_with fail
      exact hK _ _ hI (Kept.refl _ _) rfl
    refine ssteps_cons (fun a' w' hI hag hf K hK => ?_) ?_
    · obtain ⟨⟨_, h19, rfl⟩, ⟨_, h18, rfl⟩, -⟩ : SFacts _ _ a' w' [19, 18] := hf
      clear hag
      go_wp2_with fail
      exact hK _ _ hI (Kept.refl _ _) rfl
    refine ssteps_cons (fun a' w' hI hag hf K hK => ?_) ?_
    · obtain ⟨⟨_, h20, rfl⟩, ⟨_, h18, rfl⟩, -⟩ : SFacts _ _ a' w' [20, 18] := hf
      clear hag
      go_wp2_with fail
      exact hK _ _ hI (Kept.refl _ _) rfl
    refine ssteps_cons (fun a' w' hI hag hf K hK => ?_) ?_
    · obtain ⟨⟨_, h18, rfl⟩, ⟨_, h21, rfl⟩, -⟩ : SFacts _ _ a' w' [18, 21] := hf
      clear hag
      go_wp2_with fail
      exact hK _ _ hI (Kept.refl _ _) rfl
    exact trivial
  · intro vs w6 hI hvs
    have q0 : vs 0 = (.int .i64 0) := hvs 0 _ _ rfl rfl
    have q1 : vs 1 = (.bool false) := hvs 1 _ _ rfl rfl
    have q2 : vs 2 = (.bool false) := hvs 2 _ _ rfl rfl
    have q3 : vs 3 = (.int .i64 0) := hvs 3 _ _ rfl rfl
    have q4 : vs 4 = (.bool false) := hvs 4 _ _ rfl rfl
    have q5 : vs 5 = (.bool false) := hvs 5 _ _ rfl rfl
    have q6 : vs 6 = (.bool false) := hvs 6 _ _ rfl rfl
    have q7 : vs 7 = (askV N (.slice a4 n4 c4)) := hvs 7 _ _ rfl rfl
    have q8 : vs 8 = (askV N (.slice a1 n1 c1)) := hvs 8 _ _ rfl rfl
    have q9 := hvs 9 _ _ rfl rfl
    have q10 : vs 10 = (.bool true) := hvs 10 _ _ rfl rfl
    have q11 : vs 11 = (.bool false) := hvs 11 _ _ rfl rfl
    have q12 : vs 12 = (.bool false) := hvs 12 _ _ rfl rfl
    have q13 : vs 13 = (.bool false) := hvs 13 _ _ rfl rfl
    have q14 : vs 14 = (.slice a3 f c3) := hvs 14 _ _ rfl rfl
    have q15 : vs 15 = (.int .i64 (f : Int)) := hvs 15 _ _ rfl rfl
    have q16 : vs 16 = (.bool false) := hvs 16 _ _ rfl rfl
    have q17 : vs 17 = (.bool false) := hvs 17 _ _ rfl rfl
    have q18 : vs 18 = (.bool false) := hvs 18 _ _ rfl rfl
    have q19 : vs 19 = (.slice a3 f c3) := hvs 19 _ _ rfl rfl
    have q20 : vs 20 = (.int .i64 (f : Int)) := hvs 20 _ _ rfl rfl
    have q21 : vs 21 = (.bool false) := hvs 21 _ _ rfl rfl
    have q22 : vs 22 = (.bool false) := hvs 22 _ _ rfl rfl
    clear hvs
    simp only [List.take_succ_cons, List.take_zero, List.drop_succ_cons, List.drop_zero, putAll, Act.put, List.setIfInBounds_toArray, List.set_cons_zero, List.set_cons_succ, Nat.reduceAdd, q0, q1, q2, q3, q4, q5, q6, q7, q8, q10, q11, q12, q13, q14, q15, q16, q17, q18, q19, q20, q21, q22]
    clear q0 q1 q2 q3 q4 q5 q6 q7 q8 q10 q11 q12 q13 q14 q15 q16 q17 q18 q19 q20 q21 q22
    generalize vs 9 = x9 at *
    have HF6 := Lw.hid (HF5.out.kept hI (fun _ _ h => h)); have K6 := Lw.hid (K5.out.trans hI (fun _ _ h => h))
    clear q9 HX25 HRL5 HF5 K5 HX5 HR5
    obtain ⟨k, hk⟩ : ∃ k, cu % f = k := ⟨_, rfl⟩
    have hkf : k < f := by rw [← hk]; exact Nat.mod_lt _ (by omega)
    have hki : (cu : Int) % (f : Int) = (k : Int) := by rw [← hk]; push_cast; rfl
    have HCK : Hid (RdB w6 (.slice a3 k c3) (F.take k)) := Lw.hid (HF6.out.take k (by omega))
    have HPK : Hid (parseF (F.take k) = (0, [], 4)) := Lw.hid (HCUT.out k (by rw [HFN.out]; exact hkf))
    clear hk
    go_wp2_with fail
    refine (parse_any w6 _ _ HCK.out (by have := HFL.out; rw [List.length_take]; omega)).mono ?_
    rw [HPK.out]
    rintro e w7 ⟨r7, rfl, hr7, k7⟩
    obtain ⟨a7, n7, c7, rfl⟩ := hr7.1.sl
    clear hr7
    obtain ⟨w8, hw8⟩ : ∃ w8, w7.alloc (.cells #[.int .u32 0, .slice a7 n7 c7] 26) = w8 := ⟨_, rfl⟩
    have K68 : Hid (Kept (fun _ => False) w6 w8) := Lw.hid (by rw [← hw8]; exact k7.alloc _)
    have HW8 := Lw.hid hw8
    have HF8 := Lw.hid (HF6.out.kept K68.out (fun _ _ h => h))
    clear hw8 k7 hki
    go_upto_region 7 with fail
    rw [HW8.out]
    go_wp2_with fail
    refine (bclone_any w8 _ F HF8.out (by have := HFL.out; omega)).mono ?_
    rintro e w9 ⟨v9, rfl, ho9, k9, hf9⟩
    have HF9 := Lw.hid hf9
    clear hf9
    obtain ⟨a9, c9, rfl, hd1, hd2, _⟩ := own_slice ho9
    rw [HFN.out] at ho9 hd1 HF9 ⊢
    unfold maxLen at hd2
    have K9 := Lw.hid k9
    have e1 : Hid ((w9.alloc (.cells #[.int .u8 0] 5)).ownsRow 0 5 1 (.slice a9 f c9) f (F.map bv)) := Lw.hid (own_kept ((Kept.refl (fun _ => False) w9).alloc _) ho9 (fun _ _ h => h))
    clear ho9 k9
    go_wp2_with (at_builtin; refine wpList_app rfl _ _ _ rfl EB _ f _ rfl e1.out _ 1 _ rfl (Rd.lit w9 [.int .u8 0] 5 1 w9.heap.size 1 rfl rfl (by decide)) (bytes_oneCell [0]) (by unfold maxLen; omega) (by omega) ?_; intro ad' cap' w10 ho10 hg hf10; have K10 := Lw.hid (((Kept.refl (fun k => blk (.slice a9 f c9) k) w9).alloc (.cells #[.int .u8 0] 5)).grown hg (fun k e _ => e)); have HO10 := Lw.hid ho10; clear ho10 hg hf10)
    refine (parse_any w10 _ (F ++ [0]) (RdB.of_own (by rw [List.map_append]; exact HO10.out) (by rw [List.length_append, HFN.out]; rfl)) (by have := HFL.out; rw [List.length_append]; simp; omega)).mono ?_
    rw [HMORE.out]
    rintro e w11 ⟨r11, rfl, hr11, k11⟩
    obtain ⟨a11, n11, c11, rfl⟩ := hr11.1.sl
    clear hr11
    have K8 := Lw.hid (K6.out.trans K68.out (fun _ _ h => h))
    have K11 : Hid (Kept (fun _ => False) w w11) := Lw.hid (((K8.out.trans K9.out (fun _ _ h => h)).trans K10.out (fun i hi e => by have := HF9.out i e; have := K8.out.size; omega)).trans k11 (fun _ _ h => h))
    obtain ⟨w12, hw12⟩ : ∃ w12, w11.alloc (.cells #[.int .u32 0, .slice a11 n11 c11] 26) = w12 := ⟨_, rfl⟩
    have K12 : Hid (Kept (fun _ => False) w w12) := Lw.hid (by rw [← hw12]; exact K11.out.alloc _)
    have HW12 := Lw.hid hw12
    clear hw12 k11
    go_upto_region 8 with fail
    rw [HW12.out]
    obtain ⟨b, hbq⟩ : ∃ b, b0.take 300 = b := ⟨_, rfl⟩
    have HBQ := Lw.hid hbq
    have HBN : Hid (b.length ≤ 300) := Lw.hid (by rw [← hbq]; exact List.length_take_le _ _)
    obtain ⟨p1, p2, p3, hPP⟩ : ∃ p1 p2 p3, parseF b = (p1, p2, p3) := ⟨_, _, _, rfl⟩
    have HPP := Lw.hid hPP
    have HERR : Hid (p3 ≠ 0 → (p3 = 4 ∨ p3 = 5) ∧ p1 = 0 ∧ p2 = []) := Lw.hid (by have := back_err b; rwa [hPP] at this)
    have HFORM : Hid (p3 = 0 → mayF p1 p2 = true ∧ askB p1 p2 = b) := Lw.hid (by have := back_form (b := b); rwa [hPP] at this)
    have HP1 : Hid (p1 < 4294967296) := Lw.hid (by
      have := hPP
      unfold parseF at this
      split at this
      · obtain ⟨rfl, -⟩ := this; decide
      split at this
      · obtain ⟨rfl, -⟩ := this; decide
      · obtain ⟨rfl, -⟩ := this
        have h1 := beVal_lt (b.take 4)
        have h2 : 256 ^ (b.take 4).length ≤ 256 ^ 4 := Nat.pow_le_pow_right (by decide) (List.length_take_le _ _)
        have : (256 : Nat) ^ 4 = 4294967296 := by decide
        omega)
    clear hbq hPP
    by_cases hc : 300 < mb
    · have HBB : Hid (RdB w12 (.slice adb 300 capb) b) := Lw.hid (by have := RdB.take (HB.out.kept K12.out (fun _ _ h => h)) 300 (by omega); rwa [HBQ.out] at this)
      go_wp2_with fail
      refine (parse_any w12 _ b HBB.out (by have := HBN.out; omega)).mono ?_
      rw [HPP.out]
      rintro e w13 ⟨r13, rfl, hr13, k13⟩
      obtain ⟨a13, c13, hv13, hl13, _, _⟩ := hr13.1.shape
      subst hv13
      obtain ⟨n13, hn13⟩ : ∃ n13, p2.length = n13 := ⟨_, rfl⟩
      have HN13 := Lw.hid hn13
      have hr13' := hr13.1
      simp only at hr13'
      rw [hn13] at hr13'
      simp only [hn13]
      obtain ⟨w14, hw14⟩ : ∃ w14, w13.alloc (.cells #[.int .u32 (p1 : Int), .slice a13 n13 c13] 26) = w14 := ⟨_, rfl⟩
      obtain ⟨B14, hB14⟩ : ∃ B14, w13.heap.size = B14 := ⟨_, rfl⟩
      have K14 : Hid (Kept (fun _ => False) w w14) := Lw.hid (by rw [← hw14]; exact (K12.out.trans k13 (fun _ _ h => h)).alloc _)
      have K1214 : Hid (Kept (fun _ => False) w12 w14) := Lw.hid (by rw [← hw14]; exact k13.alloc _)
      have HX14 : Hid (w14.heap[B14]? = some (.cells #[u32v p1, .slice a13 n13 c13] 26 (0, 0))) := Lw.hid (by rw [← hw14, ← hB14]; exact heap_at _ _ rfl)
      have HR14 : Hid (RdH w14 (.slice a13 n13 c13) p2) := Lw.hid (by rw [← hw14]; exact hr13'.keptF ((Kept.refl _ w13).alloc _))
      have HW14 := Lw.hid hw14; have HB14 := Lw.hid hB14
      clear hr13 hr13' k13 hw14 hB14 hn13 hl13
      go_upto_region 12 with fail
      rw [HW14.out, HB14.out]
      have x0 := heap_cell HX14.out 0; have x1 := heap_cell HX14.out 1
      by_cases hp0 : p3 = 0
      · obtain ⟨hmy, hab⟩ := HFORM.out hp0
        have HMY := Lw.hid hmy; have HAB := Lw.hid hab
        subst hp0
        clear hmy hab
        have hp16 : Hid (p2.length ≤ 16) := Lw.hid (mayF_parts HMY.out).2.2
        have HBP : Hid (bytesF p1 p2 = (b, 0)) := Lw.hid (by unfold bytesF; rw [if_pos HMY.out, HAB.out])
        go_wp2_with fail
        refine (bytes_any w14 p1 _ p2 HR14.out HP1.out (by have := hp16.out; omega)).mono ?_
        rw [HBP.out]
        rintro e w15 ⟨r15, rfl, hr15, _, k15⟩
        obtain ⟨a15, n15, c15, rfl⟩ := rdb_sl hr15
        have HR15 := Lw.hid hr15; have K15 := Lw.hid k15
        have HX15 := Lw.hid (k15.heap HX14.out (fun h => h))
        clear hr15 k15 x0 x1
        have x0 := heap_cell HX15.out 0; have x1 := heap_cell HX15.out 1
        go_wp2_with fail
        refine (may_any w15 _ p2 (HR14.out.keptF K15.out) p1 HP1.out (by have := hp16.out; omega)).mono ?_
        rw [HMY.out]
        rintro e w16 ⟨rfl, k16⟩
        have K16 := Lw.hid k16
        clear k16
        go_wp2_with fail
        refine (bequal_any w16 _ _ b b (HR15.out.kept K16.out (fun _ _ h => h)) (HBB.out.kept (K1214.out.trans (K15.out.trans K16.out (fun _ _ h => h)) (fun _ _ h => h)) (fun _ _ h => h)) true (by simp)).mono ?_
        rintro e w17 ⟨rfl, rfl⟩
        go_wp2_with fail
        refine (rwakes_any w16).mono ?_
        rintro e w17 ⟨rfl, k17⟩
        have K17 := Lw.hid k17
        clear k17
        go_wp2_with fail
        go_ret
        exact ⟨rfl, Below.of_kept (((K14.out.trans K15.out (fun _ _ h => h)).trans K16.out (fun _ _ h => h)).trans K17.out (fun _ _ h => h))⟩
      · obtain ⟨h45, rfl, rfl⟩ := HERR.out hp0
        have hn0 : n13 = 0 := HN13.out.symm
        subst hn0
        clear hp0
        rcases h45 with rfl | rfl
        all_goals
          go_wp2_with fail
          refine (rwakes_any w14).mono ?_
          rintro e w17 ⟨rfl, k17⟩
          have K17 := Lw.hid k17
          clear k17
          go_wp2_with fail
          go_ret
          exact ⟨rfl, Below.of_kept (K14.out.trans K17.out (fun _ _ h => h))⟩
    · have HBB : Hid (RdB w12 (.slice adb mb capb) b) := Lw.hid (by have := RdB.take (HB.out.kept K12.out (fun _ _ h => h)) mb (by omega); rwa [show b0.take mb = b by rw [← HBQ.out, List.take_of_length_le (by rw [HMB.out]; exact Nat.le_refl _), List.take_of_length_le (by rw [HMB.out]; omega)]] at this)
      go_wp2_with fail
      refine (parse_any w12 _ b HBB.out (by have := HBN.out; omega)).mono ?_
      rw [HPP.out]
      rintro e w13 ⟨r13, rfl, hr13, k13⟩
      obtain ⟨a13, c13, hv13, hl13, _, _⟩ := hr13.1.shape
      subst hv13
      obtain ⟨n13, hn13⟩ : ∃ n13, p2.length = n13 := ⟨_, rfl⟩
      have HN13 := Lw.hid hn13
      have hr13' := hr13.1
      simp only at hr13'
      rw [hn13] at hr13'
      simp only [hn13]
      obtain ⟨w14, hw14⟩ : ∃ w14, w13.alloc (.cells #[.int .u32 (p1 : Int), .slice a13 n13 c13] 26) = w14 := ⟨_, rfl⟩
      obtain ⟨B14, hB14⟩ : ∃ B14, w13.heap.size = B14 := ⟨_, rfl⟩
      have K14 : Hid (Kept (fun _ => False) w w14) := Lw.hid (by rw [← hw14]; exact (K12.out.trans k13 (fun _ _ h => h)).alloc _)
      have K1214 : Hid (Kept (fun _ => False) w12 w14) := Lw.hid (by rw [← hw14]; exact k13.alloc _)
      have HX14 : Hid (w14.heap[B14]? = some (.cells #[u32v p1, .slice a13 n13 c13] 26 (0, 0))) := Lw.hid (by rw [← hw14, ← hB14]; exact heap_at _ _ rfl)
      have HR14 : Hid (RdH w14 (.slice a13 n13 c13) p2) := Lw.hid (by rw [← hw14]; exact hr13'.keptF ((Kept.refl _ w13).alloc _))
      have HW14 := Lw.hid hw14; have HB14 := Lw.hid hB14
      clear hr13 hr13' k13 hw14 hB14 hn13 hl13
      go_upto_region 12 with fail
      rw [HW14.out, HB14.out]
      have x0 := heap_cell HX14.out 0; have x1 := heap_cell HX14.out 1
      by_cases hp0 : p3 = 0
      · obtain ⟨hmy, hab⟩ := HFORM.out hp0
        have HMY := Lw.hid hmy; have HAB := Lw.hid hab
        subst hp0
        clear hmy hab
        have hp16 : Hid (p2.length ≤ 16) := Lw.hid (mayF_parts HMY.out).2.2
        have HBP : Hid (bytesF p1 p2 = (b, 0)) := Lw.hid (by unfold bytesF; rw [if_pos HMY.out, HAB.out])
        go_wp2_with fail
        refine (bytes_any w14 p1 _ p2 HR14.out HP1.out (by have := hp16.out; omega)).mono ?_
        rw [HBP.out]
        rintro e w15 ⟨r15, rfl, hr15, _, k15⟩
        obtain ⟨a15, n15, c15, rfl⟩ := rdb_sl hr15
        have HR15 := Lw.hid hr15; have K15 := Lw.hid k15
        have HX15 := Lw.hid (k15.heap HX14.out (fun h => h))
        clear hr15 k15 x0 x1
        have x0 := heap_cell HX15.out 0; have x1 := heap_cell HX15.out 1
        go_wp2_with fail
        refine (may_any w15 _ p2 (HR14.out.keptF K15.out) p1 HP1.out (by have := hp16.out; omega)).mono ?_
        rw [HMY.out]
        rintro e w16 ⟨rfl, k16⟩
        have K16 := Lw.hid k16
        clear k16
        go_wp2_with fail
        refine (bequal_any w16 _ _ b b (HR15.out.kept K16.out (fun _ _ h => h)) (HBB.out.kept (K1214.out.trans (K15.out.trans K16.out (fun _ _ h => h)) (fun _ _ h => h)) (fun _ _ h => h)) true (by simp)).mono ?_
        rintro e w17 ⟨rfl, rfl⟩
        go_wp2_with fail
        refine (rwakes_any w16).mono ?_
        rintro e w17 ⟨rfl, k17⟩
        have K17 := Lw.hid k17
        clear k17
        go_wp2_with fail
        go_ret
        exact ⟨rfl, Below.of_kept (((K14.out.trans K15.out (fun _ _ h => h)).trans K16.out (fun _ _ h => h)).trans K17.out (fun _ _ h => h))⟩
      · obtain ⟨h45, rfl, rfl⟩ := HERR.out hp0
        have hn0 : n13 = 0 := HN13.out.symm
        subst hn0
        clear hp0
        rcases h45 with rfl | rfl
        all_goals
          go_wp2_with fail
          refine (rwakes_any w14).mono ?_
          rintro e w17 ⟨rfl, k17⟩
          have K17 := Lw.hid k17
          clear k17
          go_wp2_with fail
          go_ret
          exact ⟨rfl, Below.of_kept (K14.out.trans K17.out (fun _ _ h => h))⟩
end Go.Proofs.Ytbmfnepbdfnlaaa
