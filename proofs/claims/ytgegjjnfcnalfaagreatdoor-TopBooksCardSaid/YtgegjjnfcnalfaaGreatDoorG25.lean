/- Of the proof of TopBooks: StL. -/
import Derived.Test.YtgegjjnfcnalfaaGreatDoorG24
namespace Go.Proofs.YtgegjjnfcnalfaaGreatDoor
open Go Go.RowKit Go.Lw
set_option maxRecDepth 100000
set_option linter.unusedVariables false
set_option linter.unusedSimpArgs false
attribute [local go_sem] BA_toList
def varB : Option (List UInt8) → List UInt8
  | none => []
  | some t => be 2 1 ++ [118] ++ (be 2 t.length ++ t) ++ [0]
def headB (st : Nat) (o : Option (List UInt8)) : List UInt8 := [UInt8.ofNat st, UInt8.ofNat (keysO o).length]
def stateB (st : Nat) (o : Option (List UInt8)) : List UInt8 := headB st o ++ varB o ++ treeB
theorem size_v (o : Option (List UInt8)) : Maps.size (dV o) = (keysO o).length := by cases o <;> rfl
theorem keys_le (o : Option (List UInt8)) : (keysO o).length ≤ 1 := by cases o <;> simp [keysO]
theorem field_v0 (x : List UInt8) (w : World) : (Instr.field 95 (.agg #[.string (BA x), .bool false]) 0).run Tryz.prog w = .ok (.string (BA x)) w := by kernel_rfl
set_option maxHeartbeats 16000000 in
theorem sbytes_any (w : World) (F : Nat → Prop) (g : Nat) (st : Nat) (o : Option (List UInt8)) (h : StAt w F g (st : Int) o) (hst : st < 256) (ho : ∀ t, o = some t → t.length ≤ 4096) : Calls Tryz.prog 10 #[.pointer (some ⟨g, 0, none⟩)] w fun e w' => ∃ v, e = .returned v ∧ IsOwn w.heap.size (stateB st o) v w' ∧ Kept (fun _ => False) w w' := by
  have H := Lw.hid h
  clear h
  go_enter Tryz.func10, Tryz.ntmps10
  go_wp2_with fail
  refine (snone_any w F g st o H.out).mono ?_
  rintro e _ ⟨rfl, rfl⟩
  obtain ⟨ft, m, h1, h2, h3, h4, h5, h6⟩ := H.out.mem
  have HB := Lw.hid h1; have HT := Lw.hid h2; have HM := Lw.hid h3
  clear h1 h2 h3 h4 h5 h6
  go_wp2_with fail
  obtain ⟨w1, hw1⟩ : ∃ w1, w.alloc (.cells #[.slice none 0 0, .int .i64 0] 86) = w1 := ⟨_, rfl⟩
  have hb1 : w1.heap[w.heap.size]? = some (.cells #[.slice none 0 0, .int .i64 0] 86 (0, 0)) := by rw [← hw1]; exact heap_alloc _ _
  have k1 : Kept (fun _ => False) w w1 := by rw [← hw1]; exact (Kept.refl _ w).alloc _
  obtain ⟨bw, hbw⟩ : ∃ bw, w.heap.size = bw := ⟨_, rfl⟩
  rw [hw1, hbw]
  rw [hbw] at hb1
  have K1 := Lw.hid k1; have HBW := Lw.hid hbw
  have WI0 : WI w bw [] [(13, headB st o)] (fun _ => false) (.slice none 0 0) w1 := ⟨k1, ⟨⟨_, hb1⟩, World.ownsRow_nil _ _ _ _, fun h => blk_none h⟩, by omega, fun k h => (blk_none h).elim⟩
  obtain ⟨n, hn⟩ : ∃ n, (keysO o).length = n := ⟨_, rfl⟩
  have hn1 : n ≤ 1 := by rw [← hn]; exact keys_le o
  have HN := Lw.hid hn
  clear hw1 hb1 k1 hn
  refine wp_region_set 14 (WI w bw [] [(13, headB st o)]) (wR bw) [gV (.pointer (some ⟨bw, 0, none⟩)), gV (.pointer (some ⟨g, 0, none⟩)), gV (.pointer (some ⟨g, 0, none⟩)), gV (.pointer (some ⟨g, 0, none⟩)), gV (.int .i64 (st : Int)), gV (.int .u8 (st : Int)), gV (.pointer (some ⟨g, 0, none⟩)), gV (.pointer (some ⟨g, 0, none⟩)), gV (.pointer (some ⟨g, 2, none⟩)), gV (.map (some m)), gV (.int .i64 (n : Int)), gV (.int .u8 (n : Int)), wRow bw (headB st o), gV (.pointer (some ⟨bw, 0, none⟩))] (.slice none 0 0) (by kernel_rfl) (by kernel_rfl) (WI0.same ((Kept.refl _ _).drew)) ?_ ?_
  · refine gsteps_cons (fun D γ a' w' hI hD0 hdep hcl hag hlt hf K hK => ?_) ?_
    · have s3 := hag.same 3 (by decide)
      clear hlt
      clear hag
      go_wp2_with fail
      exact hK _ _ _ (hI.pure (Kept.refl _ _) rfl) (wR.pure (Kept.refl _ _)) rfl
    refine gsteps_cons (fun D γ a' w' hI hD0 hdep hcl hag hlt hf K hK => ?_) ?_
    · have s0 := hag.same 0 (by decide)
      clear hlt
      clear hag
      go_wp2_with fail
      exact hK _ _ _ (hI.pure (Kept.refl _ _) rfl) (wR.pure (Kept.refl _ _)) rfl
    refine gsteps_cons (fun D γ a' w' hI hD0 hdep hcl hag hlt hf K hK => ?_) ?_
    · obtain ⟨⟨_, h1, rfl⟩, -⟩ : SFacts _ _ a' w' [1] := hf
      clear hlt
      clear hag
      go_wp2_with fail
      exact hK _ _ _ (hI.pure (Kept.refl _ _) rfl) (wR.pure (Kept.refl _ _)) rfl
    refine gsteps_cons (fun D γ a' w' hI hD0 hdep hcl hag hlt hf K hK => ?_) ?_
    · obtain ⟨⟨_, h2, rfl⟩, -⟩ : SFacts _ _ a' w' [2] := hf
      clear hlt
      clear hag
      go_wp2_with fail
      exact hK _ _ _ (hI.pure (Kept.refl _ _) rfl) (wR.pure (Kept.refl _ _)) rfl
    refine gsteps_cons (fun D γ a' w' hI hD0 hdep hcl hag hlt hf K hK => ?_) ?_
    · obtain ⟨⟨_, h3, rfl⟩, -⟩ : SFacts _ _ a' w' [3] := hf
      clear hlt
      clear hag
      have c0 := heap_cell (hI.kept.heap HB.out (fun h => h)) 0
      go_wp2_with fail
      exact hK _ _ _ (hI.pure (Kept.refl _ _) rfl) (wR.pure (Kept.refl _ _)) rfl
    refine gsteps_cons (fun D γ a' w' hI hD0 hdep hcl hag hlt hf K hK => ?_) ?_
    · obtain ⟨⟨_, h4, rfl⟩, -⟩ : SFacts _ _ a' w' [4] := hf
      clear hlt
      clear hag
      go_wp2_with fail
      exact hK _ _ _ (hI.pure (Kept.refl _ _) rfl) (wR.pure (Kept.refl _ _)) rfl
    refine gsteps_cons (fun D γ a' w' hI hD0 hdep hcl hag hlt hf K hK => ?_) ?_
    · have s0 := hag.same 0 (by decide)
      clear hlt
      clear hag
      go_wp2_with fail
      exact hK _ _ _ (hI.pure (Kept.refl _ _) rfl) (wR.pure (Kept.refl _ _)) rfl
    refine gsteps_cons (fun D γ a' w' hI hD0 hdep hcl hag hlt hf K hK => ?_) ?_
    · obtain ⟨⟨_, h6, rfl⟩, -⟩ : SFacts _ _ a' w' [6] := hf
      clear hlt
      clear hag
      go_wp2_with fail
      exact hK _ _ _ (hI.pure (Kept.refl _ _) rfl) (wR.pure (Kept.refl _ _)) rfl
    refine gsteps_cons (fun D γ a' w' hI hD0 hdep hcl hag hlt hf K hK => ?_) ?_
    · obtain ⟨⟨_, h7, rfl⟩, -⟩ : SFacts _ _ a' w' [7] := hf
      clear hlt
      clear hag
      go_wp2_with fail
      exact hK _ _ _ (hI.pure (Kept.refl _ _) rfl) (wR.pure (Kept.refl _ _)) rfl
    refine gsteps_cons (fun D γ a' w' hI hD0 hdep hcl hag hlt hf K hK => ?_) ?_
    · obtain ⟨⟨_, h8, rfl⟩, -⟩ : SFacts _ _ a' w' [8] := hf
      clear hlt
      clear hag
      have c2 := heap_cell (hI.kept.heap HB.out (fun h => h)) 2
      go_wp2_with fail
      exact hK _ _ _ (hI.pure (Kept.refl _ _) rfl) (wR.pure (Kept.refl _ _)) rfl
    refine gsteps_cons (fun D γ a' w' hI hD0 hdep hcl hag hlt hf K hK => ?_) ?_
    · obtain ⟨⟨_, h9, rfl⟩, -⟩ : SFacts _ _ a' w' [9] := hf
      clear hlt
      clear hag
      have HM9 := MapAt.kept HM.out hI.kept (fun h => h)
      refine wpList_len_own _ rfl _ _ rfl 9 95 Tryz.underlying89 RV m 1 (dV o) (by simp [Act.eval, h9]) HM9 ?_
      exact wpList_nil (hK _ _ _ (hI.pure (Kept.refl _ _) rfl) (wR.pure (Kept.refl _ _)) (by rw [size_v, HN.out]; rfl))
    refine gsteps_cons (fun D γ a' w' hI hD0 hdep hcl hag hlt hf K hK => ?_) ?_
    · obtain ⟨⟨_, h10, rfl⟩, -⟩ : SFacts _ _ a' w' [10] := hf
      clear hlt
      clear hag
      go_wp2_with fail
      exact hK _ _ _ (hI.pure (Kept.refl _ _) rfl) (wR.pure (Kept.refl _ _)) rfl
    refine gsteps_cons (fun D γ a' w' hI hD0 hdep hcl hag hlt hf K hK => ?_) ?_
    · obtain ⟨⟨_, h5, rfl⟩, ⟨_, h11, rfl⟩, -⟩ : SFacts _ _ a' w' [5, 11] := hf
      clear hlt
      clear hag
      have HI := Lw.hid hI
      clear hI
      go_wp2_with fail
      have k5 : Kept (fun _ => False) w' (w'.alloc (.cells #[.int .u8 (st : Int), .int .u8 (n : Int)] 5)) := (Kept.refl _ w').alloc _
      have hbl : bw < w'.heap.size := by obtain ⟨T, hT⟩ := HI.out.wr.1; exact heap_lt hT
      have hgl := own_lt HI.out.wr.2.1
      exact hK _ _ _ (HI.out.pure k5 rfl) (wR.pure k5) ⟨by
          have e : #[Value.int .u8 (st : Int), Value.int .u8 (n : Int)] = ((headB st o).map bv).toArray := by
            unfold headB
            rw [HN.out]
            simp [bv, UInt8.toNat_ofNat', Nat.mod_eq_of_lt hst, Nat.mod_eq_of_lt (show n < 256 by omega)]
          rw [e]
          exact RdB.lit w' (headB st o) _ 2 rfl (by unfold maxLen; omega), fun k hk => by
          have e : k = w'.heap.size := blk_some hk
          rw [e]
          exact ⟨by omega, fun h => by have := hgl _ h; omega, by simp⟩⟩
    refine gsteps_cons (fun D γ a' w' hI hD0 hdep hcl hag hlt hf K hK => ?_) ?_
    · obtain ⟨⟨_, h0, rfl⟩, ⟨v12, h12, e12⟩, -⟩ : SFacts _ _ a' w' [0, 12, 10] := hf
      clear hlt
      clear hag
      obtain ⟨hr1, hr2⟩ := e12
      have HI := Lw.hid hI; have HR := Lw.hid hr1
      clear hI hr1 hr2
      go_wp2_with fail
      have e0 : lW [] [(13, headB st o)] D = [] := by show (if D 13 then [] ++ headB st o else []) = []; rw [show D 13 = false from hD0]; rfl
      have hw := HI.out.wr
      rw [e0] at hw
      refine (byte_any w' bw γ [] _ (headB st o) hw HR.out (by simp [headB])).mono ?_
      rintro e w4 ⟨rfl, hp⟩
      have HP := Lw.hid hp
      clear hp hw
      go_wp2_with fail
      obtain ⟨γ', hi', hr'⟩ := HI.out.call HP.out (j := 13) rfl
      exact hK _ γ' _ hi' hr' rfl
    exact trivial
  · intro vs γ wz hI hvs
    have q0 : vs 0 = (.pointer (some ⟨bw, 0, none⟩)) := hvs 0 _ _ rfl rfl
    have q1 : vs 1 = (.pointer (some ⟨g, 0, none⟩)) := hvs 1 _ _ rfl rfl
    have q2 : vs 2 = (.pointer (some ⟨g, 0, none⟩)) := hvs 2 _ _ rfl rfl
    have q3 : vs 3 = (.pointer (some ⟨g, 0, none⟩)) := hvs 3 _ _ rfl rfl
    have q4 : vs 4 = (.int .i64 (st : Int)) := hvs 4 _ _ rfl rfl
    have q5 : vs 5 = (.int .u8 (st : Int)) := hvs 5 _ _ rfl rfl
    have q6 : vs 6 = (.pointer (some ⟨g, 0, none⟩)) := hvs 6 _ _ rfl rfl
    have q7 : vs 7 = (.pointer (some ⟨g, 0, none⟩)) := hvs 7 _ _ rfl rfl
    have q8 : vs 8 = (.pointer (some ⟨g, 2, none⟩)) := hvs 8 _ _ rfl rfl
    have q9 : vs 9 = (.map (some m)) := hvs 9 _ _ rfl rfl
    have q10 : vs 10 = (.int .i64 (n : Int)) := hvs 10 _ _ rfl rfl
    have q11 : vs 11 = (.int .u8 (n : Int)) := hvs 11 _ _ rfl rfl
    have q12 := hvs 12 _ _ rfl rfl
    have q13 : vs 13 = (.pointer (some ⟨bw, 0, none⟩)) := hvs 13 _ _ rfl rfl
    clear hvs
    simp only [List.take_succ_cons, List.take_zero, List.drop_succ_cons, List.drop_zero, putAll, Act.put, List.setIfInBounds_toArray, List.set_cons_zero, List.set_cons_succ, Nat.reduceAdd, q0, q1, q2, q3, q4, q5, q6, q7, q8, q9, q10, q11, q13]
    clear q0 q1 q2 q3 q4 q5 q6 q7 q8 q9 q10 q11 q13
    generalize vs 12 = x12 at *
    have HI := Lw.hid hI.kept; have HFR := Lw.hid hI.fr
    have HW : Hid (WriterAt wz bw γ (headB st o) 0) := Lw.hid hI.wr
    clear hI q12 WI0
    go_wp2_with fail
    refine (snames_any wz F g st o (H.out.mono (fun _ _ h => h) |>.kept HI.out (fun _ _ h => h))).mono ?_
    rintro e w2 ⟨vn, rfl, hno, hnf, k2⟩
    obtain ⟨adn, capn, rfl, hcn, hcn2, hsm⟩ := own_slice hno
    have HNO := Lw.hid hno; have K2 := Lw.hid (HI.out.trans k2 (fun _ _ h => h)); have HW2 := Lw.hid (HW.out.kept k2 (fun h => h) (fun _ _ h => h))
    clear hno hnf k2
    cases o with
    | none =>
      have hn0 : (keysO none).length = 0 := rfl
      rw [hn0]
      go_wp2_with fail
      refine wp_loop_rounds 1 ?_
      rw [rounds_succ]
      obtain ⟨wq, hwq⟩ : ∃ wq, w2 = wq := ⟨_, rfl⟩
      have KQ : Hid (Kept (fun _ => False) w wq) := by rw [← hwq]; exact K2
      have WQ : Hid (WriterAt wq bw γ (headB st none) 0) := by rw [← hwq]; exact HW2
      rw [hwq]
      clear hwq
      have c1 := heap_cell (KQ.out.heap HB.out (fun h => h)) 1
      go_wp2_with fail
      refine (tbytes_any wq _ ft (HT.out.kept KQ.out (fun _ _ h => h))).mono ?_
      rintro e w5 ⟨vt, rfl, ⟨ho5, hb5⟩, k5⟩
      have HO5 := Lw.hid ho5; have K5 := Lw.hid (KQ.out.trans k5 (fun _ _ h => h))
      have HW5 := Lw.hid (WQ.out.kept k5 (fun h => h) (fun _ _ h => h))
      clear ho5 hb5 k5 c1
      go_wp2_with fail
      refine (byte_any w5 bw γ _ vt treeB HW5.out (RdB.of_own HO5.out rfl) (by simp [headB, treeB])).mono ?_
      rintro e w6 ⟨rfl, γ6, hw6, k6, f6⟩
      have HW6 := Lw.hid hw6
      have K6 : Hid (Kept (fun _ => False) w w6) := Lw.hid (K5.out.trans k6 (fun i hi hk => by rcases hk with h | h; omega; have := HFR.out i h; omega))
      have F6 : Hid (∀ k, blk γ6 k → w.heap.size ≤ k) := Lw.hid (fun k hk => by rcases f6 k hk with h | h; exact HFR.out k h; exact Nat.le_trans K5.out.size h)
      clear hw6 k6 f6
      go_wp2_with fail
      refine (done_any w6 bw γ6 _ HW6.out (by simp [headB, treeB])).mono ?_
      rintro e w7 ⟨r, rfl, γ7, hw7, k7, f7, ho7, hb7⟩
      have HO7 := Lw.hid ho7; have HB7 := Lw.hid hb7
      have K7 : Hid (Kept (fun _ => False) w w7) := Lw.hid (K6.out.trans k7 (fun i hi hk => by rcases hk with h | h; omega; have := F6.out i h; omega))
      clear hw7 k7 f7 ho7 hb7
      go_wp2_with fail
      go_ret
      have e : stateB st (none) = headB st none ++ treeB := by simp [stateB, varB]
      rw [e]
      exact ⟨r, rfl, ⟨HO7.out, fun k hk => Nat.le_trans K6.out.size (HB7.out k hk).1⟩, K7.out⟩
    | some t =>
      have hn0 : (keysO (some t)).length = 1 := rfl
      obtain ⟨gn, rfl⟩ := hsm (by rw [hn0]; decide)
      have r0 : w2.cell? ⟨gn, 0, none⟩ = some (bS [118]) := own_cell HNO.out 0 _ rfl (by rw [hn0]; decide)
      rw [hn0]
      clear hsm hcn hcn2
      go_wp2_with fail
      refine wp_loop_rounds 2 ?_
      rw [rounds_succ]
      have c2 := heap_cell (K2.out.heap HB.out (fun h => h)) 2
      have hlk := look_v (MapAt.kept HM.out K2.out (fun h => h))
      have hfd := fun w => field_v (oldV (some t)) w
      simp only [vV] at hlk
      go_wp2_with fail
      have ht := ho t rfl
      clear r0 c2 hlk hfd
      have WI1 : WI w bw (headB st (some t)) [(2, be 2 1 ++ [118]), (10, be 2 t.length ++ t), (13, [0])] (fun _ => false) γ w2 := ⟨K2.out, HW2.out, by omega, HFR.out⟩
      have hbz : (BA t).size = t.length := BA_size t
      refine wp_region_set 14 (WI w bw (headB st (some t)) [(2, be 2 1 ++ [118]), (10, be 2 t.length ++ t), (13, [0])]) (wR bw) [gV (.pointer (some ⟨bw, 0, none⟩)), gV (bS [118]), gV (.pointer (some ⟨bw, 0, none⟩)), gV (.pointer (some ⟨g, 0, none⟩)), gV (.pointer (some ⟨g, 0, none⟩)), gV (.pointer (some ⟨g, 2, none⟩)), gV (.map (some m)), gV (bS [118]), gV (.agg #[.string (BA t), .bool false]), gV (.string (BA t)), gV (.pointer (some ⟨bw, 0, none⟩)), gV (.int .u8 0), wRow bw [0], gV (.pointer (some ⟨bw, 0, none⟩))] (γ) (by kernel_rfl) (by kernel_rfl) (WI1.same ((Kept.refl _ _).drew)) ?_ ?_
      · refine gsteps_cons (fun D γ a' w' hI hD0 hdep hcl hag hlt hf K hK => ?_) ?_
        · have s3 := hag.same 3 (by decide)
          clear hlt
          clear hag
          go_wp2_with fail
          exact hK _ _ _ (hI.pure (Kept.refl _ _) rfl) (wR.pure (Kept.refl _ _)) rfl
        refine gsteps_cons (fun D γ a' w' hI hD0 hdep hcl hag hlt hf K hK => ?_) ?_
        · have s5 := hag.same 5 (by decide)
          clear hlt
          clear hag
          go_wp2_with fail
          exact hK _ _ _ (hI.pure (Kept.refl _ _) rfl) (wR.pure (Kept.refl _ _)) rfl
        refine gsteps_cons (fun D γ a' w' hI hD0 hdep hcl hag hlt hf K hK => ?_) ?_
        · obtain ⟨⟨_, h0, rfl⟩, ⟨_, h1, rfl⟩, -⟩ : SFacts _ _ a' w' [0, 1] := hf
          clear hlt
          clear hag
          have HI := Lw.hid hI
          clear hI
          go_wp2_with fail
          have d2 : D 2 = false := hD0
          have d10 : D 10 = false := by cases hx : D 10 with | false => rfl | true => exact absurd (hcl 10 _ rfl hx 2 (by decide)) (by rw [d2]; decide)
          have d13 : D 13 = false := by cases hx : D 13 with | false => rfl | true => exact absurd (hcl 13 _ rfl hx 10 (by decide)) (by rw [d10]; decide)
          have hw := HI.out.wr
          rw [show lW (headB st (some t)) [(2, be 2 1 ++ [118]), (10, be 2 t.length ++ t), (13, [0])] D = headB st (some t) by simp [lW, d2, d10, d13]] at hw
          have HWW := Lw.hid hw
          clear hw
          refine (text_any w' bw γ _ (BA [118]) (by decide) HWW.out (by simp [headB])).mono ?_
          rintro e w4 ⟨rfl, hp⟩
          have HP := Lw.hid hp
          clear hp
          go_wp2_with fail
          obtain ⟨γ', hi', hr'⟩ := HI.out.call HP.out (j := 2) (by simp [lW, d2, d10, d13]; rfl)
          exact hK _ γ' _ hi' hr' rfl
        refine gsteps_cons (fun D γ a' w' hI hD0 hdep hcl hag hlt hf K hK => ?_) ?_
        · have s0 := hag.same 0 (by decide)
          clear hlt
          clear hag
          go_wp2_with fail
          exact hK _ _ _ (hI.pure (Kept.refl _ _) rfl) (wR.pure (Kept.refl _ _)) rfl
        refine gsteps_cons (fun D γ a' w' hI hD0 hdep hcl hag hlt hf K hK => ?_) ?_
        · obtain ⟨⟨_, h3, rfl⟩, -⟩ : SFacts _ _ a' w' [3] := hf
          clear hlt
          clear hag
          go_wp2_with fail
          exact hK _ _ _ (hI.pure (Kept.refl _ _) rfl) (wR.pure (Kept.refl _ _)) rfl
        refine gsteps_cons (fun D γ a' w' hI hD0 hdep hcl hag hlt hf K hK => ?_) ?_
        · obtain ⟨⟨_, h4, rfl⟩, -⟩ : SFacts _ _ a' w' [4] := hf
          clear hlt
          clear hag
          go_wp2_with fail
          exact hK _ _ _ (hI.pure (Kept.refl _ _) rfl) (wR.pure (Kept.refl _ _)) rfl
        refine gsteps_cons (fun D γ a' w' hI hD0 hdep hcl hag hlt hf K hK => ?_) ?_
        · obtain ⟨⟨_, h5, rfl⟩, -⟩ : SFacts _ _ a' w' [5] := hf
          clear hlt
          clear hag
          have c2 := heap_cell (hI.kept.heap HB.out (fun h => h)) 2
          go_wp2_with fail
          exact hK _ _ _ (hI.pure (Kept.refl _ _) rfl) (wR.pure (Kept.refl _ _)) rfl
        refine gsteps_cons (fun D γ a' w' hI hD0 hdep hcl hag hlt hf K hK => ?_) ?_
        · have s5 := hag.same 5 (by decide)
          clear hlt
          clear hag
          go_wp2_with fail
          exact hK _ _ _ (hI.pure (Kept.refl _ _) rfl) (wR.pure (Kept.refl _ _)) rfl
        refine gsteps_cons (fun D γ a' w' hI hD0 hdep hcl hag hlt hf K hK => ?_) ?_
        · obtain ⟨⟨_, h6, rfl⟩, ⟨_, h7, rfl⟩, -⟩ : SFacts _ _ a' w' [6, 7] := hf
          clear hlt
          clear hag
          have hlk := look_v (MapAt.kept HM.out hI.kept (fun h => h))
          simp only [vV, oldV, Option.getD_some] at hlk
          go_wp2_with fail
          exact hK _ _ _ (hI.pure (Kept.refl _ _) rfl) (wR.pure (Kept.refl _ _)) rfl
        refine gsteps_cons (fun D γ a' w' hI hD0 hdep hcl hag hlt hf K hK => ?_) ?_
        · obtain ⟨⟨_, h8, rfl⟩, -⟩ : SFacts _ _ a' w' [8] := hf
          clear hlt
          clear hag
          have hfd := fun w => field_v0 t w
          go_wp2_with fail
          exact hK _ _ _ (hI.pure (Kept.refl _ _) rfl) (wR.pure (Kept.refl _ _)) rfl
        refine gsteps_cons (fun D γ a' w' hI hD0 hdep hcl hag hlt hf K hK => ?_) ?_
        · obtain ⟨⟨_, h2, rfl⟩, ⟨_, h9, rfl⟩, -⟩ : SFacts _ _ a' w' [2, 9] := hf
          clear hlt
          clear hag
          have HI := Lw.hid hI
          clear hI
          go_wp2_with fail
          have d2 : D 2 = true := hdep 2 (by decide)
          have d10 : D 10 = false := hD0
          have d13 : D 13 = false := by cases hx : D 13 with | false => rfl | true => exact absurd (hcl 13 _ rfl hx 10 (by decide)) (by rw [d10]; decide)
          have hw := HI.out.wr
          rw [show lW (headB st (some t)) [(2, be 2 1 ++ [118]), (10, be 2 t.length ++ t), (13, [0])] D = headB st (some t) ++ (be 2 1 ++ [118]) by simp [lW, d2, d10, d13]] at hw
          have HWW := Lw.hid hw
          clear hw
          refine (text_any w' bw γ _ (BA t) (by rw [hbz]; omega) HWW.out (by simp [headB, be_length])).mono ?_
          rintro e w4 ⟨rfl, hp⟩
          have HP := Lw.hid hp
          clear hp
          go_wp2_with fail
          obtain ⟨γ', hi', hr'⟩ := HI.out.call HP.out (j := 10) (by simp [lW, d2, d10, d13]; rw [hbz]; rfl)
          exact hK _ γ' _ hi' hr' rfl
        refine gsteps_cons (fun D γ a' w' hI hD0 hdep hcl hag hlt hf K hK => ?_) ?_
        · have s6 := hag.same 6 (by decide)
          clear hlt
          clear hag
          go_wp2_with fail
          exact hK _ _ _ (hI.pure (Kept.refl _ _) rfl) (wR.pure (Kept.refl _ _)) rfl
        refine gsteps_cons (fun D γ a' w' hI hD0 hdep hcl hag hlt hf K hK => ?_) ?_
        · obtain ⟨⟨_, h11, rfl⟩, -⟩ : SFacts _ _ a' w' [11] := hf
          clear hlt
          clear hag
          have HI := Lw.hid hI
          clear hI
          go_wp2_with fail
          have k5 : Kept (fun _ => False) w' (w'.alloc (.cells #[.int .u8 0] 5)) := (Kept.refl _ w').alloc _
          have hbl : bw < w'.heap.size := by obtain ⟨T, hT⟩ := HI.out.wr.1; exact heap_lt hT
          have hgl := own_lt HI.out.wr.2.1
          exact hK _ _ _ (HI.out.pure k5 rfl) (wR.pure k5) ⟨RdB.lit w' [0] _ 1 rfl (by unfold maxLen; omega), fun k hk => by
              have e : k = w'.heap.size := blk_some hk
              rw [e]
              exact ⟨by omega, fun h => by have := hgl _ h; omega, by simp⟩⟩
        refine gsteps_cons (fun D γ a' w' hI hD0 hdep hcl hag hlt hf K hK => ?_) ?_
        · obtain ⟨⟨_, h10, rfl⟩, ⟨v12, h12, e12⟩, -⟩ : SFacts _ _ a' w' [10, 12] := hf
          clear hlt
          clear hag
          obtain ⟨hr1, hr2⟩ := e12
          have HR := Lw.hid hr1
          clear hr1 hr2
          have HI := Lw.hid hI
          clear hI
          go_wp2_with fail
          have d10 : D 10 = true := hdep 10 (by decide)
          have d2 : D 2 = true := hcl 10 _ rfl d10 2 (by decide)
          have d13 : D 13 = false := hD0
          have hw := HI.out.wr
          rw [show lW (headB st (some t)) [(2, be 2 1 ++ [118]), (10, be 2 t.length ++ t), (13, [0])] D = headB st (some t) ++ (be 2 1 ++ [118]) ++ (be 2 t.length ++ t) by simp [lW, d2, d10, d13]] at hw
          have HWW := Lw.hid hw
          clear hw
          refine (byte_any w' bw γ _ _ [0] HWW.out HR.out (by simp [headB, be_length]; omega)).mono ?_
          rintro e w4 ⟨rfl, hp⟩
          have HP := Lw.hid hp
          clear hp
          go_wp2_with fail
          obtain ⟨γ', hi', hr'⟩ := HI.out.call HP.out (j := 13) (by simp [lW, d2, d10, d13])
          exact hK _ γ' _ hi' hr' rfl
        exact trivial
      · intro vs γ wy hI hvs
        have q0 : vs 0 = (.pointer (some ⟨bw, 0, none⟩)) := hvs 0 _ _ rfl rfl
        have q1 : vs 1 = (bS [118]) := hvs 1 _ _ rfl rfl
        have q2 : vs 2 = (.pointer (some ⟨bw, 0, none⟩)) := hvs 2 _ _ rfl rfl
        have q3 : vs 3 = (.pointer (some ⟨g, 0, none⟩)) := hvs 3 _ _ rfl rfl
        have q4 : vs 4 = (.pointer (some ⟨g, 0, none⟩)) := hvs 4 _ _ rfl rfl
        have q5 : vs 5 = (.pointer (some ⟨g, 2, none⟩)) := hvs 5 _ _ rfl rfl
        have q6 : vs 6 = (.map (some m)) := hvs 6 _ _ rfl rfl
        have q7 : vs 7 = (bS [118]) := hvs 7 _ _ rfl rfl
        have q8 : vs 8 = (.agg #[.string (BA t), .bool false]) := hvs 8 _ _ rfl rfl
        have q9 : vs 9 = (.string (BA t)) := hvs 9 _ _ rfl rfl
        have q10 : vs 10 = (.pointer (some ⟨bw, 0, none⟩)) := hvs 10 _ _ rfl rfl
        have q11 : vs 11 = (.int .u8 0) := hvs 11 _ _ rfl rfl
        have q12 := hvs 12 _ _ rfl rfl
        have q13 : vs 13 = (.pointer (some ⟨bw, 0, none⟩)) := hvs 13 _ _ rfl rfl
        clear hvs
        simp only [List.take_succ_cons, List.take_zero, List.drop_succ_cons, List.drop_zero, putAll, Act.put, List.setIfInBounds_toArray, List.set_cons_zero, List.set_cons_succ, Nat.reduceAdd, q0, q1, q2, q3, q4, q5, q6, q7, q8, q9, q10, q11, q13]
        clear q0 q1 q2 q3 q4 q5 q6 q7 q8 q9 q10 q11 q13
        generalize vs 12 = x12 at *
        have HFR := Lw.hid hI.fr; have K3 := Lw.hid hI.kept
        have HW3 : Hid (WriterAt wy bw γ (headB st (some t) ++ (be 2 1 ++ [118]) ++ (be 2 t.length ++ t) ++ [0]) 0) := Lw.hid hI.wr
        clear hI q12 WI1
        go_wp2_with fail
        rw [rounds_succ]
        obtain ⟨wq, hwq⟩ : ∃ wq, wy = wq := ⟨_, rfl⟩
        have KQ : Hid (Kept (fun _ => False) w wq) := by rw [← hwq]; exact K3
        have WQ : Hid (WriterAt wq bw γ (headB st (some t) ++ (be 2 1 ++ [118]) ++ (be 2 t.length ++ t) ++ [0]) 0) := by rw [← hwq]; exact HW3
        rw [hwq]
        clear hwq
        have c1 := heap_cell (KQ.out.heap HB.out (fun h => h)) 1
        go_wp2_with fail
        refine (tbytes_any wq _ ft (HT.out.kept KQ.out (fun _ _ h => h))).mono ?_
        rintro e w5 ⟨vt, rfl, ⟨ho5, hb5⟩, k5⟩
        have HO5 := Lw.hid ho5; have K5 := Lw.hid (KQ.out.trans k5 (fun _ _ h => h))
        have HW5 := Lw.hid (WQ.out.kept k5 (fun h => h) (fun _ _ h => h))
        clear ho5 hb5 k5 c1
        go_wp2_with fail
        refine (byte_any w5 bw γ _ vt treeB HW5.out (RdB.of_own HO5.out rfl) (by simp [headB, treeB, be_length]; omega)).mono ?_
        rintro e w6 ⟨rfl, γ6, hw6, k6, f6⟩
        have HW6 := Lw.hid hw6
        have K6 : Hid (Kept (fun _ => False) w w6) := Lw.hid (K5.out.trans k6 (fun i hi hk => by rcases hk with h | h; omega; have := HFR.out i h; omega))
        have F6 : Hid (∀ k, blk γ6 k → w.heap.size ≤ k) := Lw.hid (fun k hk => by rcases f6 k hk with h | h; exact HFR.out k h; exact Nat.le_trans K5.out.size h)
        clear hw6 k6 f6
        go_wp2_with fail
        refine (done_any w6 bw γ6 _ HW6.out (by simp [headB, treeB, be_length]; omega)).mono ?_
        rintro e w7 ⟨r, rfl, γ7, hw7, k7, f7, ho7, hb7⟩
        have HO7 := Lw.hid ho7; have HB7 := Lw.hid hb7
        have K7 : Hid (Kept (fun _ => False) w w7) := Lw.hid (K6.out.trans k7 (fun i hi hk => by rcases hk with h | h; omega; have := F6.out i h; omega))
        clear hw7 k7 f7 ho7 hb7
        go_wp2_with fail
        go_ret
        have e : stateB st (some t) = (headB st (some t) ++ (be 2 1 ++ [118]) ++ (be 2 t.length ++ t) ++ [0]) ++ treeB := by simp [stateB, varB]
        rw [e]
        exact ⟨r, rfl, ⟨HO7.out, fun k hk => Nat.le_trans K6.out.size (HB7.out k hk).1⟩, K7.out⟩
end Go.Proofs.YtgegjjnfcnalfaaGreatDoor
