/- ResumeTells, walked. -/
import Derived.Test.YtbmfnepbdfnlaaaLaw13
namespace Go.Proofs.Ytbmfnepbdfnlaaa
open Go Go.RowKit Go.Lw
set_option maxRecDepth 100000
set_option linter.unusedVariables false
set_option linter.unusedSimpArgs false
theorem grow2 {w wr w5 : World} (hk : Kept (fun _ => False) w wr) {e sz n n' : Nat} {v v' : Value} {xs xs' : List Value} (hb : ∀ k, blk v k → w.heap.size ≤ k) {o1 o2 : Obj}
    (hg : ((wr.alloc o1).alloc o2).grownBy w5 v.ownBlock) (hf : Fresh ((wr.alloc o1).alloc o2) v v') : Kept (fun _ => False) w w5 ∧ ∀ k, blk v' k → w.heap.size ≤ k :=
  ⟨((hk.alloc o1).alloc o2).grown hg (fun k e hlt => absurd (hb k e) (by omega)), fun k hk' => by
    rcases hf k hk' with h1 | h1
    · exact hb k h1
    · have := hk.size; simp at h1; omega⟩
theorem past_len {nx last : Nat} {l : List Hv} : ((pastF nx last l).take 40).take 40 = (pastF nx last l).take 40 := by rw [List.take_take]; rfl
set_option maxHeartbeats 16000000 in
theorem rtells_any (w : World) (nx last : Nat) (v : Value) (l0 : List Hv) (hl : RdH w v l0) (hnx : nx < 4294967296) (hla : last < 4294967296) :
    Calls Try.prog 4 #[askV nx v, u32v last] w fun x w' => x = .returned (.bool true) ∧ Below w.heap.size w w' := by
  obtain ⟨ad, m0, cap, rfl⟩ := hl.sl
  have HL := Lw.hid hl
  obtain ⟨l, hlq⟩ : ∃ l, l0.take 20 = l := ⟨_, rfl⟩
  have HLN : Hid (l.length ≤ 20) := Lw.hid (by rw [← hlq]; exact List.length_take_le _ _)
  have HLQ := Lw.hid hlq
  clear hl hlq
  obtain ⟨AG, hAG⟩ : ∃ x, againF nx last l = x := ⟨_, rfl⟩
  obtain ⟨RP, hRP⟩ : ∃ x, replayF nx last l = x := ⟨_, rfl⟩
  obtain ⟨PA, hPA⟩ : ∃ x, (pastF nx last l).take 40 = x := ⟨_, rfl⟩
  obtain ⟨r, hr⟩ : ∃ x, fitsF nx last l = x := ⟨_, rfl⟩
  have hA40 : AG.take 40 = AG := List.take_of_length_le (by have := again_len (nx := nx) (last := last) (l := l); rw [hAG] at this; have := HLN.out; omega)
  have hR20 : RP.length ≤ 20 := by rw [← hRP]; unfold replayF; split; exact Nat.le_trans (List.length_filter_le _ _) HLN.out; simp
  have hR40 : RP.take 40 = RP := List.take_of_length_le (by omega)
  have HAG := Lw.hid hAG; have HRP := Lw.hid hRP; have HPA := Lw.hid hPA; have HR := Lw.hid hr; have HA40 := Lw.hid hA40; have HR40 := Lw.hid hR40
  clear hAG hRP hPA hr hA40 hR40
  go_enter Try.func4, Try.ntmps4
  go_wp2_with fail
  refine (few_any _ nx _ l0 (HL.out.keptF ((Kept.refl _ w).alloc _))).mono ?_
  rintro e w1 ⟨va, rfl, ho1, k1⟩
  rw [HLQ.out] at ho1
  have hb1 := k1.heap (heap_at w _ rfl) (fun h => h)
  obtain ⟨ada, ma, cpa, rfl⟩ := ho1.1.sl
  have g0 := heap_cell hb1 0; have g1 := heap_cell hb1 1; have f0 := heap_free hb1 0; have f1 := heap_free hb1 1
  obtain ⟨w2, hw2⟩ : ∃ w2, (w1.setCell ⟨w.heap.size, 0, none⟩ (.int .u32 (nx : Int))).setCell ⟨w.heap.size, 1, none⟩ (.slice ada ma cpa) = w2 := ⟨_, rfl⟩
  have k12 : Kept (fun k => k = w.heap.size) w1 w2 := by rw [← hw2]; exact ((Kept.refl (fun k => k = w.heap.size) w1).set _ _ (fun _ => rfl) _).set _ _ (fun _ => rfl) _
  have hb2 : w2.heap[w.heap.size]? = some (.cells #[u32v nx, .slice ada ma cpa] 26 (0, 0)) := by rw [← hw2]; exact heap_set (heap_set hb1 0 _) 1 _
  have k2 : Kept (fun _ => False) w w2 := (((Kept.refl _ w).alloc _).trans k1 (fun _ _ h => h)).trans k12 (fun i hi e => by omega)
  have ho2 : OwnH (w.heap.size + 1) l (.slice ada ma cpa) w2 := by
    have hs : (w.alloc (.cells #[u32v nx, .slice ad m0 cap] 26)).heap.size = w.heap.size + 1 := by simp
    rw [hs] at ho1
    exact ⟨ho1.1.kept k12 (fun i hi e => by have := (ho1.2 i hi).1; omega), fun i hi => ⟨(ho1.2 i hi).1, Nat.lt_of_lt_of_le (ho1.2 i hi).2 k12.size⟩⟩
  have HO2 := Lw.hid ho2; have K2 := Lw.hid k2; have HB2 := Lw.hid hb2; have HW2 := Lw.hid hw2
  clear ho1 k1 hb1 k12 hw2 ho2 k2 hb2
  go_upto_region 2 with fail
  rw [HW2.out]
  clear g0 g1 f0 f1
  have g0 := heap_cell HB2.out 0; have g1 := heap_cell HB2.out 1
  go_wp2_with fail
  refine (of_any w2 nx _ l HO2.out.1 (by have := HLN.out; omega)).mono ?_
  rintro e w3 ⟨vb, rfl, ho3, k3⟩
  obtain ⟨adb, mb, cpb, rfl⟩ := ho3.1.sl
  obtain ⟨wz, hwz⟩ : ∃ wz, w3.alloc (.cells #[.int .u32 (nx : Int), .slice adb mb cpb] 44) = wz := ⟨_, rfl⟩
  have K3 : Hid (Kept (fun _ => False) w2 wz) := Lw.hid (by rw [← hwz]; exact k3.alloc _)
  have HBA : Hid (wz.heap[w.heap.size]? = some (.cells #[u32v nx, .slice ada ma cpa] 26 (0, 0))) := Lw.hid (K3.out.heap HB2.out (fun h => h))
  have HBB : Hid (wz.heap[w3.heap.size]? = some (.cells #[u32v nx, .slice adb mb cpb] 44 (0, 0))) := Lw.hid (by rw [← hwz]; exact heap_at _ _ rfl)
  have HOA : Hid (OwnH (w.heap.size + 1) l (.slice ada ma cpa) wz) := Lw.hid (HO2.out.keptF K3.out)
  have HOB : Hid (OwnH w2.heap.size l (.slice adb mb cpb) wz) := Lw.hid (by rw [← hwz]; exact ho3.keptF ((Kept.refl _ w3).alloc _))
  have KZ : Hid (Kept (fun _ => False) w wz) := Lw.hid (K2.out.trans K3.out (fun _ _ h => h))
  have HWZ := Lw.hid hwz
  obtain ⟨B2, hB2⟩ : ∃ B2, w3.heap.size = B2 := ⟨_, rfl⟩
  rw [hB2] at HBB
  have HB2' := Lw.hid hB2
  clear ho3 k3 hwz g0 g1 hB2
  go_upto_region 3 with fail
  rw [HWZ.out, HB2'.out]
  clear HWZ HB2' HO2 HB2 K2 K3
  refine wp_region_tail 6 [stV (askV nx (.slice adb mb cpb)), stV (u32v last), stU AG, stV (askV nx (.slice adb mb cpb)), stV (u32v last), stU PA] (by kernel_rfl) (by kernel_rfl) ?_ ?_
  · -- each operation by itself
    refine ssteps_cons (fun a' w' hI hag hf K hK => ?_) ?_
    · have s5 := hag.same 5 (by decide)
      clear hag
      have hh := hI.heap HBB.out (fun h => h)
      have c0 := heap_cell hh 0; have c1 := heap_cell hh 1
      clear hh
      go_wp2_with fail
      exact hK _ _ hI (Kept.refl _ _) rfl
    refine ssteps_cons (fun a' w' hI hag hf K hK => ?_) ?_
    · have s1 := hag.same 1 (by decide)
      clear hag
      go_wp2_with fail
      exact hK _ _ hI (Kept.refl _ _) rfl
    refine ssteps_cons (fun a' w' hI hag hf K hK => ?_) ?_
    · obtain ⟨⟨_, h0, rfl⟩, ⟨_, h1, rfl⟩, -⟩ : SFacts _ _ a' w' [0, 1] := hf
      clear hag
      go_wp2_with fail
      refine (ragain_any w' _ l (HOB.out.1.keptF hI) nx last hnx hla (by have := HLN.out; omega)).mono ?_
      rintro e w4 ⟨v4, rfl, ho, _, k4⟩
      rw [HAG.out] at ho
      have HO := Lw.hid ho
      clear ho
      go_wp2_with fail
      exact hK _ _ (hI.trans k4 (fun _ _ h => h)) k4 (RdU.own HO.out rfl)
    refine ssteps_cons (fun a' w' hI hag hf K hK => ?_) ?_
    · have s5 := hag.same 5 (by decide)
      clear hag
      have hh := hI.heap HBB.out (fun h => h)
      have c0 := heap_cell hh 0; have c1 := heap_cell hh 1
      clear hh
      go_wp2_with fail
      exact hK _ _ hI (Kept.refl _ _) rfl
    refine ssteps_cons (fun a' w' hI hag hf K hK => ?_) ?_
    · have s1 := hag.same 1 (by decide)
      clear hag
      go_wp2_with fail
      exact hK _ _ hI (Kept.refl _ _) rfl
    refine ssteps_cons (fun a' w' hI hag hf K hK => ?_) ?_
    · obtain ⟨⟨_, h3, rfl⟩, ⟨_, h4, rfl⟩, -⟩ : SFacts _ _ a' w' [3, 4, 2] := hf
      clear hag
      go_wp2_with fail
      refine (rpast_any w' _ l (HOB.out.1.keptF hI) nx last 40 hnx hla (by decide) (by have := HLN.out; omega)).mono ?_
      rintro e w4 ⟨v4, rfl, ho, _, k4⟩
      rw [HPA.out] at ho
      have HO := Lw.hid ho
      clear ho
      go_wp2_with fail
      exact hK _ _ (hI.trans k4 (fun _ _ h => h)) k4 (RdU.own HO.out rfl)
    exact trivial
  · intro vs wy hI hvs
    have q0 : vs 0 = (askV nx (.slice adb mb cpb)) := hvs 0 _ _ rfl rfl
    have q1 : vs 1 = (u32v last) := hvs 1 _ _ rfl rfl
    have q2 := hvs 2 _ _ rfl rfl
    have q3 : vs 3 = (askV nx (.slice adb mb cpb)) := hvs 3 _ _ rfl rfl
    have q4 : vs 4 = (u32v last) := hvs 4 _ _ rfl rfl
    have q5 := hvs 5 _ _ rfl rfl
    clear hvs
    simp only [List.take_succ_cons, List.take_zero, List.drop_succ_cons, List.drop_zero, putAll, Act.put, List.setIfInBounds_toArray, List.set_cons_zero, List.set_cons_succ, Nat.reduceAdd, q0, q1, q3, q4]
    clear q0 q1 q3 q4
    generalize vs 2 = x2 at *
    generalize vs 5 = x5 at *
    have Q2 : Hid (RdU wy x2 AG) := Lw.hid q2
    have Q5 : Hid (RdU wy x5 PA) := Lw.hid q5
    have HBAy := Lw.hid (hI.heap HBA.out (fun h => h)); have HBBy := Lw.hid (hI.heap HBB.out (fun h => h)); have HOAy := Lw.hid (HOA.out.keptF hI); have HOBy := Lw.hid (HOB.out.keptF hI); have KY := Lw.hid (KZ.out.trans hI (fun _ _ h => h))
    clear q2 q5 HBA HBB HOA HOB KZ
    have g0 := heap_cell HBAy.out 0; have g1 := heap_cell HBAy.out 1
    go_wp2_with fail
    refine (replay_any wy nx last _ l HOAy.out.1).mono ?_
    rintro e w6 ⟨BA, BL, rfl, hat, k6, _, _⟩
    have HAT := Lw.hid hat; have K6 := Lw.hid k6
    have HV6 : Hid (∀ w', Kept (fun _ => False) w6 w' → ∀ k, blk (.slice ada ma cpa) k → k < w'.heap.size) := Lw.hid (fun w' kw k hk => by have := (HOAy.out.2 k hk).2; have := K6.out.size; have := kw.size; omega)
    clear hat k6
    go_wp2_with fail
    refine (firstH_any w6 40 _ 40 RP (AskR BA BL _) (fun wx kx => by rw [← HRP.out]; exact replay_iter wx BA BL nx last _ l (HAT.out.keptF kx) (HV6.out wx kx) hnx hla (by have := HLN.out; omega)) (HAT.out.lt (HV6.out _ (Kept.refl _ _))) (Go.Proofs.enters_of Try.func40 (by kernel_rfl) rfl) (by decide)).mono ?_
    rintro e w7 ⟨v7, rfl, ho, _, k7⟩
    rw [HR40.out] at ho
    have HRP7 : Hid (∀ x ∈ RP, x.ok) := Lw.hid (fun x hx => HOAy.out.1.2 x (by rw [← HRP.out] at hx; unfold replayF at hx; split at hx; exact (List.mem_filter.1 hx).1; cases hx))
    have h7 : RdH w7 v7 RP := rdh_own ho rfl HRP7.out
    obtain ⟨ad7, cp7, rfl, hc1, hc2, _⟩ := h7.shape
    have H7 := Lw.hid h7; have K7 := Lw.hid (K6.out.trans k7 (fun _ _ h => h))
    obtain ⟨n, hn⟩ : ∃ n, RP.length = n := ⟨_, rfl⟩
    have HN := Lw.hid hn
    rw [hn] at hc1 hR20 H7 ⊢
    clear ho h7 k7 hn g0 g1
    go_wp2_with fail
    go_loopg [8, 26] n (fun gk c i wr => ∃ k : Nat, gk = n - k ∧ k ≤ n ∧ i = .int .i64 k ∧ Kept (fun _ => False) w7 wr ∧ wr.ownsRow 0 50 4 c k ((RP.take k).flatMap Hv.cells) ∧ ∀ g, blk c g → w7.heap.size ≤ g)
    case atStart => exact ⟨0, rfl, Nat.zero_le _, rfl, Kept.refl _ _, World.ownsRow_nil _ _ _ _, fun g h => (blk_none h).elim⟩
    case round =>
      obtain ⟨k, rfl, hk, rfl, hkk, ho, hb⟩ := hrel
      have HKK := Lw.hid hkk; have HO := Lw.hid ho; have HB := Lw.hid hb
      obtain ⟨ad8, cap8, rfl, hd1, hd2, _⟩ := own_slice ho
      unfold maxLen at hd2
      clear hkk ho hb
      by_cases hlt : k < n
      · have hlt' : k < RP.length := by rw [HN.out]; exact hlt
        obtain ⟨g, off, rfl, q0, q1, q2, q3⟩ := hv_at (H7.out.keptF HKK.out) hlt'
        have HT := Lw.hid (take_snoc RP k hlt')
        obtain ⟨t, ht⟩ : ∃ t, RP[k] = t := ⟨_, rfl⟩
        rw [ht] at q0 q1 q2 q3 HT
        clear ht
        have e1 : Hid (((wr.alloc (.cells ([u32v t.id, u32v t.out, u32v t.er, .bool t.st] : List Value).toArray 35)).alloc (.cells ([u32v t.id, u32v t.out, u32v t.er, .bool t.st] : List Value).toArray 50)).ownsRow 0 50 4 (.slice ad8 k cap8) k ((RP.take k).flatMap Hv.cells)) := Lw.hid (own_kept (((Kept.refl (fun _ => False) wr).alloc _).alloc _) HO.out (fun _ _ h => h))
        go_wp2_with (at_builtin; refine wpList_app rfl _ _ _ rfl ERv _ k _ rfl e1.out _ 1 _ rfl (Rd.lit (wr.alloc (.cells ([u32v t.id, u32v t.out, u32v t.er, .bool t.st] : List Value).toArray 35)) [u32v t.id, u32v t.out, u32v t.er, .bool t.st] 50 4 _ 1 (by simp) rfl (by decide)) (Hv.one t) (by unfold maxLen; omega) (by omega) ?_; intro ad' cap' w5 ho' hg hf; obtain ⟨hk5, hb5⟩ := grow2 (e := 0) (sz := 0) (n := 0) (n' := 0) (xs := []) (xs' := []) HKK.out HB.out hg hf; have HK5 := Lw.hid hk5; have HO5 := Lw.hid ho'; have HB5 := Lw.hid hb5; clear ho' hg hf hk5 hb5)
        go_roundg (n - (k + 1))
        case measure => omega
        case rel => exact ⟨k + 1, rfl, hlt, by go_num, HK5.out, by rw [HT.out, List.flatMap_append]; exact HO5.out, HB5.out⟩
      · obtain rfl : k = n := by omega
        have HX8 : Hid (RdH wr (.slice ad8 k cap8) RP) := Lw.hid (rdh_own (n := k) (by have := HO.out; rwa [List.take_of_length_le (by rw [HN.out]; exact Nat.le_refl _)] at this) HN.out.symm HRP7.out)
        have K8 : Hid (Kept (fun _ => False) wy wr) := Lw.hid (K7.out.trans HKK.out (fun _ _ h => h))
        have HBAr := Lw.hid (K8.out.heap HBAy.out (fun h => h)); have HBBr := Lw.hid (K8.out.heap HBBy.out (fun h => h)); have HOAr := Lw.hid (HOAy.out.keptF K8.out); have HOBr := Lw.hid (HOBy.out.keptF K8.out); have KR := Lw.hid (KY.out.trans K8.out (fun _ _ h => h))
        have Q2r := Lw.hid (Q2.out.keptF K8.out); have Q5r := Lw.hid (Q5.out.keptF K8.out)
        have HBV : Hid (∀ w', Kept (fun _ => False) wr w' → ∀ k, blk (.slice ada ma cpa) k → k < w'.heap.size) := Lw.hid (fun w' kw k hk => by have := (HOAr.out.2 k hk).2; have := kw.size; omega)
        clear HBAy HBBy HOAy HOBy KY K6 K7 K8 HO HB HKK HAT HV6 hd1 hd2 hlt
        go_upto_region 10 with fail
        refine wp_region_kept [stV (askV nx (.slice ada ma cpa)), stV (u32v last), stV (.int .i64 (r : Int)), stV (askV nx (.slice adb mb cpb)), stV (u32v last), stV (.int .i64 (r : Int)), stV (.bool true), stV (.bool true), stV (askV nx (.slice ada ma cpa)), stV (u32v last), stI 36 nx last (.slice ada ma cpa) l, stU AG, stV x2, stV (.bool true), stV (.bool true), stV (.bool true), stV (.slice ad8 k cap8), stV (askV nx (.slice adb mb cpb)), stV (u32v last), stH RP, stV (.bool true), stV (.bool true), stV (.bool true), stV (askV nx (.slice ada ma cpa)), stV (u32v last), stI 41 nx last (.slice ada ma cpa) l, stU PA, stV x5, stV (.bool true), stV (.bool true), stV (.bool true), stV (.bool true), stV (.bool true), stV (.bool true)] (by kernel_rfl) (by kernel_rfl) ?_ ?_
        · -- each operation by itself
          refine ssteps_cons (fun a' w' hI hag hf K hK => ?_) ?_
          · have s2 := hag.same 2 (by decide)
            clear hag
            have hh := hI.heap HBAr.out (fun h => h)
            have c0 := heap_cell hh 0; have c1 := heap_cell hh 1
            clear hh
            go_wp2_with fail
            exact hK _ _ hI (Kept.refl _ _) rfl
          refine ssteps_cons (fun a' w' hI hag hf K hK => ?_) ?_
          · have s1 := hag.same 1 (by decide)
            clear hag
            go_wp2_with fail
            exact hK _ _ hI (Kept.refl _ _) rfl
          refine ssteps_cons (fun a' w' hI hag hf K hK => ?_) ?_
          · obtain ⟨⟨_, h0, rfl⟩, ⟨_, h1, rfl⟩, -⟩ : SFacts _ _ a' w' [0, 1] := hf
            clear hag
            go_wp2_with fail
            refine (fits_any w' _ l (HOAr.out.1.keptF hI) nx last hnx hla (by have := HLN.out; omega) (HBV.out _ hI)).mono ?_
            rintro e w4 ⟨rfl, k4⟩
            rw [HR.out]
            go_wp2_with fail
            exact hK _ _ (hI.trans k4 (fun _ _ h => h)) k4 rfl
          refine ssteps_cons (fun a' w' hI hag hf K hK => ?_) ?_
          · have s5 := hag.same 5 (by decide)
            clear hag
            have hh := hI.heap HBBr.out (fun h => h)
            have c0 := heap_cell hh 0; have c1 := heap_cell hh 1
            clear hh
            go_wp2_with fail
            exact hK _ _ hI (Kept.refl _ _) rfl
          refine ssteps_cons (fun a' w' hI hag hf K hK => ?_) ?_
          · have s1 := hag.same 1 (by decide)
            clear hag
            go_wp2_with fail
            exact hK _ _ hI (Kept.refl _ _) rfl
          refine ssteps_cons (fun a' w' hI hag hf K hK => ?_) ?_
          · obtain ⟨⟨_, h3, rfl⟩, ⟨_, h4, rfl⟩, -⟩ : SFacts _ _ a' w' [3, 4, 2] := hf
            clear hag
            go_wp2_with fail
            refine (rfits_any w' _ l (HOBr.out.1.keptF hI) nx last hnx hla (by have := HLN.out; omega)).mono ?_
            rintro e w4 ⟨rfl, k4⟩
            rw [HR.out]
            go_wp2_with fail
            exact hK _ _ (hI.trans k4 (fun _ _ h => h)) k4 rfl
          refine ssteps_cons (fun a' w' hI hag hf K hK => ?_) ?_
          · obtain ⟨⟨_, h2, rfl⟩, ⟨_, h5, rfl⟩, -⟩ : SFacts _ _ a' w' [2, 5] := hf
            clear hag
            have hqq : ((r : Int) == (r : Int)) = true := by simp
            go_wp2_with fail
            exact hK _ _ hI (Kept.refl _ _) rfl
          refine ssteps_cons (fun a' w' hI hag hf K hK => ?_) ?_
          · obtain ⟨⟨_, h6, rfl⟩, -⟩ : SFacts _ _ a' w' [6, 5] := hf
            clear hag
            go_wp2_with fail
            exact hK _ _ hI (Kept.refl _ _) rfl
          refine ssteps_cons (fun a' w' hI hag hf K hK => ?_) ?_
          · obtain ⟨⟨_, h7, rfl⟩, -⟩ : SFacts _ _ a' w' [7] := hf
            have s2 := hag.same 2 (by decide)
            clear hag
            have hh := hI.heap HBAr.out (fun h => h)
            have c0 := heap_cell hh 0; have c1 := heap_cell hh 1
            clear hh
            go_wp2_with fail
            exact hK _ _ hI (Kept.refl _ _) rfl
          refine ssteps_cons (fun a' w' hI hag hf K hK => ?_) ?_
          · obtain ⟨⟨_, h7, rfl⟩, -⟩ : SFacts _ _ a' w' [7] := hf
            have s1 := hag.same 1 (by decide)
            clear hag
            go_wp2_with fail
            exact hK _ _ hI (Kept.refl _ _) rfl
          refine ssteps_cons (fun a' w' hI hag hf K hK => ?_) ?_
          · obtain ⟨⟨_, h8, rfl⟩, ⟨_, h9, rfl⟩, ⟨_, h7, rfl⟩, -⟩ : SFacts _ _ a' w' [8, 9, 7] := hf
            clear hag
            go_wp2_with fail
            refine (again_any w' nx last _ l (HOAr.out.1.keptF hI)).mono ?_
            rintro e w4 ⟨BA, BL, rfl, hat, k4, _, _⟩
            have HAT := Lw.hid hat
            clear hat
            go_wp2_with fail
            exact hK _ _ (hI.trans k4 (fun _ _ h => h)) k4 ⟨BA, BL, rfl, HAT.out⟩
          refine ssteps_cons (fun a' w' hI hag hf K hK => ?_) ?_
          · obtain ⟨⟨v10, h10, e10⟩, ⟨_, h7, rfl⟩, -⟩ : SFacts _ _ a' w' [10, 7] := hf
            clear hag
            obtain ⟨BA, BL, rfl, hat⟩ := e10
            have HAT := Lw.hid hat
            clear hat
            go_wp2_with fail
            refine (first_any w' 36 _ 40 _ (AskR BA BL _) (fun wx kx => again_iter wx BA BL nx last _ l (HAT.out.keptF kx) (HBV.out _ (hI.trans kx (fun _ _ h => h))) hnx hla (by have := HLN.out; omega)) (HAT.out.lt (HBV.out _ hI)) (Go.Proofs.enters_of Try.func36 (by kernel_rfl) rfl) (by decide)).mono ?_
            rintro e w4 ⟨v4, rfl, ho, _, k4⟩
            rw [HAG.out, HA40.out] at ho
            have HO := Lw.hid ho
            clear ho
            go_wp2_with fail
            exact hK _ _ (hI.trans k4 (fun _ _ h => h)) k4 (RdU.own HO.out rfl)
          refine ssteps_cons (fun a' w' hI hag hf K hK => ?_) ?_
          · obtain ⟨⟨_, h7, rfl⟩, -⟩ : SFacts _ _ a' w' [7] := hf
            have s6 := hag.same 6 (by decide)
            clear hag
            go_wp2_with fail
            exact hK _ _ hI (Kept.refl _ _) rfl
          refine ssteps_cons (fun a' w' hI hag hf K hK => ?_) ?_
          · obtain ⟨⟨v11, h11, e11⟩, ⟨_, h12, rfl⟩, ⟨_, h7, rfl⟩, -⟩ : SFacts _ _ a' w' [11, 12, 7] := hf
            clear hag
            have E1 := Lw.hid e11
            clear e11
            go_wp2_with fail
            refine (equ_any w' _ _ AG AG E1.out (Q2r.out.keptF hI) true (by simp)).mono ?_
            rintro e w4 ⟨rfl, k4⟩
            go_wp2_with fail
            exact hK _ _ (hI.trans k4 (fun _ _ h => h)) k4 rfl
          refine ssteps_cons (fun a' w' hI hag hf K hK => ?_) ?_
          · obtain ⟨⟨_, h7, rfl⟩, ⟨_, h13, rfl⟩, -⟩ : SFacts _ _ a' w' [7, 13] := hf
            clear hag
            go_wp2_with fail
            exact hK _ _ hI (Kept.refl _ _) rfl
          refine ssteps_cons (fun a' w' hI hag hf K hK => ?_) ?_
          · obtain ⟨⟨_, h14, rfl⟩, -⟩ : SFacts _ _ a' w' [14, 13] := hf
            clear hag
            go_wp2_with fail
            exact hK _ _ hI (Kept.refl _ _) rfl
          refine ssteps_cons (fun a' w' hI hag hf K hK => ?_) ?_
          · obtain ⟨⟨_, h15, rfl⟩, -⟩ : SFacts _ _ a' w' [15] := hf
            have s8 := hag.same 8 (by decide)
            clear hag
            go_wp2_with fail
            exact hK _ _ hI (Kept.refl _ _) rfl
          refine ssteps_cons (fun a' w' hI hag hf K hK => ?_) ?_
          · obtain ⟨⟨_, h15, rfl⟩, -⟩ : SFacts _ _ a' w' [15] := hf
            have s5 := hag.same 5 (by decide)
            clear hag
            have hh := hI.heap HBBr.out (fun h => h)
            have c0 := heap_cell hh 0; have c1 := heap_cell hh 1
            clear hh
            go_wp2_with fail
            exact hK _ _ hI (Kept.refl _ _) rfl
          refine ssteps_cons (fun a' w' hI hag hf K hK => ?_) ?_
          · obtain ⟨⟨_, h15, rfl⟩, -⟩ : SFacts _ _ a' w' [15] := hf
            have s1 := hag.same 1 (by decide)
            clear hag
            go_wp2_with fail
            exact hK _ _ hI (Kept.refl _ _) rfl
          refine ssteps_cons (fun a' w' hI hag hf K hK => ?_) ?_
          · obtain ⟨⟨_, h17, rfl⟩, ⟨_, h18, rfl⟩, ⟨_, h15, rfl⟩, -⟩ : SFacts _ _ a' w' [17, 18, 15] := hf
            clear hag
            go_wp2_with fail
            refine (rreplay_any w' _ l (HOBr.out.1.keptF hI) nx last hnx hla (by have := HLN.out; omega)).mono ?_
            rintro e w4 ⟨v4, rfl, ho, _, k4⟩
            rw [HRP.out] at ho
            have HO := Lw.hid ho
            clear ho
            go_wp2_with fail
            exact hK _ _ (hI.trans k4 (fun _ _ h => h)) k4 (rdh_own HO.out rfl HRP7.out)
          refine ssteps_cons (fun a' w' hI hag hf K hK => ?_) ?_
          · obtain ⟨⟨_, h16, rfl⟩, ⟨v19, h19, e19⟩, ⟨_, h15, rfl⟩, -⟩ : SFacts _ _ a' w' [16, 19, 15] := hf
            clear hag
            have E1 := Lw.hid e19
            clear e19
            go_wp2_with fail
            refine (eqr_any w' _ _ RP RP (HX8.out.keptF hI) E1.out true (by simp)).mono ?_
            rintro e w4 ⟨rfl, k4⟩
            go_wp2_with fail
            exact hK _ _ (hI.trans k4 (fun _ _ h => h)) k4 rfl
          refine ssteps_cons (fun a' w' hI hag hf K hK => ?_) ?_
          · obtain ⟨⟨_, h15, rfl⟩, ⟨_, h20, rfl⟩, -⟩ : SFacts _ _ a' w' [15, 20] := hf
            clear hag
            go_wp2_with fail
            exact hK _ _ hI (Kept.refl _ _) rfl
          refine ssteps_cons (fun a' w' hI hag hf K hK => ?_) ?_
          · obtain ⟨⟨_, h21, rfl⟩, -⟩ : SFacts _ _ a' w' [21, 20] := hf
            clear hag
            go_wp2_with fail
            exact hK _ _ hI (Kept.refl _ _) rfl
          refine ssteps_cons (fun a' w' hI hag hf K hK => ?_) ?_
          · obtain ⟨⟨_, h22, rfl⟩, -⟩ : SFacts _ _ a' w' [22] := hf
            have s2 := hag.same 2 (by decide)
            clear hag
            have hh := hI.heap HBAr.out (fun h => h)
            have c0 := heap_cell hh 0; have c1 := heap_cell hh 1
            clear hh
            go_wp2_with fail
            exact hK _ _ hI (Kept.refl _ _) rfl
          refine ssteps_cons (fun a' w' hI hag hf K hK => ?_) ?_
          · obtain ⟨⟨_, h22, rfl⟩, -⟩ : SFacts _ _ a' w' [22] := hf
            have s1 := hag.same 1 (by decide)
            clear hag
            go_wp2_with fail
            exact hK _ _ hI (Kept.refl _ _) rfl
          refine ssteps_cons (fun a' w' hI hag hf K hK => ?_) ?_
          · obtain ⟨⟨_, h23, rfl⟩, ⟨_, h24, rfl⟩, ⟨_, h22, rfl⟩, -⟩ : SFacts _ _ a' w' [23, 24, 22] := hf
            clear hag
            go_wp2_with fail
            refine (past_any w' nx last _ l (HOAr.out.1.keptF hI)).mono ?_
            rintro e w4 ⟨BA, BL, rfl, hat, k4, _, _⟩
            have HAT := Lw.hid hat
            clear hat
            go_wp2_with fail
            exact hK _ _ (hI.trans k4 (fun _ _ h => h)) k4 ⟨BA, BL, rfl, HAT.out⟩
          refine ssteps_cons (fun a' w' hI hag hf K hK => ?_) ?_
          · obtain ⟨⟨v25, h25, e25⟩, ⟨_, h22, rfl⟩, -⟩ : SFacts _ _ a' w' [25, 22] := hf
            clear hag
            obtain ⟨BA, BL, rfl, hat⟩ := e25
            have HAT := Lw.hid hat
            clear hat
            go_wp2_with fail
            refine (first_any w' 41 _ 40 _ (AskR BA BL _) (fun wx kx => past_iter wx BA BL nx last _ l (HAT.out.keptF kx) (HBV.out _ (hI.trans kx (fun _ _ h => h))) hnx hla (by have := HLN.out; omega)) (HAT.out.lt (HBV.out _ hI)) (Go.Proofs.enters_of Try.func41 (by kernel_rfl) rfl) (by decide)).mono ?_
            rintro e w4 ⟨v4, rfl, ho, _, k4⟩
            rw [HPA.out] at ho
            have HO := Lw.hid ho
            clear ho
            go_wp2_with fail
            exact hK _ _ (hI.trans k4 (fun _ _ h => h)) k4 (RdU.own HO.out rfl)
          refine ssteps_cons (fun a' w' hI hag hf K hK => ?_) ?_
          · obtain ⟨⟨_, h22, rfl⟩, -⟩ : SFacts _ _ a' w' [22] := hf
            have s7 := hag.same 7 (by decide)
            clear hag
            go_wp2_with fail
            exact hK _ _ hI (Kept.refl _ _) rfl
          refine ssteps_cons (fun a' w' hI hag hf K hK => ?_) ?_
          · obtain ⟨⟨v26, h26, e26⟩, ⟨_, h27, rfl⟩, ⟨_, h22, rfl⟩, -⟩ : SFacts _ _ a' w' [26, 27, 22] := hf
            clear hag
            have E1 := Lw.hid e26
            clear e26
            go_wp2_with fail
            refine (equ_any w' _ _ PA PA E1.out (Q5r.out.keptF hI) true (by simp)).mono ?_
            rintro e w4 ⟨rfl, k4⟩
            go_wp2_with fail
            exact hK _ _ (hI.trans k4 (fun _ _ h => h)) k4 rfl
          refine ssteps_cons (fun a' w' hI hag hf K hK => ?_) ?_
          · obtain ⟨⟨_, h22, rfl⟩, ⟨_, h28, rfl⟩, -⟩ : SFacts _ _ a' w' [22, 28] := hf
            clear hag
            go_wp2_with fail
            exact hK _ _ hI (Kept.refl _ _) rfl
          refine ssteps_cons (fun a' w' hI hag hf K hK => ?_) ?_
          · obtain ⟨⟨_, h29, rfl⟩, -⟩ : SFacts _ _ a' w' [29, 28] := hf
            clear hag
            go_wp2_with fail
            exact hK _ _ hI (Kept.refl _ _) rfl
          refine ssteps_cons (fun a' w' hI hag hf K hK => ?_) ?_
          · obtain ⟨⟨_, h30, rfl⟩, -⟩ : SFacts _ _ a' w' [30] := hf
            clear hag
            go_wp2_with fail
            refine (rwakes_any w').mono ?_
            rintro e w4 ⟨rfl, k4⟩
            go_wp2_with fail
            exact hK _ _ (hI.trans k4 (fun _ _ h => h)) k4 rfl
          refine ssteps_cons (fun a' w' hI hag hf K hK => ?_) ?_
          · obtain ⟨⟨_, h30, rfl⟩, ⟨_, h31, rfl⟩, -⟩ : SFacts _ _ a' w' [30, 31] := hf
            clear hag
            go_wp2_with fail
            exact hK _ _ hI (Kept.refl _ _) rfl
          refine ssteps_cons (fun a' w' hI hag hf K hK => ?_) ?_
          · obtain ⟨⟨_, h32, rfl⟩, -⟩ : SFacts _ _ a' w' [32, 31, 0, 1, 2, 3, 4, 5, 6, 7, 8, 9, 10, 11, 12, 13, 14, 15, 16, 17, 18, 19, 20, 21, 22, 23, 24, 25, 26, 27, 28, 29, 30] := hf
            clear hag
            go_wp2_with fail
            exact hK _ _ hI (Kept.refl _ _) rfl
          exact trivial
        · intro a' w' hI hag hf
          obtain ⟨_, h33, rfl⟩ := hf 33 (by decide)
          have hd : a'.defers = [] := hag.defs
          clear hf hag
          go_wp2_with fail
          exact bodyPost_ret (v := .bool true) (by simp [results, Try.results4, go_sem, h33]) hd ⟨rfl, Below.of_kept (KR.out.trans hI (fun _ _ h => h))⟩
end Go.Proofs.Ytbmfnepbdfnlaaa
