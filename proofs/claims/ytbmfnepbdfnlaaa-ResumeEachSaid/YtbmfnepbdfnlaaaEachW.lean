/- ResumeEach, walked. -/
import Derived.Test.YtbmfnepbdfnlaaaEachA
namespace Go.Proofs.Ytbmfnepbdfnlaaa
open Go Go.RowKit Go.Lw
set_option maxRecDepth 100000
set_option linter.unusedVariables false
set_option linter.unusedSimpArgs false
attribute [local go_sem] Oper.semAt_some
theorem wp_nm {P : Program} {c : Code} {Q : Exit → Act → World → Prop} {a : Act} {w : World} (h : ∀ b, Hid (b = a) → c.wp P Q b w) : c.wp P Q a w := h a (Lw.hid rfl)
set_option maxHeartbeats 16000000 in
theorem reach_any (w : World) (n0 o la : Nat) (v0 : Value) (told : List Hv) (ht : RdH w v0 told) (hn : n0 < 256) (ho : o < 18446744073709551616) (hla : la < 256) :
    Calls Try.prog 3 #[.int .u8 (n0 : Int), .int .u64 (o : Int), v0, .int .u8 (la : Int)] w fun x w' => x = .returned (.bool true) ∧ Kept (fun _ => False) w w' := by
  obtain ⟨ad0, cap0, rfl, h1, h2, _⟩ := ht.shape
  have HT := Lw.hid ht
  clear ht h1 h2
  obtain ⟨n, hn70⟩ : ∃ n, la % 70 = n := ⟨_, rfl⟩
  have hn7 : n < 70 := by omega
  have e1 : ((la : Int) % 70) = (n : Int) := by omega
  have hmm := @run_makeMap Try.prog
  refine calls_of_wp_marks Try.func3 rfl ?_
  simp only [Try.ntmps3, List.size_toArray, List.length_cons, List.length_nil, Nat.reduceAdd, Nat.reduceSub, Array.replicate_succ, Array.replicate_zero, List.push_toArray, List.append_toArray, List.nil_append, List.cons_append]
  go_wp2_with fail
  obtain ⟨wa, hwa⟩ : ∃ wa, w.alloc (.cells #[.bool false] 4) = wa := ⟨_, rfl⟩
  have KA : Hid (Kept (fun _ => False) w wa) := Lw.hid (by rw [← hwa]; exact (Kept.refl _ w).alloc _)
  have HRES : Hid (wa.heap[w.heap.size]? = some (.cells #[.bool false] 4 (0, 0))) := Lw.hid (by rw [← hwa]; exact heap_alloc w _)
  have HSA : Hid (wa.heap.size = w.heap.size + 1) := Lw.hid (by rw [← hwa]; simp)
  rw [hwa]
  clear hwa
  refine (made_any wa n0 o _ told (HT.out.keptF KA.out) hn ho).mono ?_
  have HEA : Hid (Ea (1 + n0 % 60) n (madeL n0 o told)) := Lw.hid ⟨made_may n0 o told⟩
  have HL16 : Hid ((madeL n0 o told).length ≤ 16) := Lw.hid (madeK_len o told _)
  have hnx : 1 + n0 % 60 ≤ 60 ∧ 1 ≤ 1 + n0 % 60 := by omega
  generalize 1 + n0 % 60 = nx at *
  generalize madeL n0 o told = l at *
  rintro e w1 ⟨v, rfl, ho1, k1⟩
  obtain ⟨ad, cn, cap, rfl⟩ := ho1.1.sl
  have HCN : Hid (l.length = cn) := Lw.hid (by
    obtain ⟨a', c', e, _⟩ := ho1.1.shape
    injection e with _ h2 _
    exact h2.symm)
  have hcn : cn ≤ 16 := by rw [← HCN.out]; exact HL16.out
  have HO1 := Lw.hid ho1; have K1 := Lw.hid k1
  clear ho1 k1 hn ho HT
  go_wp2_with fail
  obtain ⟨b, hb⟩ : ∃ b, w1.heap.size = b := ⟨_, rfl⟩
  have HB1 : Hid (w.heap.size < b) := Lw.hid (by rw [← hb]; have := K1.out.size; have := HSA.out; omega)
  have HFR : Hid (∀ k, blk (.slice ad cn cap) k → w.heap.size < k ∧ k < b) := Lw.hid (fun k hk => by have := HO1.out.2 k hk; have := HSA.out; omega)
  obtain ⟨wb, hwb⟩ : ∃ wb, (((((w1.alloc (.cells #[.int .u32 (nx : Int), .slice ad cn cap] 26)).alloc (.cells #[.int .u32 (n : Int)] 24)).alloc (.map #[] 0)).alloc (.cells #[.map (some (w1.heap.size + 1 + 1))] 28)).alloc (.cells #[.int .u32 (n : Int)] 24)) = wb := ⟨_, rfl⟩
  have KB : Hid (Kept (fun _ => False) w1 wb) := Lw.hid (by rw [← hwb]; exact (((((Kept.refl _ w1).alloc _).alloc _).alloc _).alloc _).alloc _)
  have HEC : Hid (EcAt w b nx n (.slice ad cn cap) l wb.heap.size [] n [] wb) := Lw.hid (by
    have hk : Kept (fun _ => False) w wb := (KA.out.trans K1.out (fun _ _ h => h)).trans KB.out (fun _ _ h => h)
    have hsz : wb.heap.size = b + 5 := by rw [← hwb, ← hb]; simp
    refine ⟨hk, HB1.out, by omega, Nat.le_refl _, KB.out.heap (K1.out.heap HRES.out (fun h => h)) (fun h => h), ?_, ?_, ?_, ?_, ?_, HO1.out.1.keptF KB.out, HFR.out, fun d hd => by simp at hd, List.nodup_nil⟩
    · rw [← hwb, ← hb]; exact heap_alloc_lt (heap_alloc_lt (heap_alloc_lt (heap_alloc_lt (heap_at _ _ rfl))))
    · rw [← hwb, ← hb]; exact heap_alloc_lt (heap_alloc_lt (heap_alloc_lt (heap_at _ _ (by simp))))
    · rw [← hwb, ← hb]; exact heap_alloc_lt (heap_at _ _ (by simp))
    · rw [← hwb, ← hb]; exact heap_at _ _ (by simp)
    · rw [← hwb, ← hb]
      have h0 := IMap.made Try.prog 24 3 ((w1.alloc (.cells #[.int .u32 (nx : Int), .slice ad cn cap] 26)).alloc (.cells #[.int .u32 (n : Int)] 24))
      have h1 := h0.kept (((Kept.refl (fun _ => False) _).alloc (.cells #[.map (some (w1.heap.size + 1 + 1))] 28)).alloc (.cells #[.int .u32 (n : Int)] 24)) (fun h => h)
      have e : ((w1.alloc (.cells #[.int .u32 (nx : Int), .slice ad cn cap] 26)).alloc (.cells #[.int .u32 (n : Int)] 24)).heap.size = w1.heap.size + 2 := by simp
      rw [e] at h1
      exact h1)
  rw [hwb]
  simp only [hb, Nat.add_assoc, Nat.reduceAdd]
  clear hwb KB K1 KA HRES HSA HO1 hb HB1
  refine (again_any wb nx n _ l HEC.out.rd).mono ?_
  rintro e w2 ⟨BA, BL, rfl, hat, k2, hba, hbl⟩
  have HAT := Lw.hid hat
  have HE2 := Lw.hid (HEC.out.keptF k2)
  have HBL : Hid (wb.heap.size ≤ BA ∧ wb.heap.size ≤ BL) := Lw.hid ⟨hba, hbl⟩
  clear hat k2 hba hbl
  go_wp2_with fail
  refine (safe_any w2 _ _ _).mono ?_
  rintro e w3 ⟨rfl, rfl⟩
  have HE3 := Lw.hid (HE2.out.up HE2.out.hs (Nat.le_refl _))
  have HR3 : Hid (∀ k, AskR BA BL (.slice ad cn cap) k → (w.heap.size < k ∧ k < b) ∨ b + 5 ≤ k) := Lw.hid (fun k hk => by
    have := HBL.out; have := HEC.out.hm
    rcases hk with h | h | h
    · right; omega
    · right; omega
    · left; exact HFR.out k h)
  have HV3 : Hid (∀ k, blk (.slice ad cn cap) k → k < w3.heap.size) := Lw.hid (fun k hk => by have := HFR.out k hk; have := HE3.out.hm; omega)
  clear HE2 HEC
  go_wp2_with fail
  refine wp_nm (fun ac hac => ?_)
  refine wp_range (gf := 36) (lb := #[.pointer (some ⟨BA, 0, none⟩), .pointer (some ⟨BL, 0, none⟩)]) (by rw [hac.out]; rfl) (Go.Proofs.enters_of Try.func36 (by kernel_rfl) rfl)
    (again_iter w3 BA BL nx n _ l HAT.out HV3.out (by omega) (by omega) (by have := HL16.out; omega)) (HAT.out.lt HV3.out) (fun _ => rfl)
    (fun X pre V => EcAt w b nx n (.slice ad cn cap) l w3.heap.size [] (n + pre.length) pre V ∧ (∀ k, X k → w3.heap.size ≤ k)) (fun _ _ _ _ => False)
    ?_ ?_ ?_ (fun X q V => q.2.2 = { tmps := (ac.tmps.setIfInBounds 40 (u32v q.2.1)).setIfInBounds 13 (u32v q.2.1), defers := [] }) (fun _ _ _ _ _ h _ _ => h) ?assign ?body ?done ?stop
  · rintro X X' s V V' ⟨h1, h2⟩ hk hx
    exact ⟨h1.kept hk h2, fun k h => by rcases hx k h with h | h; exact h2 k h; have := h1.hs; omega⟩
  · rintro c X X' s V V' h hk hx
    exact h
  · exact ⟨HE3.out, fun k h => h.elim⟩
  case assign =>
    rintro y X pre x V K hi _ _ _ hK
    rw [hac.out] at hK ⊢
    gi_wp2
    exact hK _ _ (Keeps.refl _ _) hi rfl
  case body =>
    rintro y X pre x a' V ⟨h1, h2⟩ hax hX hpx hsz
    dsimp only at hax
    subst hax
    rw [hac.out]
    simp only [List.setIfInBounds_toArray, List.set_cons_zero, List.set_cons_succ]
    obtain ⟨hx1, hx2, hx3, hx4⟩ := again_next hpx
    have HX4 := Lw.hid hx4; have H1 := Lw.hid h1; have H2 := Lw.hid h2
    obtain ⟨j, hj⟩ : ∃ j, n + pre.length = j := ⟨_, rfl⟩
    rw [hj] at h1 hx1 H1
    have hxn : ((x : Int) != (j : Int) + 1) = false := by simp; omega
    have c4 := heap_cell h1.at_ 0; have f4 := heap_free h1.at_ 0
    have HS := Lw.hid (h1.setAt x)
    have c3 : (V.setCell ⟨b + 4, 0, none⟩ (u32v x)).cell? ⟨b + 3, 0, none⟩ = some (.map (some (b + 2))) := heap_cell HS.out.mp 0
    have HJ := Lw.hid hj
    have hx9 : x < 4294967296 := by omega
    have hpl : Hid (pre.length < maxLen) := Lw.hid (by unfold maxLen; have := HJ.out; omega)
    have HX1 := Lw.hid hx1
    clear hx1
    clear hj h1 h2 hx4 hX hpx hac
    gi_wp2_with (first
      | (refine wpListIn_ilook rfl _ _ rfl Try.underlying24 Try.underlying3 Try.underlying28 (zeroInt _) rfl HS.out.own x rfl hx9 HX4.out ?_)
      | (refine wpListIn_istore rfl _ _ _ rfl Try.underlying24 Try.underlying3 Try.underlying28 rfl HS.out.own x rfl rfl hx9 HX4.out hpl.out ?_; intro w5 ho5 hg5; have HO5 := Lw.hid ho5; have HG5 := Lw.hid hg5; clear ho5 hg5))
    have hk5 : Kept (fun k => k = b + 2 ∨ k = b + 4) V w5 := ((Kept.refl (fun k => k = b + 2 ∨ k = b + 4) V).set (b + 4) 0 (fun _ => .inr rfl) (u32v x)).grown HG5.out (fun k e _ => by cases e; exact .inl rfl)
    refine ⟨H1.out.keeps HR3.out H2.out hk5, ?_, H2.out⟩
    have h5 := HS.out.put HO5.out HG5.out
    rw [show n + (pre ++ [x]).length = x by rw [List.length_append, List.length_singleton]; have := HJ.out; have := HX1.out; omega]
    exact h5
  case stop =>
    rintro X c pre D V hD hXD hXb hpre hne h hdf
    exact h.elim
  case done =>
    rintro X D V hD hXD hXb ⟨h1, h2⟩ hdf
    rw [hac.out]
    clear hac HE3 HR3 HV3 HBL HAT
    obtain ⟨A, hA⟩ : ∃ A, againF nx n l = A := ⟨_, rfl⟩
    rw [hA] at h1
    have HA := Lw.hid hA
    obtain ⟨a1, ha1⟩ : ∃ a1, n + A.length = a1 := ⟨_, rfl⟩
    rw [ha1] at h1
    have HE1 := Lw.hid (h1.mark hdf hD)
    clear h1 h2 hXb hXD hdf hA ha1 hD
    have q0 := heap_cell HE1.out.ask 0; have q1 := heap_cell HE1.out.ask 1; have q2 := heap_cell HE1.out.num 0
    obtain ⟨wr, rfl⟩ : ∃ wr : World, wr = V := ⟨_, rfl⟩
    go_wp2_with fail
    refine (replay_any wr nx n _ l HE1.out.rd).mono ?_
    rintro e w4 ⟨BA, BL, rfl, hat, k4, hba, hbl⟩
    have HAT := Lw.hid hat
    have HE4 := Lw.hid ((HE1.out.keptF k4).up k4.size (Nat.le_refl _))
    have HBL : Hid (b + 5 ≤ BA ∧ b + 5 ≤ BL) := Lw.hid (by have := HE1.out.hm; omega)
    clear hat k4 hba hbl HE1 q0 q1 q2
    go_wp2_with fail
    refine (safeH_any w4 _ _ _).mono ?_
    rintro e w5 ⟨rfl, rfl⟩
    have HR5 : Hid (∀ k, AskR BA BL (.slice ad cn cap) k → (w.heap.size < k ∧ k < b) ∨ b + 5 ≤ k) := Lw.hid (fun k hk => by
      have := HBL.out
      rcases hk with h | h | h
      · right; omega
      · right; omega
      · left; exact HFR.out k h)
    have HV5 : Hid (∀ k, blk (.slice ad cn cap) k → k < w5.heap.size) := Lw.hid (fun k hk => by have := HFR.out k hk; have := HE4.out.hm; have := HE4.out.hs; omega)
    go_wp2_with fail
    refine wp_nm (fun ac hac => ?_)
    refine wp_range (gf := 40) (lb := #[.pointer (some ⟨BA, 0, none⟩), .pointer (some ⟨BL, 0, none⟩)]) (by rw [hac.out]; rfl) (Go.Proofs.enters_of Try.func40 (by kernel_rfl) rfl)
      (replay_iter w5 BA BL nx n _ l HAT.out HV5.out (by omega) (by omega) (by have := HL16.out; omega)) (HAT.out.lt HV5.out) (fun _ => rfl)
      (fun X pre V => EcAt w b nx n (.slice ad cn cap) l w5.heap.size [D] a1 (A ++ pre.map Hv.id) V ∧ (∀ k, X k → w5.heap.size ≤ k)) (fun _ _ _ _ => False)
      ?_ ?_ ?_ (fun X q V => ∃ Bx, ¬ X Bx ∧ w5.heap.size ≤ Bx ∧ V.heap[Bx]? = some (.cells #[u32v q.2.1.id, u32v q.2.1.out, u32v q.2.1.er, .bool q.2.1.st] 35 (0, 0)) ∧ q.2.2 = { tmps := (ac.tmps.setIfInBounds 54 (.agg #[u32v q.2.1.id, u32v q.2.1.out, u32v q.2.1.er, .bool q.2.1.st])).setIfInBounds 14 (.pointer (some ⟨Bx, 0, none⟩)), defers := [] })
      (fun X X' q A A' h hk hx => by
        obtain ⟨Bx, h1, h0, h2, h3⟩ := h
        have hlt := (Array.getElem?_eq_some_iff.1 h2).1
        exact ⟨Bx, fun hb => by rcases hx Bx hb with h4 | h4; exact h1 h4; omega, h0, hk.heap h2 h1, h3⟩) ?assign2 ?body2 ?done2 ?stop2
    · rintro X X' s V V' ⟨h1, h2⟩ hk hx
      exact ⟨h1.kept hk h2, fun k h => by rcases hx k h with h | h; exact h2 k h; have := h1.hs; omega⟩
    · rintro c X X' s V V' h hk hx
      exact h
    · exact ⟨by simpa using HE4.out, fun k h => h.elim⟩
    case assign2 =>
      rintro y X pre x V K hi hxb _ hsz hK
      rw [hac.out] at hK ⊢
      have HI := Lw.hid hi
      have kv : Kept (fun _ => False) V (V.alloc (.cells #[u32v x.id, u32v x.out, u32v x.er, .bool x.st] 35)) := (Kept.refl _ V).alloc _
      clear hi
      gi_wp2
      exact hK _ _ (kv.keeps (fun _ _ _ h => h)) ⟨HI.out.1.keptF kv, HI.out.2⟩ ⟨V.heap.size, fun h => by have := (hxb _ h).2; omega, hsz, heap_alloc _ _, rfl⟩
    case body2 =>
      rintro y X pre x a' V ⟨h1, h2⟩ hax hX hpx hsz
      obtain ⟨Bx, hx1, hx0, hx2, hax⟩ := hax
      dsimp only at hax hx2
      subst hax
      rw [hac.out]
      simp only [List.setIfInBounds_toArray, List.set_cons_zero, List.set_cons_succ]
      obtain ⟨hm1, hm2, hm3⟩ := HEA.out.replay_next hpx
      have HM1 := Lw.hid hm1; have HM3 := Lw.hid hm3; have H1 := Lw.hid h1; have H2 := Lw.hid h2; have HBX := Lw.hid hx2
      have HB5 : Hid (b + 5 ≤ Bx) := Lw.hid (by have := HE4.out.hm; omega)
      have hplt : (A ++ pre.map Hv.id).length < 1000 := by
        have h5 : (A ++ pre.map Hv.id).length ≤ (keysF nx n l).length := by
          obtain ⟨t, ht⟩ := hpx
          unfold keysF
          rw [HA.out, ← ht]; simp
        have := HEA.out.klen; omega
      have HPL : Hid ((A ++ pre.map Hv.id).length < maxLen) := Lw.hid (by unfold maxLen; omega)
      have c1 := heap_cell h1.ask 1
      clear h1 h2 hX hpx hac hx1 hx2 hm1 hm3 hplt
      have HCR := Lw.hid (rdh_at H1.out.rd)
      obtain ⟨xi, xo, xe, xs⟩ := x
      have HX := Lw.hid (Eq.refl (⟨xi, xo, xe, xs⟩ : Hv))
      simp only at hm2 HBX HM3
      gi_wp2_with fail
      gi_loopg [15, 58] cn (fun gk s15 s58 wx => ∃ k : Nat, gk = cn - k ∧ k ≤ cn ∧ s58 = .int .i64 (k : Int) ∧ s15 = .bool (decide ((⟨xi, xo, xe, xs⟩ : Hv) ∈ l.take k)) ∧ Kept (fun _ => False) V wx)
      case atStart => exact ⟨0, rfl, Nat.zero_le _, rfl, by simp, Kept.refl _ _⟩
      case round =>
        obtain ⟨k, rfl, hk, rfl, rfl, hkk⟩ := hrel
        have HK := Lw.hid hkk
        have b0 := heap_cell (hkk.heap HBX.out (fun h => h)) 0; have b1 := heap_cell (hkk.heap HBX.out (fun h => h)) 1; have b2 := heap_cell (hkk.heap HBX.out (fun h => h)) 2; have b3 := heap_cell (hkk.heap HBX.out (fun h => h)) 3
        clear hkk
        by_cases hlt : k < cn
        · have hlt' : k < l.length := by rw [HCN.out]; exact hlt
          obtain ⟨g, off, rfl, q0, q1, q2, q3⟩ := HCR.out k hlt'
          replace q0 := HK.out.cell q0 (fun h => h); replace q1 := HK.out.cell q1 (fun h => h); replace q2 := HK.out.cell q2 (fun h => h); replace q3 := HK.out.cell q3 (fun h => h)
          have htk := take_snoc l k hlt'
          obtain ⟨t, ht⟩ : ∃ t, l[k] = t := ⟨_, rfl⟩
          rw [ht] at q0 q1 q2 q3 htk
          have HTK := Lw.hid htk
          clear ht htk hlt'
          obtain ⟨fd, hfd⟩ : ∃ fd, decide ((⟨xi, xo, xe, xs⟩ : Hv) ∈ l.take k) = fd := ⟨_, rfl⟩
          rw [hfd]
          have HFD := Lw.hid hfd
          clear hfd
          obtain ⟨ti, to, te, ts⟩ := t
          simp only at q0 q1 q2 q3
          have KX : Hid (Kept (fun _ => False) wr (wr.alloc (.cells #[u32v ti, u32v to, u32v te, .bool ts] 35))) := Lw.hid ((Kept.refl _ wr).alloc _)
          have d0 := KX.out.cell b0 (fun h => h); have d1 := KX.out.cell b1 (fun h => h); have d2 := KX.out.cell b2 (fun h => h); have d3 := KX.out.cell b3 (fun h => h)
          have i0 : (0 : Int) ≤ (k : Int) := by omega
          have i1 : (k : Int) < (cn : Int) := by omega
          have hkn : k + 1 ≤ cn := by omega
          cases fd with
          | true =>
            have HF2 : Hid (decide ((⟨xi, xo, xe, xs⟩ : Hv) ∈ l.take (k + 1)) = true) := Lw.hid (by
              rw [HTK.out]; exact decide_eq_true (List.mem_append_left _ (of_decide_eq_true HFD.out)))
            gi_wp2_with fail
            gi_roundg (cn - (k + 1))
            case measure => omega
            case rel => exact ⟨k + 1, rfl, hkn, by go_num, by rw [HF2.out], HK.out.trans KX.out (fun _ _ h => h)⟩
          | false =>
            by_cases hq : (⟨ti, to, te, ts⟩ : Hv) = ⟨xi, xo, xe, xs⟩
            · have HF2 : Hid (decide ((⟨xi, xo, xe, xs⟩ : Hv) ∈ l.take (k + 1)) = true) := Lw.hid (by
                rw [HTK.out, hq]; exact decide_eq_true (by simp))
              simp only [Hv.mk.injEq] at hq
              obtain ⟨rfl, rfl, rfl, rfl⟩ := hq
              gi_wp2_with fail
              gi_roundg (cn - (k + 1))
              case measure => omega
              case rel => exact ⟨k + 1, rfl, hkn, by go_num, by rw [HF2.out], HK.out.trans KX.out (fun _ _ h => h)⟩
            · have HF2 : Hid (decide ((⟨xi, xo, xe, xs⟩ : Hv) ∈ l.take (k + 1)) = false) := Lw.hid (by
                rw [HTK.out]
                refine decide_eq_false (fun hm => ?_)
                rcases List.mem_append.1 hm with hm | hm
                · exact (of_decide_eq_false HFD.out) hm
                · exact hq (List.mem_singleton.1 hm).symm)
              have hcs : ((ti : Int) == (xi : Int)) = false ∨ (ti = xi ∧ ((to : Int) == (xo : Int)) = false) ∨ (ti = xi ∧ to = xo ∧ ((te : Int) == (xe : Int)) = false) ∨ (ti = xi ∧ to = xo ∧ te = xe ∧ (ts == xs) = false) := by
                by_cases e1 : ti = xi
                · by_cases e2 : to = xo
                  · by_cases e3 : te = xe
                    · subst e1; subst e2; subst e3
                      exact .inr (.inr (.inr ⟨rfl, rfl, rfl, by cases ts <;> cases xs <;> first | rfl | exact absurd rfl hq⟩))
                    · exact .inr (.inr (.inl ⟨e1, e2, by rw [beq_eq_false_iff_ne]; omega⟩))
                  · exact .inr (.inl ⟨e1, by rw [beq_eq_false_iff_ne]; omega⟩)
                · exact .inl (by rw [beq_eq_false_iff_ne]; omega)
              clear hq
              rcases hcs with hnb | ⟨rfl, hnb⟩ | ⟨rfl, rfl, hnb⟩ | ⟨rfl, rfl, rfl, hnb⟩
              all_goals
                gi_wp2_with fail
                gi_roundg (cn - (k + 1))
                case measure => omega
                case rel => exact ⟨k + 1, rfl, hkn, by go_num, by rw [HF2.out], HK.out.trans KX.out (fun _ _ h => h)⟩
        · obtain rfl : k = cn := by omega
          have htk : decide ((⟨xi, xo, xe, xs⟩ : Hv) ∈ l.take k) = true := by
            rw [List.take_of_length_le (by rw [HCN.out]; exact Nat.le_refl _)]; exact decide_eq_true HM1.out
          rw [htk]
          have HW := Lw.hid (H1.out.keptF HK.out)
          have hgt : decide (xi > n) = false := decide_eq_false (by omega)
          have hgt' : decide ((n : Int) < (xi : Int)) = false := decide_eq_false (by omega)
          have c2 := heap_cell HW.out.num 0; have c3 := heap_cell HW.out.mp 0
          have hxi : xi < 4294967296 := by omega
          have HM4 : Hid (xi ∉ A ++ pre.map Hv.id) := Lw.hid (by rw [← HA.out]; exact HM3.out)
          clear htk c1
          gi_wp2_with (first
            | (refine wpListIn_ilook rfl _ _ rfl Try.underlying24 Try.underlying3 Try.underlying28 (zeroInt _) rfl HW.out.own xi rfl hxi HM4.out ?_)
            | (refine wpListIn_istore rfl _ _ _ rfl Try.underlying24 Try.underlying3 Try.underlying28 rfl HW.out.own xi rfl rfl hxi HM4.out HPL.out ?_; intro w7 ho7 hg7; have HO7 := Lw.hid ho7; have HG7 := Lw.hid hg7; clear ho7 hg7))
          have hk5 : Kept (fun k => k = b + 2 ∨ k = b + 4) V w7 := (HK.out.mono (fun _ _ h => h.elim)).grown HG7.out (fun k e _ => by cases e; exact .inl rfl)
          refine ⟨H1.out.keeps HR5.out H2.out hk5, ?_, H2.out⟩
          have h5 := HW.out.put HO7.out HG7.out
          rw [List.map_append, ← List.append_assoc]
          exact h5
    case stop2 =>
      rintro X c pre D V hD hXD hXb hpre hne h hdf
      exact h.elim
    case done2 =>
      rintro X D2 V hD hXD hXb ⟨h1, h2⟩ hdf
      rw [hac.out]
      clear hac HE4 HR5 HV5 HBL HAT
      obtain ⟨L2, hL2⟩ : ∃ L2, A ++ (replayF nx n l).map Hv.id = L2 := ⟨_, rfl⟩
      rw [hL2] at h1
      have HL2 := Lw.hid hL2
      have HE1 := Lw.hid (h1.mark hdf hD)
      clear h1 h2 hXb hXD hdf hL2 hD
      have HS1 := Lw.hid (HE1.out.setAt 0)
      have c4 := heap_cell HE1.out.at_ 0; have f4 := heap_free HE1.out.at_ 0
      obtain ⟨wr, rfl⟩ : ∃ wr : World, wr = V := ⟨_, rfl⟩
      have q0 : (wr.setCell ⟨b + 4, 0, none⟩ (.int .u32 0)).cell? ⟨b, 0, none⟩ = some (u32v nx) := heap_cell HS1.out.ask 0
      have q1 : (wr.setCell ⟨b + 4, 0, none⟩ (.int .u32 0)).cell? ⟨b, 1, none⟩ = some (.slice ad cn cap) := heap_cell HS1.out.ask 1
      have q2 : (wr.setCell ⟨b + 4, 0, none⟩ (.int .u32 0)).cell? ⟨b + 1, 0, none⟩ = some (u32v n) := heap_cell HS1.out.num 0
      have hb4 : ((wr.setCell ⟨b + 4, 0, none⟩ (.int .u32 0)).heap.size = wr.heap.size) := by simp
      have HSZ := Lw.hid hb4
      clear hb4
      go_wp2_with fail
      obtain ⟨wq, hwq⟩ : ∃ wq, wr.setCell ⟨b + 4, 0, none⟩ (.int .u32 0) = wq := ⟨_, rfl⟩
      have HS : Hid (EcAt w b nx n (.slice ad cn cap) l wr.heap.size [D2, D] 0 L2 wq) := Lw.hid (by rw [← hwq]; exact HS1.out)
      rw [hwq] at HSZ ⊢
      clear hwq HS1 q0 q1 q2 c4 f4
      refine (past_any wq nx n _ l HS.out.rd).mono ?_
      rintro e w4 ⟨BA, BL, rfl, hat, k4, hba, hbl⟩
      have HAT := Lw.hid hat
      have HE4 := Lw.hid ((HS.out.keptF k4).up (by rw [← HSZ.out]; exact k4.size) (Nat.le_refl _))
      have HBL : Hid (b + 5 ≤ BA ∧ b + 5 ≤ BL) := Lw.hid (by have := HS.out.hm; have := HSZ.out; omega)
      clear hat k4 hba hbl HE1
      go_wp2_with fail
      refine (safe_any w4 _ _ _).mono ?_
      rintro e w5 ⟨rfl, rfl⟩
      have HR5 : Hid (∀ k, AskR BA BL (.slice ad cn cap) k → (w.heap.size < k ∧ k < b) ∨ b + 5 ≤ k) := Lw.hid (fun k hk => by
        have := HBL.out
        rcases hk with h | h | h
        · right; omega
        · right; omega
        · left; exact HFR.out k h)
      have HV5 : Hid (∀ k, blk (.slice ad cn cap) k → k < w5.heap.size) := Lw.hid (fun k hk => by have := HFR.out k hk; have := HE4.out.hm; have := HE4.out.hs; omega)
      go_wp2_with fail
      refine wp_nm (fun ac hac => ?_)
      refine wp_range (gf := 41) (lb := #[.pointer (some ⟨BA, 0, none⟩), .pointer (some ⟨BL, 0, none⟩)]) (by rw [hac.out]; rfl) (Go.Proofs.enters_of Try.func41 (by kernel_rfl) rfl)
        (past_iter w5 BA BL nx n _ l HAT.out HV5.out (by omega) (by omega) (by have := HL16.out; omega)) (HAT.out.lt HV5.out) (fun _ => rfl)
        (fun X pre V => EcAt w b nx n (.slice ad cn cap) l w5.heap.size [D2, D] (pre.getLastD 0) (L2 ++ pre) V ∧ (∀ k, X k → w5.heap.size ≤ k)) (fun _ _ _ _ => False)
        ?_ ?_ ?_ (fun X q V => q.2.2 = { tmps := (ac.tmps.setIfInBounds 86 (u32v q.2.1)).setIfInBounds 18 (u32v q.2.1), defers := [] }) (fun _ _ _ _ _ h _ _ => h) ?assign3 ?body3 ?done3 ?stop3
      · rintro X X' s V V' ⟨h1, h2⟩ hk hx
        exact ⟨h1.kept hk h2, fun k h => by rcases hx k h with h | h; exact h2 k h; have := h1.hs; omega⟩
      · rintro c X X' s V V' h hk hx
        exact h
      · exact ⟨by simpa using HE4.out, fun k h => h.elim⟩
      case assign3 =>
        rintro y X pre x V K hi _ _ _ hK
        rw [hac.out] at hK ⊢
        gi_wp2
        exact hK _ _ (Keeps.refl _ _) hi rfl
      case body3 =>
        rintro y X pre x a' V ⟨h1, h2⟩ hax hX hpx hsz
        dsimp only at hax
        subst hax
        rw [hac.out]
        simp only [List.setIfInBounds_toArray, List.set_cons_zero, List.set_cons_succ]
        obtain ⟨hx1, hx2, hx3, hx4⟩ := HEA.out.past_next hpx
        have HX3 := Lw.hid hx3; have H1 := Lw.hid h1; have H2 := Lw.hid h2
        have HX4 : Hid (x ∉ L2 ++ pre) := Lw.hid (by rw [← HL2.out, ← HA.out]; exact hx4)
        have hplt : (L2 ++ pre).length < 1000 := by
          have h5 : (L2 ++ pre).length ≤ (keysF nx n l).length := by
            obtain ⟨t, ht⟩ := hpx
            unfold keysF
            rw [← HL2.out, ← HA.out, ← ht]; simp
          have := HEA.out.klen; omega
        have HPL : Hid ((L2 ++ pre).length < maxLen) := Lw.hid (by unfold maxLen; omega)
        obtain ⟨j, hj⟩ : ∃ j, pre.getLastD 0 = j := ⟨_, rfl⟩
        rw [hj] at h1 H1 hx1
        have c4 := heap_cell h1.at_ 0; have c1 := heap_cell h1.ask 1; have c2 := heap_cell h1.num 0
        have t1 : decide ((x : Int) ≤ (j : Int)) = false := decide_eq_false (by omega)
        have t1' : decide (x ≤ j) = false := decide_eq_false (by omega)
        have t2 : decide (x > n) = false := decide_eq_false (by omega)
        have t2' : decide ((n : Int) < (x : Int)) = false := decide_eq_false (by omega)
        have hx9 : x < 4294967296 := by omega
        have HCR := Lw.hid (rdh_at H1.out.rd)
        clear hj h1 h2 hx3 hx4 hX hpx hac hplt
        gi_wp2_with fail
        gi_loopg [98] cn (fun gk s98 wx => ∃ k : Nat, gk = cn - k ∧ k ≤ cn ∧ s98 = .int .i64 (k : Int) ∧ Kept (fun _ => False) V wx)
        case atStart => exact ⟨0, rfl, Nat.zero_le _, rfl, Kept.refl _ _⟩
        case round =>
          obtain ⟨k, rfl, hk, rfl, hkk⟩ := hrel
          have HK := Lw.hid hkk
          clear hkk
          by_cases hlt : k < cn
          · have hlt' : k < l.length := by rw [HCN.out]; exact hlt
            obtain ⟨g, off, rfl, q0, q1, q2, q3⟩ := HCR.out k hlt'
            replace q0 := HK.out.cell q0 (fun h => h); replace q1 := HK.out.cell q1 (fun h => h); replace q2 := HK.out.cell q2 (fun h => h); replace q3 := HK.out.cell q3 (fun h => h)
            have hne : l[k].id ≠ x := fun e => by have := hasF_some hlt' e; rw [HX3.out] at this; cases this
            obtain ⟨t, ht⟩ : ∃ t, l[k] = t := ⟨_, rfl⟩
            rw [ht] at q0 q1 q2 q3 hne
            obtain ⟨ti, to, te, ts⟩ := t
            simp only at q0 q1 q2 q3 hne
            have hnb : ((ti : Int) == (x : Int)) = false := by rw [beq_eq_false_iff_ne]; omega
            have KX : Hid (Kept (fun _ => False) wr (wr.alloc (.cells #[u32v ti, u32v to, u32v te, .bool ts] 35))) := Lw.hid ((Kept.refl _ wr).alloc _)
            have i0 : (0 : Int) ≤ (k : Int) := by omega
            have i1 : (k : Int) < (cn : Int) := by omega
            have hkn : k + 1 ≤ cn := by omega
            clear ht hlt' hne
            gi_wp2_with fail
            gi_roundg (cn - (k + 1))
            case measure => omega
            case rel => exact ⟨k + 1, rfl, hkn, by go_num, HK.out.trans KX.out (fun _ _ h => h)⟩
          · obtain rfl : k = cn := by omega
            have HW := Lw.hid (H1.out.keptF HK.out)
            have HS2 := Lw.hid (HW.out.setAt x)
            have d4 := heap_cell HW.out.at_ 0; have f4 := heap_free HW.out.at_ 0
            have c3 : (wr.setCell ⟨b + 4, 0, none⟩ (u32v x)).cell? ⟨b + 3, 0, none⟩ = some (.map (some (b + 2))) := heap_cell HS2.out.mp 0
            clear c1 c2 c4 t1 t1' t2 t2'
            gi_wp2_with (first
              | (refine wpListIn_ilook rfl _ _ rfl Try.underlying24 Try.underlying3 Try.underlying28 (zeroInt _) rfl HS2.out.own x rfl hx9 HX4.out ?_)
              | (refine wpListIn_istore rfl _ _ _ rfl Try.underlying24 Try.underlying3 Try.underlying28 rfl HS2.out.own x rfl rfl hx9 HX4.out HPL.out ?_; intro w7 ho7 hg7; have HO7 := Lw.hid ho7; have HG7 := Lw.hid hg7; clear ho7 hg7))
            have hk5 : Kept (fun k => k = b + 2 ∨ k = b + 4) V w7 := ((HK.out.mono (fun _ _ h => h.elim)).set (b + 4) 0 (fun _ => .inr rfl) (u32v x)).grown HG7.out (fun k e _ => by cases e; exact .inl rfl)
            refine ⟨H1.out.keeps HR5.out H2.out hk5, ?_, H2.out⟩
            have h5 := HS2.out.put HO7.out HG7.out
            rw [List.getLastD_concat, ← List.append_assoc]
            exact h5
      case stop3 =>
        rintro X c pre D V hD hXD hXb hpre hne h hdf
        exact h.elim
      case done3 =>
        rintro X D3 V hD hXD hXb ⟨h1, h2⟩ hdf
        rw [hac.out]
        clear hac HE4 HR5 HV5 HBL HAT
        have hkf : L2 ++ pastF nx n l = keysF nx n l := by rw [← HL2.out, ← HA.out]; rfl
        rw [hkf] at h1
        have HE1 := Lw.hid (h1.mark hdf hD)
        clear h1 h2 hXb hXD hdf hkf hD
        obtain ⟨a3, ha3⟩ : ∃ a3, (pastF nx n l).getLastD 0 = a3 := ⟨_, rfl⟩
        obtain ⟨m3, hm3⟩ : ∃ m3, V.heap.size = m3 := ⟨_, rfl⟩
        rw [ha3, hm3] at HE1
        clear ha3 hm3
        have q0 := heap_cell HE1.out.ask 0; have q2 := heap_cell HE1.out.num 0
        obtain ⟨wa, rfl⟩ : ∃ wa : World, wa = V := ⟨_, rfl⟩
        have HCR := Lw.hid (rdh_at HE1.out.rd)
        obtain ⟨M, hM⟩ : ∃ M, nx - (n + 1) = M := ⟨_, rfl⟩
        have HMM := Lw.hid hM
        have hMn : ∀ k, k ≤ M → n + 1 + k < 200 := fun k hk => by omega
        have hMl : ∀ k, k < M ↔ n + 1 + k < nx := fun k => by omega
        have HOK := Lw.hid HEA.out.ok
        rw [hM] at HOK
        clear hM
        go_wp2_with fail
        go_loopg [21, 22] M (fun gk s21 s22 wx => ∃ k : Nat, gk = M - k ∧ k ≤ M ∧ s22 = u32v (n + 1 + k) ∧ s21 = .bool (okF nx n l k) ∧ Kept (fun _ => False) wa wx)
        case atStart => exact ⟨0, rfl, Nat.zero_le _, by go_num, rfl, Kept.refl _ _⟩
        case round =>
          obtain ⟨k, rfl, hk, rfl, rfl, hkk⟩ := hrel
          have HK := Lw.hid hkk
          have c0 := heap_cell (hkk.heap HE1.out.ask (fun h => h)) 0; have c1 := heap_cell (hkk.heap HE1.out.ask (fun h => h)) 1
          clear hkk q0 q2
          have hid9 := hMn k hk
          by_cases hlt : k < M
          · have hlx := (hMl k).1 hlt
            have ho1 : okF nx n l (k + 1) = (okF nx n l k && hasF l (n + 1 + k)) := rfl
            have HO1 := Lw.hid ho1
            clear ho1
            obtain ⟨id, hid⟩ : ∃ id, n + 1 + k = id := ⟨_, rfl⟩
            rw [hid] at hid9 hlx HO1 ⊢
            have HID := Lw.hid hid
            obtain ⟨fo, hfo⟩ : ∃ fo, okF nx n l k = fo := ⟨_, rfl⟩
            rw [hfo] at HO1 ⊢
            have d1 : decide ((id : Int) < (nx : Int)) = true := decide_eq_true (by omega)
            have d1' : decide (id < nx) = true := decide_eq_true hlx
            clear hfo hid
            obtain ⟨wo, rfl⟩ : ∃ wo : World, wo = wr := ⟨_, rfl⟩
            go_wp2_with fail
            go_loopg [23, 127] cn (fun gk s23 s127 wx => ∃ j : Nat, gk = cn - j ∧ j ≤ cn ∧ s127 = .int .i64 (j : Int) ∧ s23 = .bool (hasF (l.take j) id) ∧ Kept (fun _ => False) wa wx)
            case atStart => exact ⟨0, rfl, Nat.zero_le _, rfl, rfl, HK.out⟩
            case round =>
              obtain ⟨j, rfl, hj, rfl, rfl, hjj⟩ := hrel
              have HJ := Lw.hid hjj
              clear hjj c0 c1
              by_cases hjl : j < cn
              · have hlt' : j < l.length := by rw [HCN.out]; exact hjl
                obtain ⟨g, off, rfl, q0, q1, q2, q3⟩ := HCR.out j hlt'
                replace q0 := HJ.out.cell q0 (fun h => h); replace q1 := HJ.out.cell q1 (fun h => h); replace q2 := HJ.out.cell q2 (fun h => h); replace q3 := HJ.out.cell q3 (fun h => h)
                have hh : hasF (l.take (j + 1)) id = (hasF (l.take j) id || decide (l[j].id = id)) := by
                  rw [take_snoc l j hlt']; unfold hasF; rw [List.any_append]; simp only [List.any_cons, List.any_nil, Bool.or_false]
                obtain ⟨t, ht⟩ : ∃ t, l[j] = t := ⟨_, rfl⟩
                rw [ht] at q0 q1 q2 q3 hh
                obtain ⟨ti, to, te, ts⟩ := t
                simp only at q0 q1 q2 q3 hh
                have HH := Lw.hid hh
                obtain ⟨fd, hfd⟩ : ∃ fd, hasF (l.take j) id = fd := ⟨_, rfl⟩
                rw [hfd] at HH ⊢
                have KX : Hid (Kept (fun _ => False) wr (wr.alloc (.cells #[u32v ti, u32v to, u32v te, .bool ts] 35))) := Lw.hid ((Kept.refl _ wr).alloc _)
                have i0 : (0 : Int) ≤ (j : Int) := by omega
                have i1 : (j : Int) < (cn : Int) := by omega
                have hkn : j + 1 ≤ cn := by omega
                clear ht hlt' hh hfd
                cases fd with
                | true =>
                  go_wp2_with fail
                  go_roundg (cn - (j + 1))
                  case measure => omega
                  case rel => exact ⟨j + 1, rfl, hkn, by go_num, by rw [HH.out]; rfl, HJ.out.trans KX.out (fun _ _ h => h)⟩
                | false =>
                  by_cases he : ti = id
                  · have e1 : ((ti : Int) == (id : Int)) = true := by rw [he]; simp
                    have HE := Lw.hid he
                    clear he
                    go_wp2_with fail
                    go_roundg (cn - (j + 1))
                    case measure => omega
                    case rel => exact ⟨j + 1, rfl, hkn, by go_num, by rw [HH.out, HE.out]; simp, HJ.out.trans KX.out (fun _ _ h => h)⟩
                  · have e1 : ((ti : Int) == (id : Int)) = false := by rw [beq_eq_false_iff_ne]; omega
                    have HE := Lw.hid he
                    clear he
                    go_wp2_with fail
                    go_roundg (cn - (j + 1))
                    case measure => omega
                    case rel => exact ⟨j + 1, rfl, hkn, by go_num, by rw [HH.out, decide_eq_false HE.out]; rfl, HJ.out.trans KX.out (fun _ _ h => h)⟩
              · obtain rfl : j = cn := by omega
                have htk : hasF (l.take j) id = hasF l id := by rw [List.take_of_length_le (by rw [HCN.out]; exact Nat.le_refl _)]
                rw [htk]
                obtain ⟨hf, hhf⟩ : ∃ hf, hasF l id = hf := ⟨_, rfl⟩
                rw [hhf] at HO1 ⊢
                clear htk hhf
                cases fo with
                | true =>
                  go_wp2_with fail
                  go_roundg (M - (k + 1))
                  case measure => omega
                  case rel => exact ⟨k + 1, rfl, hlt, by rw [← HID.out]; go_num, by rw [HO1.out]; rfl, HJ.out⟩
                | false =>
                  go_wp2_with fail
                  go_roundg (M - (k + 1))
                  case measure => omega
                  case rel => exact ⟨k + 1, rfl, hlt, by rw [← HID.out]; go_num, by rw [HO1.out]; rfl, HJ.out⟩
          · obtain rfl : k = M := by omega
            have hnl : ¬ (n + 1 + k < nx) := fun h => hlt ((hMl k).2 h)
            obtain ⟨id, hid⟩ : ∃ id, n + 1 + k = id := ⟨_, rfl⟩
            rw [hid] at hid9 hnl ⊢
            have d1 : decide ((id : Int) < (nx : Int)) = false := decide_eq_false (by omega)
            have d1' : decide (id < nx) = false := decide_eq_false hnl
            clear hid
            rw [HOK.out]
            have HZ := Lw.hid (HE1.out.keptF HK.out)
            have c2 := heap_cell HZ.out.num 0
            have HVW : Hid (∀ V', Kept (fun _ => False) wr V' → ∀ k, blk (.slice ad cn cap) k → k < V'.heap.size) := Lw.hid (fun V' hk k hb => by have := HFR.out k hb; have := HZ.out.hm; have := HZ.out.hs; have := hk.size; omega)
            obtain ⟨F, hF⟩ : ∃ F, fitsF nx n l = F := ⟨_, rfl⟩
            have HF := Lw.hid hF
            rw [hF]
            clear hF hnl hlt hMl hMn
            obtain ⟨wo, rfl⟩ : ∃ wo : World, wo = wr := ⟨_, rfl⟩
            by_cases hz : F = 0
            · subst hz
              have hd : decide ((0 : Nat) = 0) = true := rfl
              rw [hd]
              clear hd
              go_wp2_with fail
              refine (fits_any wo _ l HZ.out.rd nx n (by omega) (by omega) (by have := HL16.out; omega) (HVW.out _ (Kept.refl _ _))).mono ?_
              rw [HF.out]
              rintro e x1 ⟨rfl, k1⟩
              have HZ1 := Lw.hid (HZ.out.keptF k1)
              clear k1 c0 c1 c2
              have c0 := heap_cell HZ1.out.ask 0; have c1 := heap_cell HZ1.out.ask 1
              go_wp2_with fail
              refine (may_any x1 _ l HZ1.out.rd nx (by omega) (by have := HL16.out; omega)).mono ?_
              rw [HEA.out.may]
              rintro e x2 ⟨rfl, k2⟩
              have HZ2 := Lw.hid (HZ1.out.keptF k2)
              clear k2 c0 c1
              go_wp2_with fail
              go_loopg [26] (nx - 1) (fun gk s26 wx => ∃ i : Nat, gk = nx - i ∧ 1 ≤ i ∧ i ≤ nx ∧ s26 = u32v i ∧ wx = x2)
              case atStart => exact ⟨1, rfl, Nat.le_refl _, hnx.2, rfl, rfl⟩
              case round =>
                obtain ⟨i, rfl, hi1, hi, rfl, rfl⟩ := hrel
                have c0 := heap_cell HZ2.out.ask 0; have c3 := heap_cell HZ2.out.mp 0
                by_cases hin : i < nx
                · have d2 : decide ((i : Int) < (nx : Int)) = true := decide_eq_true (by omega)
                  have d2' : decide (i < nx) = true := decide_eq_true hin
                  have hlook := HZ2.out.own.look (T := 28) Try.underlying24 Try.underlying3 Try.underlying28 (zeroInt _) (k := i) (by omega)
                  rw [if_pos ((HEA.out.mem HF.out).2 ⟨hi1, hin⟩)] at hlook
                  go_wp2_with fail
                  go_roundg (nx - (i + 1))
                  case measure => omega
                  case rel => exact ⟨i + 1, rfl, by omega, hin, by go_num, rfl⟩
                · obtain rfl : i = nx := by omega
                  have d2 : decide ((i : Int) < (i : Int)) = false := decide_eq_false (by omega)
                  have hlen := fun ty => HZ2.out.own.len Try.underlying28 ty
                  have hkl := HEA.out.len HF.out
                  obtain ⟨kl, hkk⟩ : ∃ kl, (keysF i n l).length = kl := ⟨_, rfl⟩
                  rw [hkk] at hlen hkl
                  have hke : ((kl : Int) == (i : Int) - 1) = true := by rw [beq_iff_eq]; omega
                  clear hkl hkk
                  go_wp2_with fail
                  refine (rwakes_any _).mono ?_
                  rintro e x3 ⟨rfl, k3⟩
                  have HZ3 := Lw.hid (HZ2.out.keptF k3)
                  clear k3 c3
                  have r0 := heap_cell HZ3.out.res 0; have rf := heap_free HZ3.out.res 0
                  go_wp2_with fail
                  refine leaves_marks [D3, D2, D] _ HZ3.out.nd (fun d hd => (Below.heap_setCell _ _ _ _ (by have := HZ3.out.ds d hd; have := HZ3.out.lo; show d ≠ w.heap.size; omega)).trans (HZ3.out.ds d hd).1) (fun V' hk => ⟨.bool true, ?_, rfl, (HZ3.out.leaves true hk).2⟩)
                  simp [results, go_sem, (HZ3.out.leaves true hk).1]
            · have hd : decide (F = 0) = false := decide_eq_false hz
              rw [hd]
              have hn0 : ((F : Int) == 0) = false := by rw [beq_eq_false_iff_ne]; omega
              have HKN := Lw.hid (keys_none (nx := nx) (n := n) (l := l) (by rw [HF.out]; exact hz))
              clear hd hz
              go_wp2_with fail
              refine (fits_any wo _ l HZ.out.rd nx n (by omega) (by omega) (by have := HL16.out; omega) (HVW.out _ (Kept.refl _ _))).mono ?_
              rw [HF.out]
              rintro e x1 ⟨rfl, k1⟩
              have HZ1 := Lw.hid (HZ.out.keptF k1)
              clear k1 c0 c1 c2
              have c0 := heap_cell HZ1.out.ask 0; have c1 := heap_cell HZ1.out.ask 1
              go_wp2_with fail
              refine (may_any x1 _ l HZ1.out.rd nx (by omega) (by have := HL16.out; omega)).mono ?_
              rw [HEA.out.may]
              rintro e x2 ⟨rfl, k2⟩
              have HZ2 := Lw.hid (HZ1.out.keptF k2)
              clear k2 c0 c1
              have c3 := heap_cell HZ2.out.mp 0
              have hlen := fun ty => HZ2.out.own.len Try.underlying28 ty
              rw [HKN.out] at hlen
              go_wp2_with fail
              refine (rwakes_any x2).mono ?_
              rintro e x3 ⟨rfl, k3⟩
              have HZ3 := Lw.hid (HZ2.out.keptF k3)
              clear k3 c3
              have r0 := heap_cell HZ3.out.res 0; have rf := heap_free HZ3.out.res 0
              go_wp2_with fail
              refine leaves_marks [D3, D2, D] _ HZ3.out.nd (fun d hd => (Below.heap_setCell _ _ _ _ (by have := HZ3.out.ds d hd; have := HZ3.out.lo; show d ≠ w.heap.size; omega)).trans (HZ3.out.ds d hd).1) (fun V' hk => ⟨.bool true, ?_, rfl, (HZ3.out.leaves true hk).2⟩)
              simp [results, go_sem, (HZ3.out.leaves true hk).1]
theorem reach_below (w : World) (n0 o la : Nat) (v0 : Value) (told : List Hv) (ht : RdH w v0 told) (hn : n0 < 256) (ho : o < 18446744073709551616) (hla : la < 256) :
    Calls Try.prog 3 #[.int .u8 (n0 : Int), .int .u64 (o : Int), v0, .int .u8 (la : Int)] w fun e w' => e = .returned (.bool true) ∧ Below w.heap.size w w' :=
  (reach_any w n0 o la v0 told ht hn ho hla).mono fun _ _ ⟨e, k⟩ => ⟨e, Below.of_kept k⟩
end Go.Proofs.Ytbmfnepbdfnlaaa
