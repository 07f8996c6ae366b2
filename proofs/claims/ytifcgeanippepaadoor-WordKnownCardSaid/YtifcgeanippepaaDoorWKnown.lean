/- WordKnown, walked. -/
import Derived.Test.YtifcgeanippepaaDoorWKnownP
import Derived.Test.YtifcgeanippepaaDoorRound
namespace Go.Proofs.YtifcgeanippepaaDoor
open Go Go.RowKit Go.Lw
set_option maxRecDepth 100000
set_option linter.unusedVariables false
set_option linter.unusedSimpArgs false
attribute [local go_sem] BA_toList
attribute [local go_sem] Oper.semAt_some
set_option maxHeartbeats 16000000 in
theorem wknown_any (w : World) (hE : WEnv w) : Calls Tryd.prog 11 #[] w fun e w' => e = .returned (.bool true) ∧ Kept (fun _ => False) w w' := by
  have HE := Lw.hid hE
  clear hE
  have hmm := @run_makeMap Tryd.prog
  have HM := Lw.hid (SMap.made w w Tryd.prog 9 (Kept.refl _ w))
  refine calls_of_wp_marks Tryd.func11 rfl ?_
  simp only [Tryd.ntmps11, List.size_toArray, List.length_cons, List.length_nil, Nat.reduceAdd, Nat.reduceSub, Array.replicate_succ, Array.replicate_zero, List.push_toArray, List.append_toArray, List.nil_append, List.cons_append]
  go_wp2_with (first | (refine wpList_insert_const rfl _ _ _ _ rfl 9 9 Tryd.underlying9 Tryd.underlying51 _ _ _ rfl HM.out (by unfold maxLen; omega) (by unfold maxLen; simp) rfl ?_; clear HM; intro w9 hm9; have HM := Lw.hid hm9; clear hm9) | (at_range; refine wpList_range_lit rfl _ _ rfl 9 9 Tryd.underlying9 Tryd.underlying51 _ _ _ rfl HM.out ?_; clear HM; intro w1 cnt1 hr1 hk1))
  obtain ⟨r1, hr1e⟩ : ∃ r1, w9.heap.size = r1 := ⟨_, rfl⟩
  rw [hr1e] at hr1 ⊢
  have hr1' : SRange w w1 Tryd.prog 9 w.heap.size r1 22 (vOfW wknown) cnt1 := hr1
  have HR1 := Lw.hid hr1'
  clear hr1 hk1 hr1e hr1'
  go_frame
  go_loopg [] cnt1 (fun gk wx => SRange w wx Tryd.prog 9 w.heap.size r1 22 (vOfW wknown) gk)
  case atStart => exact HR1.out
  case round =>
    have HR := Lw.hid hrel
    clear hrel HR1
    have K0 := Lw.hid HR.out.kept
    have hbcs : (.agg #[.string ⟨#[]⟩, .string ⟨#[32]⟩, .string ⟨#[97, 32, 98]⟩, .string ⟨#[97, 59]⟩, .string ⟨#[59]⟩, .string ⟨#[35, 97]⟩, .string ⟨#[39, 97]⟩, .string ⟨#[36, 123]⟩, .string ⟨#[36, 123, 125]⟩, .string ⟨#[36, 123, 49, 125]⟩, .string ⟨#[36, 123, 120, 58, 125]⟩, .string ⟨#[36, 123, 120, 58, 43, 121, 125]⟩, .string ⟨#[36, 123, 120]⟩, .string ⟨#[36, 123, 63, 125]⟩, .string ⟨#[36, 40, 97, 41]⟩, .string ⟨#[96, 97, 96]⟩, .string ⟨#[97, 40]⟩, .string ⟨#[34]⟩, .string ⟨#[92]⟩] : Value) = .agg bcs := rfl
    have HBC := Lw.hid hbcs
    clear hbcs
    go_wp2_with (at_next; refine wpList_next_lit rfl _ rfl 9 Tryd.underlying9 _ _ _ _ _ rfl HR.out ?_ ?_)
    case refine_2 =>
      intro ks v w2 cnt2 hmem hr2 hlt2 hkk2 hen
      have HR2 := Lw.hid hr2
      obtain ⟨c, hc, rfl⟩ := vOfW_mem hmem.out
      obtain ⟨hl1, hl2, l, hp, ht, hm⟩ := wk_open hc
      have HL := Lw.hid (And.intro hl1 hl2); have HP := Lw.hid hp; have HTX := Lw.hid ht; have HMY := Lw.hid hm
      clear hr2 hkk2 hmem hc hl1 hl2 HR hp ht hm HBC K0
      go_wp2_with fail
      refine (parse_any _ ks (HE.out.kept HR2.out.kept (fun h => h) (fun h => h) (fun h => h)) (by have := HL.out.1; omega)).mono ?_
      rintro x w3 ⟨hx, k3⟩
      obtain ⟨vl, rfl, hvl⟩ := pp_at hx HP.out
      have HV := Lw.hid hvl; have HR3 := Lw.hid (HR2.out.keep k3)
      clear hx hvl k3 HR2
      have HT := Lw.hid (text_any (w := w3) (by rw [HTX.out]; have := HL.out.2; omega) HV.out)
      rw [HTX.out] at HT
      have hbb : (BA c != BA c) = false := by rw [bne, BA_beq]; simp
      go_wp2_with fail
      refine HT.out.mono ?_
      rintro x w4 ⟨rfl, k4⟩
      have HV4 := Lw.hid (HV.out.kept k4 (fun _ _ h => h)); have HR4 := Lw.hid (HR3.out.keep k4)
      clear k4 HT HR3
      have HY := Lw.hid (may_any w4 _ _ l (HE.out.kept HR4.out.kept (fun h => h) (fun h => h) (fun h => h)) HV4.out (by rw [HTX.out]; have := HL.out.2; omega))
      rw [HMY.out] at HY
      go_wp2_with fail
      refine HY.out.mono ?_
      rintro x w5 ⟨rfl, k5⟩
      have HR5 := Lw.hid (HR4.out.keep k5)
      clear k5 HY HR4
      go_wp2_with fail
      go_roundg cnt2
      case measure => exact hlt2
      case rel => exact HR5.out
    clear HR
    rw [HBC.out]
    obtain ⟨wo, rfl⟩ : ∃ wo : World, wo = wr := ⟨_, rfl⟩
    go_loopg [6, 57] 19 (fun gk s6 s57 wx => ∃ k : Nat, gk = 19 - k ∧ k ≤ 19 ∧ s57 = .int .i64 (k : Int) ∧ Kept (fun _ => False) w wx)
    case atStart => exact ⟨0, rfl, Nat.zero_le _, rfl, K0.out⟩
    case round =>
      obtain ⟨k, rfl, hk, rfl, hkw⟩ := hrel
      have HKW := Lw.hid hkw
      clear hkw K0 HBC
      by_cases hlt : k < 19
      · obtain ⟨s, hs⟩ : ∃ s, wbadL[k]? = some s := ⟨_, List.getElem?_eq_getElem (by rw [wb_len]; exact hlt)⟩
        have hix := bcs_index k hlt s hs
        obtain ⟨hl1, h1⟩ := wb_open (List.mem_of_getElem? hs)
        have HL := Lw.hid hl1; have HP := Lw.hid h1
        clear hs hl1 h1
        go_wp2_with fail
        refine (parse_any _ s (HE.out.kept HKW.out (fun h => h) (fun h => h) (fun h => h)) (by have := HL.out; omega)).mono ?_
        rintro x w3 ⟨hx, k3⟩
        unfold ParsePost at hx
        rw [HP.out] at hx
        subst hx
        have HKW3 := Lw.hid (HKW.out.trans k3 (fun _ _ h => h))
        clear k3
        go_wp2_with fail
        go_roundg (19 - (k + 1))
        case measure => omega
        case rel => exact ⟨k + 1, rfl, hlt, by go_num, HKW3.out⟩
      · obtain rfl : k = 19 := by omega
        have K0 := Lw.hid HKW.out
        clear HKW hk hlt
        go_wp2_with fail
        refine (parse_any _ exD (HE.out.kept K0.out (fun h => h) (fun h => h) (fun h => h)) (by decide)).mono ?_
        rintro x w3 ⟨hx, k3⟩
        obtain ⟨va, rfl, hva⟩ := pp_at hx exD_ok
        obtain ⟨aa, an, ac, rfl⟩ := hva.slice
        have HVA := Lw.hid hva; have K1 := Lw.hid (K0.out.trans k3 (fun _ _ h => h))
        clear hx hva k3
        go_wp2_with fail
        have cS := heap_alloc w3 (.cells #[.string ⟨#[]⟩] 9)
        have cM := heap_alloc (w3.alloc (.cells #[.string ⟨#[]⟩] 9)) (.cells #[.int .i64 0] 3)
        obtain ⟨lo, hlo⟩ : ∃ lo, w3.heap.size = lo := ⟨_, rfl⟩
        obtain ⟨wc, hwc⟩ : ∃ wc, (w3.alloc (.cells #[.string ⟨#[]⟩] 9)).alloc (.cells #[.int .i64 0] 3) = wc := ⟨_, rfl⟩
        have HS0 : Hid (wc.heap[lo]? = some (.cells #[.string (BA [])] 9 (0, 0))) := Lw.hid (by rw [← hwc, ← hlo]; exact heap_alloc_lt cS)
        have HM0 : Hid (wc.heap[lo + 1]? = some (.cells #[.int .i64 0] 3 (0, 0))) := Lw.hid (by rw [← hwc, ← hlo]; rw [World.size_alloc] at cM; exact cM)
        have KB : Hid (Kept (fun _ => False) w3 wc) := Lw.hid (by rw [← hwc]; exact ((Kept.refl _ w3).alloc _).alloc _)
        have HSZ : Hid (wc.heap.size = lo + 2) := Lw.hid (by rw [← hwc, ← hlo]; simp)
        have HLW : Hid (w.heap.size ≤ lo) := Lw.hid (by rw [← hlo]; exact K1.out.size)
        have HAB : Hid (WAt wc (fun b => w.heap.size ≤ b ∧ b < lo) (.slice aa an ac) exDp) := Lw.hid ((HVA.out.mono (fun b hb hF => (⟨Nat.le_trans K0.out.size hF, by rw [← hlo]; exact hb⟩ : w.heap.size ≤ b ∧ b < lo))).kept KB.out (fun _ _ h => h))
        rw [hwc, hlo]
        clear cS cM hwc hlo
        refine (all_any wc aa an ac).mono ?_
        rintro x w4 ⟨BB, rfl, hbb, k4, hsz4⟩
        have HBB := Lw.hid hbb; have K4 := Lw.hid k4; have HZ4 := Lw.hid hsz4; have HBL := Lw.hid (heap_lt hbb)
        clear hbb k4 hsz4
        go_wp2_with fail
        refine (safew_any w4 _ _ _).mono ?_
        rintro x w4 ⟨rfl, rfl⟩
        go_wp2_with fail
        refine wp_nm2 (fun ac1 hac => ?_)
        have HAC := Lw.hid hac.out
        have HFL : Hid (∀ b, (b = BB ∨ (w.heap.size ≤ b ∧ b < lo)) → b < w4.heap.size ∧ b ≠ lo ∧ b ≠ lo + 1) := Lw.hid (fun b hb => by
          have h1 := HSZ.out; have h2 := HZ4.out; have h3 := HBL.out; have h4 := K4.out.size
          rcases hb with rfl | hb <;> omega)
        have HSEQ := Lw.hid (all_iter (szL exDp) exD_sz exDp w4 BB (.slice aa an ac) (fun b => w.heap.size ≤ b ∧ b < lo) (Nat.le_refl _) HBB.out (HAB.out.kept K4.out (fun _ _ h => h)) (fun b hb => (HFL.out b (.inr hb)).1))
        have HL4 : Hid (w.heap.size ≤ lo ∧ lo + 2 ≤ w4.heap.size) := Lw.hid (by
          have h1 := HSZ.out; have h2 := K4.out.size; have h3 := HLW.out
          exact ⟨h3, by omega⟩)
        clear HAC
        refine wp_rangeE (gf := 64) (lb := #[.pointer (some ⟨BB, 0, none⟩)]) (by rw [hac.out]; rfl) (Go.Proofs.enters_of Tryd.func64 (by kernel_rfl) rfl)
          HSEQ.out (AE.mono _) (fun b hb => (HFL.out b hb).1) (fun _ _ _ x A W h => by obtain ⟨_, _, _, rfl, _⟩ := h; rfl)
          (fun X pre V => V.heap[lo]? = some (.cells #[.string (BA (dstr pre))] 9 (0, 0)) ∧ Kept (fun k => k = lo) w4 V ∧ (∀ b, X b → w4.heap.size ≤ b))
          (fun _ _ _ _ => False) ?_ ?_ ?_
          (fun X Xp q V => ∃ (qa : Option Addr) (qn qc : Nat), q.2.2 = { tmps := ((ac1.tmps.setIfInBounds 80 (.int .i64 (q.2.1.1 : Int))).setIfInBounds 81 (.agg #[.int .i64 q.2.1.2.kind, .string (BA q.2.1.2.text), .slice qa qn qc, .bool q.2.1.2.quoted])).setIfInBounds 13 (.int .i64 (q.2.1.1 : Int)), defers := [] }) (fun _ _ _ _ _ _ _ h _ _ _ => h) ?assign ?body ?done ?stop
        · rintro X X' s A A' ⟨h1, h2, h3⟩ hk hx
          refine ⟨hk.heap h1 (fun h => by have := h3 _ h; have := HL4.out; omega), h2.trans hk (fun i hi hX => by have := h3 i hX; omega), fun b hb => ?_⟩
          rcases hx b hb with h | h
          · exact h3 b h
          · have := h2.size; omega
        · rintro c X X' s A A' h hk hx
          exact h
        · exact ⟨K4.out.heap HS0.out (fun h => h), Kept.refl _ _, fun _ h => h.elim⟩
        case assign =>
          rintro y X Xp pre x A V K hi hXX ⟨qa, qn, qc, rfl, _⟩ hXb hpx hsz hK
          rw [hac.out] at hK ⊢
          have HI := Lw.hid hi
          clear hi
          gi_wp2
          exact hK _ _ (Keeps.refl _ _) HI.out ⟨qa, qn, qc, rfl⟩
        case body =>
          rintro y X Xp pre x a' V ⟨h1, h2, h3⟩ hXX ⟨qa, qn, qc, hax⟩ hXb hpx hsz
          dsimp only at hax
          subst hax
          rw [hac.out]
          simp only [List.setIfInBounds_toArray, List.set_cons_zero, List.set_cons_succ]
          have hxm : x ∈ allL exDp := hpx.subset (by simp)
          have hd2 : x.1 ≤ 2 := exD_depth x hxm
          obtain ⟨d, hd⟩ : ∃ d, x.1 = d := ⟨_, rfl⟩
          rw [hd] at hd2 ⊢
          have HD := Lw.hid hd; have H1 := Lw.hid h1; have H2 := Lw.hid h2; have H3 := Lw.hid h3; have HXX := Lw.hid hXX
          have hpl : (dstr pre).length ≤ 6 := by
            obtain ⟨t, ht⟩ := hpx
            have := congrArg List.length ht
            rw [exD_len] at this
            simp at this
            unfold dstr
            rw [List.length_map]; omega
          obtain ⟨ds, hds⟩ : ∃ ds, dstr pre = ds := ⟨_, rfl⟩
          have HDS := Lw.hid hds
          rw [hds] at h1 hpl
          have HPL : Hid ((BA ds).size ≤ 6) := Lw.hid (by rw [BA_size]; exact hpl)
          have HH1 := Lw.hid h1
          obtain ⟨bd, hbd⟩ : ∃ bd, UInt8.ofNat (48 + d) = bd := ⟨_, rfl⟩
          have HBS : Hid ((BA [48, 49, 50, 51]).extract d (d + 1) = BA [bd]) := Lw.hid (by rw [← hbd]; exact digit_str d hd2)
          have HSN : Hid (dstr (pre ++ [x]) = ds ++ [bd]) := Lw.hid (by rw [dstr_snoc, hds, hd, hbd])
          clear hbd
          clear hd hxm h1 h2 h3 hXb hXX hpx hds hpl
          refine wpIn_block ?_
          refine wpIn_round_any (by kernel_rfl) (by kernel_rfl) (fun ⟨a, w, h⟩ => h.elim) (wpAny_tail 6 [stV (.string (BA ds)), stV (.int .i64 (d : Int)), stV (.int .i64 (d : Int)), stV (.int .i64 ((d : Int) + 1)), stV (.string (BA [bd])), stV (.string (BA (ds ++ [bd])))] (by kernel_rfl) ?_ ?_)
          · -- each operation by itself
            refine ssteps_cons (fun a' w' hI hag hf K hK => ?_) ?_
            · have s11 := hag.same 11 (by decide)
              clear hag
              have HI := Lw.hid hI
              have cc := hI.cell (heap_cell HH1.out 0) (fun h => h)
              clear hI
              go_wp2_with fail
              exact hK _ _ HI.out (Kept.refl _ _) rfl
            refine ssteps_cons (fun a' w' hI hag hf K hK => ?_) ?_
            · have s13 := hag.same 13 (by decide)
              clear hag
              go_wp2_with fail
              exact hK _ _ hI (Kept.refl _ _) rfl
            refine ssteps_cons (fun a' w' hI hag hf K hK => ?_) ?_
            · have s13 := hag.same 13 (by decide)
              clear hag
              go_wp2_with fail
              exact hK _ _ hI (Kept.refl _ _) rfl
            refine ssteps_cons (fun a' w' hI hag hf K hK => ?_) ?_
            · obtain ⟨⟨_, h2, rfl⟩, -⟩ : SFacts _ _ a' w' [2] := hf
              clear hag
              go_wp2_with fail
              exact hK _ _ hI (Kept.refl _ _) rfl
            refine ssteps_cons (fun a' w' hI hag hf K hK => ?_) ?_
            · obtain ⟨⟨_, h1, rfl⟩, ⟨_, h3, rfl⟩, -⟩ : SFacts _ _ a' w' [1, 3] := hf
              clear hag
              have HI := Lw.hid hI
              have hd0 : (0 : Int) ≤ (d : Int) := by omega
              have hd1 : (d : Int) ≤ (d : Int) + 1 := by omega
              have hd3 : (d : Int) + 1 ≤ 4 := by omega
              clear hI
              go_wp2_with fail
              exact hK _ _ HI.out (Kept.refl _ _) (by show Value.string _ = _; rw [← HBS.out]; rfl)
            refine ssteps_cons (fun a' w' hI hag hf K hK => ?_) ?_
            · obtain ⟨⟨_, h0, rfl⟩, ⟨_, h4, rfl⟩, -⟩ : SFacts _ _ a' w' [0, 4] := hf
              clear hag
              have HI := Lw.hid hI
              have hp6 := HPL.out
              have hp1 : (BA [bd]).size ≤ 1 := by rw [BA_size]; exact Nat.le_refl _
              clear hI
              go_wp2_with fail
              exact hK _ _ HI.out (Kept.refl _ _) (by show Value.string _ = _; rw [← BA_append])
            exact trivial
          · intro vs w7 hI hvs
            have q0 : vs 0 = (.string (BA ds)) := hvs 0 _ _ rfl rfl
            have q1 : vs 1 = (.int .i64 (d : Int)) := hvs 1 _ _ rfl rfl
            have q2 : vs 2 = (.int .i64 (d : Int)) := hvs 2 _ _ rfl rfl
            have q3 : vs 3 = (.int .i64 ((d : Int) + 1)) := hvs 3 _ _ rfl rfl
            have q4 : vs 4 = (.string (BA [bd])) := hvs 4 _ _ rfl rfl
            have q5 : vs 5 = (.string (BA (ds ++ [bd]))) := hvs 5 _ _ rfl rfl
            clear hvs
            simp only [List.take_succ_cons, List.take_zero, List.drop_succ_cons, List.drop_zero, putAll, Act.put, List.setIfInBounds_toArray, List.set_cons_zero, List.set_cons_succ, Nat.reduceAdd, q0, q1, q2, q3, q4, q5]
            clear q0 q1 q2 q3 q4 q5
            have cc := hI.cell (heap_cell HH1.out 0) (fun h => h)
            have ff := heap_free (hI.heap HH1.out (fun h => h)) 0
            have HI := Lw.hid hI
            clear hI
            go_wp2_with fail
            exact ⟨((HI.out.mono (S' := fun k => k = lo) (fun _ _ h => h.elim)).set lo 0 (fun _ => rfl) _).keeps (fun k hk hr e => by
        rcases hr with h | h
        · exact (HFL.out k h).2.1 e
        · have h5 := H3.out k (HXX.out k h); have h6 := HL4.out; omega), by
        rw [HSN.out]
        exact heap_set (HI.out.heap HH1.out (fun h => h)) 0 _, H2.out.trans ((HI.out.mono (S' := fun k => k = lo) (fun _ _ h => h.elim)).set lo 0 (fun _ => rfl) _) (fun _ _ h => h), fun b hb => H3.out b (HXX.out b hb)⟩
        case stop =>
          rintro X c pre D V hD hXD hXb hpre hne h hdf
          exact h.elim
        case done =>
          rintro X D V hD hXD hXb ⟨h1, h2, h3⟩ hdf
          rw [exD_str] at h1
          have HDF := Lw.hid hdf; have HDL : Hid (lo + 2 ≤ D) := Lw.hid (Nat.le_trans HL4.out.2 hD)
          have HS1 := Lw.hid h1
          have HM1 : Hid (V.heap[lo + 1]? = some (.cells #[.int .i64 0] 3 (0, 0))) := Lw.hid (h2.heap (K4.out.heap HM0.out (fun h => h)) (by omega))
          have KV : Hid (Kept (fun _ => False) w V) := Lw.hid (((K1.out.trans KB.out (fun _ _ h => h)).trans K4.out (fun _ _ h => h)).trans h2 (fun i hi e => by have := HLW.out; omega))
          have HAV : Hid (WAt V (fun b => w.heap.size ≤ b ∧ b < lo) (.slice aa an ac) exDp) := Lw.hid ((HAB.out.kept K4.out (fun _ _ h => h)).kept h2 (fun b hb e => by omega))
          have HLV : Hid (w.heap.size ≤ lo ∧ lo + 2 ≤ V.heap.size) := Lw.hid (by have h5 := HL4.out; have h6 := h2.size; omega)
          rw [hac.out]
          clear hac hdf hD hXD hXb h1 h2 h3 HFL HSEQ HL4 HAB HBB HZ4 HBL HS0 HM0 HVA HSZ
          obtain ⟨wv, rfl⟩ : ∃ wv : World, wv = V := ⟨_, rfl⟩
          go_wp2_with fail
          refine (all_any wv aa an ac).mono ?_
          rintro x w5 ⟨B2, rfl, hb2, k5, hz5⟩
          have HB2 := Lw.hid hb2; have K5 := Lw.hid k5; have HZ5 := Lw.hid hz5; have HBL := Lw.hid (heap_lt hb2)
          clear hb2 k5 hz5
          go_wp2_with fail
          refine (safew_any w5 _ _ _).mono ?_
          rintro x w5 ⟨rfl, rfl⟩
          go_wp2_with fail
          refine wp_nm2 (fun ac2 hac => ?_)
          have HFL : Hid (∀ b, (b = B2 ∨ (w.heap.size ≤ b ∧ b < lo)) → b < w5.heap.size ∧ b ≠ lo ∧ b ≠ lo + 1) := Lw.hid (fun b hb => by
            have h1 := HLV.out; have h2 := HZ5.out; have h3 := HBL.out; have h4 := K5.out.size
            rcases hb with rfl | hb <;> omega)
          have HSEQ := Lw.hid (all_iter (szL exDp) exD_sz exDp w5 B2 (.slice aa an ac) (fun b => w.heap.size ≤ b ∧ b < lo) (Nat.le_refl _) HB2.out (HAV.out.kept K5.out (fun _ _ h => h)) (fun b hb => (HFL.out b (.inr hb)).1))
          have HL5 : Hid (w.heap.size ≤ lo ∧ lo + 2 ≤ w5.heap.size) := Lw.hid (by have h1 := HLV.out; have h2 := K5.out.size; omega)
          refine wp_rangeE (gf := 64) (lb := #[.pointer (some ⟨B2, 0, none⟩)]) (by rw [hac.out]; rfl) (Go.Proofs.enters_of Tryd.func64 (by kernel_rfl) rfl)
            HSEQ.out (AE.mono _) (fun b hb => (HFL.out b hb).1) (fun _ _ _ x A W h => by obtain ⟨_, _, _, rfl, _⟩ := h; rfl)
            (fun X pre V => V.heap[lo + 1]? = some (.cells #[.int .i64 (pre.length : Int)] 3 (0, 0)) ∧ pre.length < 3 ∧ Kept (fun k => k = lo + 1) w5 V ∧ (∀ b, X b → w5.heap.size ≤ b))
            (fun c X pre V => c = .exit 6 ∧ V.heap[lo + 1]? = some (.cells #[.int .i64 3] 3 (0, 0)) ∧ Kept (fun k => k = lo + 1) w5 V ∧ (∀ b, X b → w5.heap.size ≤ b)) ?_ ?_ ?_
            (fun X Xp q V => ∃ (qa : Option Addr) (qn qc : Nat), q.2.2 = { tmps := (ac2.tmps.setIfInBounds 91 (.int .i64 (q.2.1.1 : Int))).setIfInBounds 92 (.agg #[.int .i64 q.2.1.2.kind, .string (BA q.2.1.2.text), .slice qa qn qc, .bool q.2.1.2.quoted]), defers := [] }) (fun _ _ _ _ _ _ _ h _ _ _ => h) ?assign2 ?body2 ?done2 ?stop2
          · rintro X X' s A A' ⟨h1, h2, h3, h4⟩ hk hx
            refine ⟨hk.heap h1 (fun h => by have := h4 _ h; have := HL5.out; omega), h2, h3.trans hk (fun i hi hX => by have := h4 i hX; omega), fun b hb => ?_⟩
            rcases hx b hb with h | h
            · exact h4 b h
            · have := h3.size; omega
          · rintro c X X' s A A' ⟨h0, h1, h3, h4⟩ hk hx
            refine ⟨h0, hk.heap h1 (fun h => by have := h4 _ h; have := HL5.out; omega), h3.trans hk (fun i hi hX => by have := h4 i hX; omega), fun b hb => ?_⟩
            rcases hx b hb with h | h
            · exact h4 b h
            · have := h3.size; omega
          · exact ⟨K5.out.heap HM1.out (fun h => h), by decide, Kept.refl _ _, fun _ h => h.elim⟩
          case assign2 =>
            rintro y X Xp pre x A V K hi hXX ⟨qa, qn, qc, rfl, _⟩ hXb hpx hsz hK
            rw [hac.out] at hK ⊢
            have HI := Lw.hid hi
            clear hi
            gi_wp2
            exact hK _ _ (Keeps.refl _ _) HI.out ⟨qa, qn, qc, rfl⟩
          case body2 =>
            rintro y X Xp pre x a' V ⟨h1, h2, h3, h4⟩ hXX ⟨qa, qn, qc, hax⟩ hXb hpx hsz
            dsimp only at hax
            subst hax
            rw [hac.out]
            simp only [List.setIfInBounds_toArray, List.set_cons_zero, List.set_cons_succ]
            have HP1 : Hid ((pre ++ [x]).length = pre.length + 1) := Lw.hid (by simp)
            obtain ⟨m, hm⟩ : ∃ m, pre.length = m := ⟨_, rfl⟩
            rw [hm] at h1 h2 HP1
            have H1 := Lw.hid h1; have H3 := Lw.hid h3; have H4 := Lw.hid (fun b hb => h4 b (hXX b hb))
            have c1 := heap_cell h1 0; have f1 := heap_free h1 0
            have c2 := heap_cell (heap_set h1 0 (.int .i64 ((m : Int) + 1))) 0
            have KK : ∀ u, Hid (Keeps (fun k => (k = B2 ∨ (w.heap.size ≤ k ∧ k < lo)) ∨ X k) V (V.setCell ⟨lo + 1, 0, none⟩ u)) := fun u => Lw.hid (((Kept.refl (fun k => k = lo + 1) V).set (lo + 1) 0 (fun _ => rfl) u).keeps (fun k hk hr e => by
              rcases hr with h | h
              · exact (HFL.out k h).2.2 e
              · have h5 := H4.out k h; have h6 := HL5.out; omega))
            have K3 : ∀ u, Hid (Kept (fun k => k = lo + 1) w5 (V.setCell ⟨lo + 1, 0, none⟩ u)) := fun u => Lw.hid (H3.out.set (lo + 1) 0 (fun _ => rfl) u)
            clear h1 h3 h4 hXX hXb hpx hm
            have e3 : m = 0 ∨ m = 1 ∨ m = 2 := by omega
            rcases e3 with rfl | rfl | rfl
            · gi_wp2_with fail
              refine ⟨(KK _).out, ?_⟩
              dsimp only
              rw [HP1.out]
              exact ⟨heap_set H1.out 0 _, by decide, (K3 _).out, H4.out⟩
            · gi_wp2_with fail
              refine ⟨(KK _).out, ?_⟩
              dsimp only
              rw [HP1.out]
              exact ⟨heap_set H1.out 0 _, by decide, (K3 _).out, H4.out⟩
            · gi_wp2_with fail
              exact ⟨(KK _).out, rfl, heap_set H1.out 0 _, (K3 _).out, H4.out⟩
          case done2 =>
            rintro X D V hD hXD hXb ⟨h1, h2, h3⟩ hdf
            rw [exD_len] at h2
            omega
          case stop2 =>
            rintro X c pre D2 V hD2 hXD hXb hpre hne ⟨rfl, h1, h2, h3⟩ hdf
            have HDF2 := Lw.hid hdf; have HDL2 : Hid (lo + 2 ≤ D2) := Lw.hid (Nat.le_trans HL5.out.2 hD2)
            have HDS2 : Hid (D2 ≠ D) := Lw.hid (fun e => by have h5 := heap_lt HDF.out; have h6 := K5.out.size; omega)
            have HDF1 : Hid (V.heap[D]? = some (.deferred (some []))) := Lw.hid (h2.heap (K5.out.heap HDF.out (fun h => h)) (by have := HDL.out; omega))
            have HS : Hid (V.heap[lo]? = some (.cells #[.string ⟨#[48, 48, 49, 49, 50, 48]⟩] 9 (0, 0))) := Lw.hid (h2.heap (K5.out.heap HS1.out (fun h => h)) (by omega))
            have HM := Lw.hid h1
            have K0 : Hid (Kept (fun _ => False) w V) := Lw.hid ((KV.out.trans K5.out (fun _ _ h => h)).trans h2 (fun i hi e => by have := HLW.out; omega))
            rw [hac.out]
            clear hac hdf hD2 hXD hXb hpre hne h1 h2 h3 HFL HSEQ HL5 HAV HB2 HZ5 HBL HS1 HM1 HDF KV K5
            obtain ⟨wv2, rfl⟩ : ∃ wv2 : World, wv2 = V := ⟨_, rfl⟩
            go_wp2_with fail
            refine (assign_any wv2 [120, 61] (HE.out.kept K0.out (fun h => h) (fun h => h) (fun h => h)) (by decide)).mono ?_
            rintro x w6 ⟨hx, k6⟩
            unfold AssignPost at hx
            rw [as1] at hx
            obtain ⟨vv, rfl, hvv⟩ := hx
            obtain ⟨va, vn, vc, rfl⟩ := hvv.slice
            have hvn : vn = 0 := hvv.elem.1
            subst hvn
            have KA := Lw.hid k6; have KK1 := Lw.hid (K0.out.trans k6 (fun _ _ h => h))
            clear hvv k6
            go_wp2_with fail
            refine (assign_any _ [49, 61, 97] (HE.out.kept KK1.out (fun h => h) (fun h => h) (fun h => h)) (by decide)).mono ?_
            rintro x w6 ⟨hx, k6⟩
            unfold AssignPost at hx
            rw [as2] at hx
            subst hx
            replace KA := Lw.hid (KA.out.trans k6 (fun _ _ h => h)); have KK2 := Lw.hid (KK1.out.trans k6 (fun _ _ h => h))
            clear k6
            go_wp2_with fail
            refine (assign_any _ [120, 61, 97, 32, 98] (HE.out.kept KK2.out (fun h => h) (fun h => h) (fun h => h)) (by decide)).mono ?_
            rintro x w6 ⟨hx, k6⟩
            unfold AssignPost at hx
            rw [as3] at hx
            subst hx
            replace KA := Lw.hid (KA.out.trans k6 (fun _ _ h => h)); have KK3 := Lw.hid (KK2.out.trans k6 (fun _ _ h => h))
            clear k6
            go_wp2_with fail
            refine (assign_any _ [61, 97] (HE.out.kept KK3.out (fun h => h) (fun h => h) (fun h => h)) (by decide)).mono ?_
            rintro x w6 ⟨hx, k6⟩
            unfold AssignPost at hx
            rw [as4] at hx
            subst hx
            replace KA := Lw.hid (KA.out.trans k6 (fun _ _ h => h)); have KK4 := Lw.hid (KK3.out.trans k6 (fun _ _ h => h))
            clear k6
            go_wp2_with fail
            refine (rep_any _ 97 2049 (by decide)).mono ?_
            rintro x w6 ⟨rfl, k6⟩
            replace KA := Lw.hid (KA.out.trans k6 (fun _ _ h => h)); have KK5 := Lw.hid (KK4.out.trans k6 (fun _ _ h => h))
            clear k6
            have HPL := Lw.hid pr_long
            have HLL : Hid ((List.replicate 2049 (97 : UInt8)).length ≤ 1000000) := Lw.hid (by rw [List.length_replicate]; decide)
            generalize List.replicate 2049 (97 : UInt8) = q9 at HPL HLL ⊢
            go_wp2_with fail
            refine (parse_any _ q9 (HE.out.kept KK5.out (fun h => h) (fun h => h) (fun h => h)) HLL.out).mono ?_
            rintro x w7 ⟨hx, k7⟩
            unfold ParsePost at hx
            rw [HPL.out] at hx
            subst hx
            replace KA := Lw.hid (KA.out.trans k7 (fun _ _ h => h)); have KK6 := Lw.hid (KK5.out.trans k7 (fun _ _ h => h))
            clear k7
            have L1 := Lw.hid (WAt.lit w7 (fun _ => True) [(.mk 1 [105, 102] [] false, .slice none 0 0)] [.int .i64 1, .string ⟨#[105, 102]⟩, .slice none 0 0, .bool false] rfl 1 rfl (by unfold maxLen; omega) trivial (fun x hx => by
              rw [List.mem_singleton.1 hx]; exact WAt.nil _ _) w7.heap.size rfl)
            go_wp2_with fail
            refine (bare_any _ _ _ _ L1.out).mono ?_
            rintro x w8 ⟨rfl, hw8⟩
            have K8 : Hid (Kept (fun _ => False) w7 w8) := Lw.hid (by rw [hw8]; exact (Kept.refl _ w7).alloc _)
            replace KA := Lw.hid (KA.out.trans K8.out (fun _ _ h => h)); have KK7 := Lw.hid (KK6.out.trans K8.out (fun _ _ h => h))
            rw [show bareV (List.map Prod.fst [(Prt.mk 1 [105, 102] [] false, Value.slice none 0 0)]) = .tuple #[.string (BA [105, 102]), .bool true] from rfl]
            clear hw8 K8 L1
            have cS := heap_cell (KA.out.heap HS.out (fun h => h)) 0; have cM := heap_cell (KA.out.heap HM.out (fun h => h)) 0
            go_wp2_with fail
            have L1 := Lw.hid (WAt.lit w8 (fun _ => True) ([] : List (Prt × Value)) [] rfl 0 rfl (by unfold maxLen; omega) trivial (fun x hx => by cases hx) w8.heap.size rfl)
            have K8 : Hid (Kept (fun _ => False) w8 (w8.alloc (.cells ([] : List Value).toArray 46))) := Lw.hid ((Kept.refl _ w8).alloc _)
            have HY := Lw.hid (may_any _ _ _ _ (HE.out.kept (KK7.out.trans K8.out (fun _ _ h => h)) (fun h => h) (fun h => h) (fun h => h)) L1.out (by decide))
            refine HY.out.mono ?_
            rintro x w9 ⟨hx, k8⟩
            have hx2 : x = .returned (.bool false) := hx.trans (by rw [show mayF (List.map Prod.fst ([] : List (Prt × Value))) = false from may0])
            subst hx2
            replace KA := Lw.hid (KA.out.trans (K8.out.trans k8 (fun _ _ h => h)) (fun _ _ h => h)); have KK8 := Lw.hid (KK7.out.trans (K8.out.trans k8 (fun _ _ h => h)) (fun _ _ h => h))
            clear hx k8 K8 L1 HY
            have L1 := Lw.hid (WAt.lit w9 (fun _ => True) [(Prt.mk 9 [36, 120] [] false, Value.slice none 0 0)] [.int .i64 9, .string ⟨#[36, 120]⟩, .slice none 0 0, .bool false] rfl 1 rfl (by unfold maxLen; omega) trivial (fun x hx => by rw [List.mem_singleton.1 hx]; exact WAt.nil _ _) w9.heap.size rfl)
            go_wp2_with fail
            have K8 : Hid (Kept (fun _ => False) w9 (w9.alloc (.cells ([.int .i64 9, .string ⟨#[36, 120]⟩, .slice none 0 0, .bool false] : List Value).toArray 46))) := Lw.hid ((Kept.refl _ w9).alloc _)
            have HY := Lw.hid (may_any _ _ _ _ (HE.out.kept (KK8.out.trans K8.out (fun _ _ h => h)) (fun h => h) (fun h => h) (fun h => h)) L1.out (by decide))
            refine HY.out.mono ?_
            rintro x w10 ⟨hx, k8⟩
            have hx2 : x = .returned (.bool false) := hx.trans (by rw [show mayF (List.map Prod.fst [(Prt.mk 9 [36, 120] [] false, Value.slice none 0 0)]) = false from may1])
            subst hx2
            replace KA := Lw.hid (KA.out.trans (K8.out.trans k8 (fun _ _ h => h)) (fun _ _ h => h)); have KK9 := Lw.hid (KK8.out.trans (K8.out.trans k8 (fun _ _ h => h)) (fun _ _ h => h))
            clear hx k8 K8 L1 HY
            have L1 := Lw.hid (WAt.lit w10 (fun _ => True) [(Prt.mk 1 [97, 32, 98] [] false, Value.slice none 0 0)] [.int .i64 1, .string ⟨#[97, 32, 98]⟩, .slice none 0 0, .bool false] rfl 1 rfl (by unfold maxLen; omega) trivial (fun x hx => by rw [List.mem_singleton.1 hx]; exact WAt.nil _ _) w10.heap.size rfl)
            go_wp2_with fail
            have K8 : Hid (Kept (fun _ => False) w10 (w10.alloc (.cells ([.int .i64 1, .string ⟨#[97, 32, 98]⟩, .slice none 0 0, .bool false] : List Value).toArray 46))) := Lw.hid ((Kept.refl _ w10).alloc _)
            have HY := Lw.hid (may_any _ _ _ _ (HE.out.kept (KK9.out.trans K8.out (fun _ _ h => h)) (fun h => h) (fun h => h) (fun h => h)) L1.out (by decide))
            refine HY.out.mono ?_
            rintro x w11 ⟨hx, k8⟩
            have hx2 : x = .returned (.bool false) := hx.trans (by rw [show mayF (List.map Prod.fst [(Prt.mk 1 [97, 32, 98] [] false, Value.slice none 0 0)]) = false from may2])
            subst hx2
            replace KA := Lw.hid (KA.out.trans (K8.out.trans k8 (fun _ _ h => h)) (fun _ _ h => h)); have KK10 := Lw.hid (KK9.out.trans (K8.out.trans k8 (fun _ _ h => h)) (fun _ _ h => h))
            clear hx k8 K8 L1 HY
            go_wp2_with fail
            refine (wakes17_any _ (HE.out.kept KK10.out (fun h => h) (fun h => h) (fun h => h))).mono ?_
            rintro x w12 ⟨rfl, k8⟩
            replace KA := Lw.hid (KA.out.trans k8 (fun _ _ h => h)); have KK11 := Lw.hid (KK10.out.trans k8 (fun _ _ h => h))
            clear k8
            go_wp2_with fail
            refine leaves_marks [D2, D] _ (List.nodup_cons.2 ⟨fun h => HDS2.out (List.mem_singleton.1 h), List.nodup_cons.2 ⟨by simp, List.nodup_nil⟩⟩) (fun r hr => ?_) (fun W9 hk9 => ?_)
            · rcases List.mem_cons.1 hr with rfl | hr
              · exact KA.out.heap HDF2.out (fun h => h)
              · rw [List.mem_singleton.1 hr]; exact KA.out.heap HDF1.out (fun h => h)
            · refine ⟨.bool true, by simp [results, go_sem], rfl, KK11.out.trans hk9 (fun i hi h => ?_)⟩
              have h1 := HDL.out; have h2 := HDL2.out; have h3 := HLW.out
              rcases List.mem_cons.1 h with rfl | h
              · omega
              · rw [List.mem_singleton.1 h] at hi; omega
theorem wknown_below (w : World) (hE : WEnv w) : Calls Tryd.prog 11 #[] w fun e w' => e = .returned (.bool true) ∧ Below w.heap.size w w' := (wknown_any w hE).mono fun _ _ ⟨e, k⟩ => ⟨e, Below.of_kept k⟩
end Go.Proofs.YtifcgeanippepaaDoor
