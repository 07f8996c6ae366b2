/- ArithChains, walked. -/
import Derived.Test.YtoedopgjonhemaaDoorChainsP
import Derived.Test.YtoedopgjonhemaaDoorLate
import Derived.Lib.QuietBelow
namespace Go.Proofs.YtoedopgjonhemaaDoor
open Go Go.RowKit Go.Lw
set_option maxRecDepth 100000
set_option linter.unusedVariables false
set_option linter.unusedSimpArgs false
attribute [local go_sem] BA_toList
theorem tab_kept {S : Nat → Prop} {w w' : World} (h : Lib.TabIs Tryd.prog w "internal/strconv.uint64pow10" .u64 Lib.pow10Tab) (hg : Tryd.prog.globalNamed "internal/strconv.uint64pow10" = some 0) (k : Kept S w w') (hS : ¬ S 0) : Lib.TabIs Tryd.prog w' "internal/strconv.uint64pow10" .u64 Lib.pow10Tab := by
  unfold Lib.TabIs World.var? at *
  rw [hg] at h ⊢
  simp only [Option.bind_some] at h ⊢
  cases hh : w.heap[0]? with
  | none => rw [hh] at h; cases h
  | some x => rw [hh] at h; rw [k.heap hh hS]; exact h
theorem gPow0 : Tryd.prog.globalNamed "internal/strconv.uint64pow10" = some 0 := by kernel_rfl
/-- What ArithChains stands upon. -/
structure CEnv (B : Nat) (dv : Value) (w : World) : Prop where
  d : DEnv B dv w
  t : Lib.TabIs Tryd.prog w "internal/strconv.uint64pow10" .u64 Lib.pow10Tab
theorem CEnv.kept {B : Nat} {dv : Value} {w w' : World} (h : CEnv B dv w) (k : Kept (fun _ => False) w w') : CEnv B dv w' := ⟨h.d.kept k (fun _ h => h.elim), tab_kept h.t gPow0 k (fun h => h)⟩
theorem itoa_any (B : Nat) (dv : Value) (w : World) (hE : CEnv B dv w) (n : Int) (h0 : -9223372036854775808 ≤ n) (h1 : n ≤ 9223372036854775807) : Calls Tryd.prog 7 #[.int .i64 n] w fun x w' => x = .returned (.string (BA (Lib.itoa n))) ∧ Kept (fun _ => False) w w' := by
  refine (Tryd.strconv_Itoa n h0 h1 w hE.t).mono ?_
  rintro x w' ⟨rfl, k, os, rfl⟩
  refine ⟨rfl, rfl, rfl, rfl, by simp [Go.Sort.grow], fun i hi _ => ?_⟩
  show (w.heap ++ os)[i]? = _
  rw [Array.getElem?_append_left hi]
def nzip : Nat → List Int → List UInt8 → List Itm
  | _, [], _ => []
  | k, z :: r, sg => (if k < sg.length then (sg.getD k 0).toNat % 3 else 0, z) :: nzip (k + 1) r sg
theorem nzip_len : ∀ (l : List Int) (k : Nat) (sg : List UInt8), (nzip k l sg).length = l.length
  | [], _, _ => rfl
  | z :: r, k, sg => by simp [nzip, nzip_len r]
theorem nzip_at : ∀ (l : List Int) (k j : Nat) (sg : List UInt8) (z : Int), l[j]? = some z → (nzip k l sg)[j]? = some (if k + j < sg.length then (sg.getD (k + j) 0).toNat % 3 else 0, z)
  | [], k, j, sg, z, h => by cases h
  | y :: r, k, 0, sg, z, h => by cases h; rfl
  | y :: r, k, j + 1, sg, z, h => by
    have := nzip_at r (k + 1) j sg z (by simpa using h)
    rw [show k + (j + 1) = k + 1 + j by omega]
    exact this
theorem nzip_ok : ∀ (l : List Int) (k : Nat) (sg : List UInt8), (∀ z ∈ l, -32768 ≤ z ∧ z ≤ 32767) → okI (nzip k l sg)
  | [], k, sg, _ => fun p hp => by cases hp
  | z :: r, k, sg, h => fun p hp => by
    rcases List.mem_cons.1 hp with rfl | hp
    · refine ⟨?_, h z (List.mem_cons_self ..)⟩
      show (if k < sg.length then (sg.getD k 0).toNat % 3 else 0) < 3
      split <;> omega
    · exact nzip_ok r (k + 1) sg (fun y hy => h y (List.mem_cons_of_mem _ hy)) p hp
theorem tlC_app : ∀ (a b : List Itm), tlC (a ++ b) = tlC a ++ tlC b
  | [], b => rfl
  | p :: r, b => by rw [List.cons_append, tlC_cons, tlC_cons, tlC_app r b]; simp
theorem cell_lt9 {w : World} {g i : Nat} {v : Value} (h : w.cell? ⟨g, i, none⟩ = some v) : g < w.heap.size := by
  rcases Nat.lt_or_ge g w.heap.size with h1 | h1
  · exact h1
  · exfalso
    simp [World.cell?, Array.getElem?_eq_none h1] at h
theorem itoa_len (n : Int) (h0 : -32768 ≤ n) (h1 : n ≤ 32767) : (Lib.itoa n).length ≤ 21 := Lib.itoa_length_le n (by omega) (by omega)
theorem tlC_len : ∀ l : List Itm, okI l → (tlC l).length ≤ 23 * l.length
  | [], _ => Nat.zero_le _
  | p :: r, h => by
    have h1 := tlC_len r (okI_tl h)
    have h2 := h p (List.mem_cons_self ..)
    have h3 := itoa_len p.2 h2.2.1 h2.2.2
    rw [tlC_cons]
    simp only [List.length_cons, List.length_append]
    omega
theorem okI_take {l : List Itm} (h : okI l) (k : Nat) : okI (l.take k) := fun p hp => h p (List.mem_of_mem_take hp)
set_option maxHeartbeats 16000000 in
theorem chains_any (B : Nat) (dv : Value) (w : World) (hE : CEnv B dv w) (c0 c1 : Value) (nums : List Int) (sgs : List UInt8) (hR : Rd w 1 c0 nums.length (nums.map fun z => .int .i16 z)) (hrg : ∀ z ∈ nums, -32768 ≤ z ∧ z ≤ 32767) (hS : RdB w c1 sgs) :
    Calls Tryd.prog 3 #[.agg #[c0, c1]] w fun x w' => x = .returned (.bool true) ∧ Kept (fun _ => False) w w' := by
  have HE : Hid (∀ wx, Kept (fun _ => False) w wx → CEnv B dv wx) := Lw.hid (fun wx k => hE.kept k)
  obtain ⟨_, ad, cap, rfl, hnc, hcm, hcl⟩ := hR
  obtain ⟨sd, scap, rfl, hsc, hsm, hsl⟩ := hS.open
  obtain ⟨n, hn⟩ : ∃ n, nums.length = n := ⟨_, rfl⟩
  obtain ⟨m, hm⟩ : ∃ m, sgs.length = m := ⟨_, rfl⟩
  obtain ⟨b0, hb0⟩ : ∃ b, w.heap.size = b := ⟨_, rfl⟩
  obtain ⟨wa, hwa⟩ : ∃ wa, w.alloc (.cells #[.slice ad n cap, .slice sd m scap] 25) = wa := ⟨_, rfl⟩
  have HA : Hid (wa.heap[b0]? = some (.cells #[.slice ad n cap, .slice sd m scap] 25 (0, 0))) := Lw.hid (by rw [← hwa, ← hb0]; exact heap_alloc w _)
  have KA : Hid (Kept (fun _ => False) w wa) := Lw.hid (by rw [← hwa]; exact (Kept.refl _ w).alloc _)
  have a0 := heap_cell HA.out 0
  rw [hn] at hnc
  rw [hn, hm]
  have HM := Lw.hid hm; have HWA := Lw.hid hwa; have HB0 := Lw.hid hb0; have HSL := Lw.hid hsl
  clear hE hS hm hwa hb0 hsl
  by_cases hn0 : n = 0
  · subst hn0
    clear hcl hrg hn
    go_enter Tryd.func3, Tryd.ntmps3
    go_wp2_with fail
    rw [HWA.out, HB0.out]
    go_wp2_with fail
    refine (wakes_any B wa dv (HE.out wa KA.out).d).mono ?_
    rintro x w1 ⟨rfl, k1⟩
    have K1 := Lw.hid (KA.out.trans k1 (fun _ _ h => h))
    clear k1
    go_wp2_with fail
    go_ret
    exact ⟨rfl, K1.out⟩
  · obtain ⟨y, hy, hmin⟩ : ∃ y : Nat, (y < 12 ∧ y + 1 ≤ n) ∧ min (n : Int) 12 = (y : Int) + 1 := by
      by_cases h : n ≤ 12
      · exact ⟨n - 1, by omega, by omega⟩
      · exact ⟨11, by omega, by omega⟩
    obtain ⟨z0, hz0⟩ : ∃ z, nums[0]? = some z := ⟨_, List.getElem?_eq_getElem (by omega)⟩
    obtain ⟨rs, hrs⟩ : ∃ rs, (nums.drop 1).take y = rs := ⟨_, rfl⟩
    have hrl : rs.length = y := by rw [← hrs, List.length_take, List.length_drop]; omega
    have hra : ∀ (j : Nat) z, rs[j]? = some z → nums[j + 1]? = some z := fun j z h => by
      rw [← hrs, List.getElem?_take] at h
      split at h
      · rw [List.getElem?_drop, Nat.add_comm] at h; exact h
      · cases h
    obtain ⟨g, off, rfl, hc0⟩ := hcl 0 (.int .i16 z0) (by rw [List.getElem?_map, hz0]; rfl)
    obtain ⟨L, hL⟩ : ∃ L, nzip 0 rs sgs = L := ⟨_, rfl⟩
    have hLl : L.length = y := by rw [← hL, nzip_len, hrl]
    have hrr : ∀ z ∈ rs, -32768 ≤ z ∧ z ≤ 32767 := fun z hz => by
      obtain ⟨j, hj⟩ := List.mem_iff_getElem?.1 hz
      exact hrg z (List.mem_of_getElem? (hra j z hj))
    have HLO : Hid (okI L) := Lw.hid (by rw [← hL]; exact nzip_ok rs 0 sgs hrr)
    have HLA : Hid (∀ (k : Nat), k < y → ∃ z c, rs[k]? = some z ∧ L[k]? = some (c, z) ∧ c = (if k < m then (sgs.getD k 0).toNat % 3 else 0) ∧ w.cell? ⟨g, off + 1 + k, none⟩ = some (.int .i16 z)) := Lw.hid (fun k hk => by
      obtain ⟨z, hz⟩ : ∃ z, rs[k]? = some z := ⟨_, List.getElem?_eq_getElem (by omega)⟩
      have h1 := nzip_at rs 0 k sgs z hz
      rw [hL, Nat.zero_add, HM.out] at h1
      obtain ⟨g', off', e1, e2⟩ := hcl (k + 1) (.int .i16 z) (by rw [List.getElem?_map, hra k z hz]; rfl)
      cases e1
      exact ⟨z, _, hz, h1, rfl, by rw [show off + 1 + k = off + (k + 1) by omega]; exact e2⟩)
    have HC0 := Lw.hid hc0
    have cz := KA.out.cell HC0.out (fun h => h)
    have cw := HC0.out
    rw [Nat.add_zero] at cz cw
    have hgw := cell_lt9 cw
    obtain ⟨hzl, hzh⟩ := hrg z0 (List.mem_of_getElem? hz0)
    have HLL := Lw.hid hLl
    have hyn : (y : Int) + 1 ≤ (cap : Int) := by omega
    clear hcl hrg hn hz0 hrs hrl hra hL hLl hrr hc0
    have hcap : (cap = 1 ∧ y = 0) ∨ cap ≠ 1 := by
      by_cases h : cap = 1
      · exact .inl ⟨h, by omega⟩
      · exact .inr h
    rcases hcap with ⟨rfl, rfl⟩ | hcap
    · go_enter Tryd.func3, Tryd.ntmps3
      go_wp2_with fail
      rw [HWA.out, HB0.out]
      refine (itoa_any B dv wa (HE.out wa KA.out) z0 (by omega) (by omega)).mono ?_
      rintro x w1 ⟨rfl, k1⟩
      have K1 := Lw.hid k1
      have cz1 := k1.cell cz (fun h => h)
      clear k1 cz a0
      go_wp2_with fail
      go_quiet (fail)
      go_wp2_with fail
      go_loopg [4, 5, 6, 36] 0 (fun gk s4 s5 s6 s36 wx => ∃ k : Nat, gk = 0 - k ∧ k ≤ 0 ∧ s36 = .int .i64 (k : Int) ∧ s4 = .string (BA (Lib.itoa z0 ++ tlC (L.take k))) ∧ s5 = .int .i64 ((L.take k).foldl stepL (0, z0)).1 ∧ s6 = .int .i64 ((L.take k).foldl stepL (0, z0)).2 ∧ Kept (fun _ => False) wa wx)
      case atStart => exact ⟨0, rfl, Nat.zero_le _, rfl, by simp [tlC], rfl, rfl, by first | exact K1.out | exact K1.out.trans (kept_drewN' _ _) (fun _ _ h => h)⟩
      case round =>
        obtain ⟨k, rfl, hk, rfl, rfl, rfl, rfl, hkw⟩ := hrel
        have HKW := Lw.hid hkw
        have KW := Lw.hid (KA.out.trans hkw (fun _ _ h => h))
        clear hkw K1 cz1
        by_cases hlt : k < 0
        · omega
        · have hky : k = 0 := by omega
          have HTK : Hid (L.take k = L) := Lw.hid (List.take_of_length_le (by rw [HLL.out, hky]; exact Nat.le_refl _))
          rw [HTK.out]
          have HLW := Lw.hid (lawE_any B wr (Lib.itoa z0 ++ tlC L) none dv envN (HE.out wr KW.out).d (by
            have h1 := tlC_len L HLO.out; have h2 := itoa_len z0 hzl hzh; have h3 := HLL.out
            rw [List.length_append]; omega) (fun _ => Nat.zero_le _) (look_nil wr))
          rw [chain_law envN z0 L hzl hzh HLO.out] at HLW
          obtain ⟨q5, hq5⟩ : ∃ q, (L.foldl stepL (0, z0)).1 = q := ⟨_, rfl⟩
          obtain ⟨q6, hq6⟩ : ∃ q, (L.foldl stepL (0, z0)).2 = q := ⟨_, rfl⟩
          rw [hq5, hq6] at HLW ⊢
          have eW : W64 (q5 + q6) = wrap64 (q5 + q6) := IntWalk.i64_left _
          rw [eW] at HLW
          have hlt2 : decide ((k : Int) < ((0 : Nat) : Int)) = false := decide_eq_false (by omega)
          clear hq5 hq6 eW HLA
          go_wp2_with fail
          refine HLW.out.mono ?_
          rintro x w2 ⟨⟨sl, rfl, -⟩, k2⟩
          have K2 := Lw.hid (KW.out.trans k2 (fun _ _ h => h))
          clear k2
          go_wp2_with fail
          refine (wakes_any B w2 dv (HE.out w2 K2.out).d).mono ?_
          rintro x w3 ⟨rfl, k3⟩
          have K3 := Lw.hid (K2.out.trans k3 (fun _ _ h => h))
          clear k3
          go_wp2_with fail
          go_ret
          exact ⟨rfl, K3.out⟩
    · go_enter Tryd.func3, Tryd.ntmps3
      go_wp2_with fail
      rw [HWA.out, HB0.out]
      refine (itoa_any B dv wa (HE.out wa KA.out) z0 (by omega) (by omega)).mono ?_
      rintro x w1 ⟨rfl, k1⟩
      have K1 := Lw.hid k1
      have cz1 := k1.cell cz (fun h => h)
      clear k1 cz a0
      go_wp2_with fail
      go_quiet (fail)
      go_wp2_with fail
      go_loopg [4, 5, 6, 36] y (fun gk s4 s5 s6 s36 wx => ∃ k : Nat, gk = y - k ∧ k ≤ y ∧ s36 = .int .i64 (k : Int) ∧ s4 = .string (BA (Lib.itoa z0 ++ tlC (L.take k))) ∧ s5 = .int .i64 ((L.take k).foldl stepL (0, z0)).1 ∧ s6 = .int .i64 ((L.take k).foldl stepL (0, z0)).2 ∧ Kept (fun _ => False) wa wx)
      case atStart => exact ⟨0, rfl, Nat.zero_le _, rfl, by simp [tlC], rfl, rfl, by first | exact K1.out | exact K1.out.trans (kept_drewN' _ _) (fun _ _ h => h)⟩
      case round =>
        obtain ⟨k, rfl, hk, rfl, rfl, rfl, rfl, hkw⟩ := hrel
        have HKW := Lw.hid hkw
        have KW := Lw.hid (KA.out.trans hkw (fun _ _ h => h))
        clear hkw K1 cz1
        by_cases hlt : k < y
        · obtain ⟨z, c, hz, hLk, hc, hcw⟩ := HLA.out k hlt
          obtain ⟨hz1, hz2⟩ := (HLO.out _ (List.mem_of_getElem? hLk)).2
          have cn := KW.out.cell hcw (fun h => h)
          have ca := heap_cell (HKW.out.heap HA.out (fun h => h)) 1
          have cb := heap_cell (HKW.out.heap HA.out (fun h => h)) 0
          have hts : L.take (k + 1) = L.take k ++ [(c, z)] := by
            have hkl : k < L.length := by rw [HLL.out]; exact hlt
            rw [take_snoc L k hkl]
            rw [List.getElem?_eq_getElem hkl] at hLk
            rw [Option.some.inj hLk]
          have hS1 : Lib.itoa z0 ++ tlC (L.take (k + 1)) = (Lib.itoa z0 ++ tlC (L.take k)) ++ (sgC c :: 32 :: Lib.itoa z) := by
            rw [hts, tlC_app, tlC_cons]; simp [tlC]
          have hF1 : (L.take (k + 1)).foldl stepL (0, z0) = stepL ((L.take k).foldl stepL (0, z0)) (c, z) := by rw [hts, List.foldl_append]; rfl
          have HS1 := Lw.hid hS1; have HF1 := Lw.hid hF1
          have zS : (BA (Lib.itoa z0 ++ tlC (L.take k))).size ≤ 400 := by
            have h1 := tlC_len (L.take k) (okI_take HLO.out k); have h2 := itoa_len z0 hzl hzh
            rw [List.length_take] at h1
            rw [BA_size, List.length_append]; omega
          have zI : (BA (Lib.itoa z)).size ≤ 21 := by rw [BA_size]; exact itoa_len z hz1 hz2
          have HIT := Lw.hid (fun wx (hx : Kept (fun _ => False) w wx) => itoa_any B dv wx (HE.out wx hx) z (by omega) (by omega))
          obtain ⟨S, hS⟩ : ∃ S, Lib.itoa z0 ++ tlC (L.take k) = S := ⟨_, rfl⟩
          obtain ⟨q5, hq5⟩ : ∃ q, ((L.take k).foldl stepL (0, z0)).1 = q := ⟨_, rfl⟩
          obtain ⟨q6, hq6⟩ : ∃ q, ((L.take k).foldl stepL (0, z0)).2 = q := ⟨_, rfl⟩
          have HQ : Hid ((L.take k).foldl stepL (0, z0) = (q5, q6)) := Lw.hid (by rw [← hq5, ← hq6])
          rw [hS] at HS1 zS ⊢
          rw [hq5, hq6]
          have hHF : Hid ((L.take (k + 1)).foldl stepL (0, z0) = stepL (q5, q6) (c, z)) := Lw.hid (by rw [HF1.out, HQ.out])
          obtain ⟨T, hT⟩ : ∃ T, Lib.itoa z = T := ⟨_, rfl⟩
          rw [hT] at HS1 zI HIT
          clear hz hLk hcw hts hS1 hF1 HF1 HQ hS hq5 hq6 hT
          by_cases hkm : k < m
          · obtain ⟨g2, off2, rfl, e2⟩ := HSL.out k (by rw [HM.out]; exact hkm)
            obtain ⟨bq, hbq⟩ : ∃ b, sgs.getD k 0 = b := ⟨_, rfl⟩
            have hbk : sgs[k]'(by rw [HM.out]; exact hkm) = bq := by rw [← hbq, List.getD_eq_getElem?_getD, List.getElem?_eq_getElem (by rw [HM.out]; exact hkm)]; rfl
            rw [hbk] at e2
            have cs := KW.out.cell e2 (fun h => h)
            rw [if_pos hkm, hbq] at hc
            have hb256 := bq.toNat_lt
            have hc3 : c = 0 ∨ c = 1 ∨ c = 2 := by omega
            clear e2 hbk hbq
            rcases hc3 with rfl | rfl | rfl
            · have hrm : (bq.toNat : Int) % 3 = 0 := by omega
              clear hc hb256
              go_wp2_with fail
              refine wp_region_late 12 [stV (.string (BA S)), stV (.int .u8 0), stV (.int .u8 0), stV (.int .u8 1), stV (.string (BA [43])), stV (.string (BA [43, 32])), stV (.int .i16 z), stV (.int .i64 z), stV (.string (BA T)), stV (.string (BA (43 :: 32 :: T))), stV (.string (BA (S ++ (43 :: 32 :: T)))), stV (.string (BA (S ++ (43 :: 32 :: T))))] (by kernel_rfl) (by kernel_rfl) ?_ ?_
              · -- each operation by itself
                refine lsteps_cons (fun a' w' hI hag hlt hf K hK => ?_) ?_
                · have s4 := hlt 11 _ 4 rfl rfl (by kernel_rfl)
                  clear hlt
                  clear hag
                  have HI := Lw.hid hI
                  clear hI
                  go_wp2_with fail
                  exact hK _ _ HI.out (Kept.refl _ _) rfl
                refine lsteps_cons (fun a' w' hI hag hlt hf K hK => ?_) ?_
                · have s9 := hag.same 9 (by decide)
                  clear hlt
                  clear hag
                  have HI := Lw.hid hI
                  clear hI
                  go_wp2_with fail
                  exact hK _ _ HI.out (Kept.refl _ _) rfl
                refine lsteps_cons (fun a' w' hI hag hlt hf K hK => ?_) ?_
                · have s9 := hag.same 9 (by decide)
                  clear hlt
                  clear hag
                  have HI := Lw.hid hI
                  clear hI
                  go_wp2_with fail
                  exact hK _ _ HI.out (Kept.refl _ _) rfl
                refine lsteps_cons (fun a' w' hI hag hlt hf K hK => ?_) ?_
                · obtain ⟨⟨_, h2, rfl⟩, -⟩ : SFacts _ _ a' w' [2] := hf
                  clear hlt
                  clear hag
                  have HI := Lw.hid hI
                  clear hI
                  go_wp2_with fail
                  exact hK _ _ HI.out (Kept.refl _ _) rfl
                refine lsteps_cons (fun a' w' hI hag hlt hf K hK => ?_) ?_
                · obtain ⟨⟨_, h1, rfl⟩, ⟨_, h3, rfl⟩, -⟩ : SFacts _ _ a' w' [1, 3] := hf
                  clear hlt
                  clear hag
                  have HI := Lw.hid hI
                  clear hI
                  go_wp2_with fail
                  exact hK _ _ HI.out (Kept.refl _ _) rfl
                refine lsteps_cons (fun a' w' hI hag hlt hf K hK => ?_) ?_
                · obtain ⟨⟨_, h4, rfl⟩, -⟩ : SFacts _ _ a' w' [4] := hf
                  clear hlt
                  clear hag
                  have HI := Lw.hid hI
                  clear hI
                  go_wp2_with fail
                  exact hK _ _ HI.out (Kept.refl _ _) rfl
                refine lsteps_cons (fun a' w' hI hag hlt hf K hK => ?_) ?_
                · have s8 := hag.same 8 (by decide)
                  clear hlt
                  clear hag
                  have HI := Lw.hid hI
                  clear hI
                  go_wp2_with fail
                  exact hK _ _ HI.out (Kept.refl _ _) rfl
                refine lsteps_cons (fun a' w' hI hag hlt hf K hK => ?_) ?_
                · obtain ⟨⟨_, h6, rfl⟩, -⟩ : SFacts _ _ a' w' [6] := hf
                  clear hlt
                  clear hag
                  have HI := Lw.hid hI
                  clear hI
                  go_wp2_with fail
                  exact hK _ _ HI.out (Kept.refl _ _) rfl
                refine lsteps_cons (fun a' w' hI hag hlt hf K hK => ?_) ?_
                · obtain ⟨⟨_, h7, rfl⟩, -⟩ : SFacts _ _ a' w' [7] := hf
                  clear hlt
                  clear hag
                  have HI := Lw.hid hI
                  clear hI
                  go_wp2_with fail
                  refine (HIT.out w' (KW.out.trans HI.out (fun _ _ h => h))).mono ?_
                  rintro x w9 ⟨rfl, k9⟩
                  have K9 := Lw.hid k9
                  clear k9
                  go_wp2_with fail
                  exact hK _ _ (HI.out.trans K9.out (fun _ _ h => h)) K9.out rfl
                refine lsteps_cons (fun a' w' hI hag hlt hf K hK => ?_) ?_
                · obtain ⟨⟨_, h5, rfl⟩, ⟨_, h8, rfl⟩, -⟩ : SFacts _ _ a' w' [5, 8] := hf
                  clear hlt
                  clear hag
                  have HI := Lw.hid hI
                  have y1 : (BA [43, 32]).size = 2 := BA_size _
                  clear hI
                  go_wp2_with fail
                  exact hK _ _ HI.out (Kept.refl _ _) (congrArg Value.string (BA_append _ _))
                refine lsteps_cons (fun a' w' hI hag hlt hf K hK => ?_) ?_
                · obtain ⟨⟨_, h0, rfl⟩, ⟨_, h9, rfl⟩, -⟩ : SFacts _ _ a' w' [0, 9] := hf
                  clear hlt
                  clear hag
                  have HI := Lw.hid hI
                  have y1 : (BA (43 :: 32 :: T)).size ≤ 30 := by rw [BA_size] at zI ⊢; simp only [List.length_cons]; omega
                  have y2 := zS
                  clear hI
                  go_wp2_with fail
                  exact hK _ _ HI.out (Kept.refl _ _) (congrArg Value.string (BA_append _ _))
                refine lsteps_cons (fun a' w' hI hag hlt hf K hK => ?_) ?_
                · obtain ⟨⟨_, h10, rfl⟩, -⟩ : SFacts _ _ a' w' [10, 8, 0, 1, 2, 3, 4, 5, 6, 7, 9] := hf
                  clear hlt
                  clear hag
                  have HI := Lw.hid hI
                  clear hI
                  go_wp2_with fail
                  exact hK _ _ HI.out (Kept.refl _ _) rfl
                exact trivial
              · intro vs w9 hI hvs
                have q0 : vs 0 = (.string (BA S)) := hvs 0 _ _ rfl rfl
                have q1 : vs 1 = (.int .u8 0) := hvs 1 _ _ rfl rfl
                have q2 : vs 2 = (.int .u8 0) := hvs 2 _ _ rfl rfl
                have q3 : vs 3 = (.int .u8 1) := hvs 3 _ _ rfl rfl
                have q4 : vs 4 = (.string (BA [43])) := hvs 4 _ _ rfl rfl
                have q5 : vs 5 = (.string (BA [43, 32])) := hvs 5 _ _ rfl rfl
                have q6 : vs 6 = (.int .i16 z) := hvs 6 _ _ rfl rfl
                have q7 : vs 7 = (.int .i64 z) := hvs 7 _ _ rfl rfl
                have q8 : vs 8 = (.string (BA T)) := hvs 8 _ _ rfl rfl
                have q9 : vs 9 = (.string (BA (43 :: 32 :: T))) := hvs 9 _ _ rfl rfl
                have q10 : vs 10 = (.string (BA (S ++ (43 :: 32 :: T)))) := hvs 10 _ _ rfl rfl
                have q11 : vs 11 = (.string (BA (S ++ (43 :: 32 :: T)))) := hvs 11 _ _ rfl rfl
                clear hvs
                simp only [List.take_succ_cons, List.take_zero, List.drop_succ_cons, List.drop_zero, putAll, Act.put, List.setIfInBounds_toArray, List.set_cons_zero, List.set_cons_succ, Nat.reduceAdd, q0, q1, q2, q3, q4, q5, q6, q7, q8, q9, q10, q11]
                clear q0 q1 q2 q3 q4 q5 q6 q7 q8 q9 q10 q11
                have KW9 := Lw.hid (HKW.out.trans hI (fun _ _ h => h))
                clear hI
                go_wp2_with fail
                go_roundg (y - (k + 1))
                case measure => omega
                case rel =>
                  refine ⟨k + 1, rfl, hlt, by go_num, ?_, ?_, ?_, KW9.out⟩
                  · rw [HS1.out]; rfl
                  · rw [hHF.out]; exact congrArg (fun v => Value.int .i64 v) (by first | rfl | (simp only [stepL]; exact (IntWalk.i64_left _).symm) | simp [stepL, IntWalk.i64_left])
                  · rw [hHF.out]; exact congrArg (fun v => Value.int .i64 v) (by first | rfl | (simp only [stepL]; exact (IntWalk.i64_left _).symm) | simp [stepL, IntWalk.i64_left])
            · have hrm : (bq.toNat : Int) % 3 = 1 := by omega
              clear hc hb256
              go_wp2_with fail
              refine wp_region_late 12 [stV (.string (BA S)), stV (.int .u8 1), stV (.int .u8 1), stV (.int .u8 2), stV (.string (BA [45])), stV (.string (BA [45, 32])), stV (.int .i16 z), stV (.int .i64 z), stV (.string (BA T)), stV (.string (BA (45 :: 32 :: T))), stV (.string (BA (S ++ (45 :: 32 :: T)))), stV (.string (BA (S ++ (45 :: 32 :: T))))] (by kernel_rfl) (by kernel_rfl) ?_ ?_
              · -- each operation by itself
                refine lsteps_cons (fun a' w' hI hag hlt hf K hK => ?_) ?_
                · have s4 := hlt 11 _ 4 rfl rfl (by kernel_rfl)
                  clear hlt
                  clear hag
                  have HI := Lw.hid hI
                  clear hI
                  go_wp2_with fail
                  exact hK _ _ HI.out (Kept.refl _ _) rfl
                refine lsteps_cons (fun a' w' hI hag hlt hf K hK => ?_) ?_
                · have s9 := hag.same 9 (by decide)
                  clear hlt
                  clear hag
                  have HI := Lw.hid hI
                  clear hI
                  go_wp2_with fail
                  exact hK _ _ HI.out (Kept.refl _ _) rfl
                refine lsteps_cons (fun a' w' hI hag hlt hf K hK => ?_) ?_
                · have s9 := hag.same 9 (by decide)
                  clear hlt
                  clear hag
                  have HI := Lw.hid hI
                  clear hI
                  go_wp2_with fail
                  exact hK _ _ HI.out (Kept.refl _ _) rfl
                refine lsteps_cons (fun a' w' hI hag hlt hf K hK => ?_) ?_
                · obtain ⟨⟨_, h2, rfl⟩, -⟩ : SFacts _ _ a' w' [2] := hf
                  clear hlt
                  clear hag
                  have HI := Lw.hid hI
                  clear hI
                  go_wp2_with fail
                  exact hK _ _ HI.out (Kept.refl _ _) rfl
                refine lsteps_cons (fun a' w' hI hag hlt hf K hK => ?_) ?_
                · obtain ⟨⟨_, h1, rfl⟩, ⟨_, h3, rfl⟩, -⟩ : SFacts _ _ a' w' [1, 3] := hf
                  clear hlt
                  clear hag
                  have HI := Lw.hid hI
                  clear hI
                  go_wp2_with fail
                  exact hK _ _ HI.out (Kept.refl _ _) rfl
                refine lsteps_cons (fun a' w' hI hag hlt hf K hK => ?_) ?_
                · obtain ⟨⟨_, h4, rfl⟩, -⟩ : SFacts _ _ a' w' [4] := hf
                  clear hlt
                  clear hag
                  have HI := Lw.hid hI
                  clear hI
                  go_wp2_with fail
                  exact hK _ _ HI.out (Kept.refl _ _) rfl
                refine lsteps_cons (fun a' w' hI hag hlt hf K hK => ?_) ?_
                · have s8 := hag.same 8 (by decide)
                  clear hlt
                  clear hag
                  have HI := Lw.hid hI
                  clear hI
                  go_wp2_with fail
                  exact hK _ _ HI.out (Kept.refl _ _) rfl
                refine lsteps_cons (fun a' w' hI hag hlt hf K hK => ?_) ?_
                · obtain ⟨⟨_, h6, rfl⟩, -⟩ : SFacts _ _ a' w' [6] := hf
                  clear hlt
                  clear hag
                  have HI := Lw.hid hI
                  clear hI
                  go_wp2_with fail
                  exact hK _ _ HI.out (Kept.refl _ _) rfl
                refine lsteps_cons (fun a' w' hI hag hlt hf K hK => ?_) ?_
                · obtain ⟨⟨_, h7, rfl⟩, -⟩ : SFacts _ _ a' w' [7] := hf
                  clear hlt
                  clear hag
                  have HI := Lw.hid hI
                  clear hI
                  go_wp2_with fail
                  refine (HIT.out w' (KW.out.trans HI.out (fun _ _ h => h))).mono ?_
                  rintro x w9 ⟨rfl, k9⟩
                  have K9 := Lw.hid k9
                  clear k9
                  go_wp2_with fail
                  exact hK _ _ (HI.out.trans K9.out (fun _ _ h => h)) K9.out rfl
                refine lsteps_cons (fun a' w' hI hag hlt hf K hK => ?_) ?_
                · obtain ⟨⟨_, h5, rfl⟩, ⟨_, h8, rfl⟩, -⟩ : SFacts _ _ a' w' [5, 8] := hf
                  clear hlt
                  clear hag
                  have HI := Lw.hid hI
                  have y1 : (BA [45, 32]).size = 2 := BA_size _
                  clear hI
                  go_wp2_with fail
                  exact hK _ _ HI.out (Kept.refl _ _) (congrArg Value.string (BA_append _ _))
                refine lsteps_cons (fun a' w' hI hag hlt hf K hK => ?_) ?_
                · obtain ⟨⟨_, h0, rfl⟩, ⟨_, h9, rfl⟩, -⟩ : SFacts _ _ a' w' [0, 9] := hf
                  clear hlt
                  clear hag
                  have HI := Lw.hid hI
                  have y1 : (BA (45 :: 32 :: T)).size ≤ 30 := by rw [BA_size] at zI ⊢; simp only [List.length_cons]; omega
                  have y2 := zS
                  clear hI
                  go_wp2_with fail
                  exact hK _ _ HI.out (Kept.refl _ _) (congrArg Value.string (BA_append _ _))
                refine lsteps_cons (fun a' w' hI hag hlt hf K hK => ?_) ?_
                · obtain ⟨⟨_, h10, rfl⟩, -⟩ : SFacts _ _ a' w' [10, 8, 0, 1, 2, 3, 4, 5, 6, 7, 9] := hf
                  clear hlt
                  clear hag
                  have HI := Lw.hid hI
                  clear hI
                  go_wp2_with fail
                  exact hK _ _ HI.out (Kept.refl _ _) rfl
                exact trivial
              · intro vs w9 hI hvs
                have q0 : vs 0 = (.string (BA S)) := hvs 0 _ _ rfl rfl
                have q1 : vs 1 = (.int .u8 1) := hvs 1 _ _ rfl rfl
                have q2 : vs 2 = (.int .u8 1) := hvs 2 _ _ rfl rfl
                have q3 : vs 3 = (.int .u8 2) := hvs 3 _ _ rfl rfl
                have q4 : vs 4 = (.string (BA [45])) := hvs 4 _ _ rfl rfl
                have q5 : vs 5 = (.string (BA [45, 32])) := hvs 5 _ _ rfl rfl
                have q6 : vs 6 = (.int .i16 z) := hvs 6 _ _ rfl rfl
                have q7 : vs 7 = (.int .i64 z) := hvs 7 _ _ rfl rfl
                have q8 : vs 8 = (.string (BA T)) := hvs 8 _ _ rfl rfl
                have q9 : vs 9 = (.string (BA (45 :: 32 :: T))) := hvs 9 _ _ rfl rfl
                have q10 : vs 10 = (.string (BA (S ++ (45 :: 32 :: T)))) := hvs 10 _ _ rfl rfl
                have q11 : vs 11 = (.string (BA (S ++ (45 :: 32 :: T)))) := hvs 11 _ _ rfl rfl
                clear hvs
                simp only [List.take_succ_cons, List.take_zero, List.drop_succ_cons, List.drop_zero, putAll, Act.put, List.setIfInBounds_toArray, List.set_cons_zero, List.set_cons_succ, Nat.reduceAdd, q0, q1, q2, q3, q4, q5, q6, q7, q8, q9, q10, q11]
                clear q0 q1 q2 q3 q4 q5 q6 q7 q8 q9 q10 q11
                have KW9 := Lw.hid (HKW.out.trans hI (fun _ _ h => h))
                clear hI
                go_wp2_with fail
                go_roundg (y - (k + 1))
                case measure => omega
                case rel =>
                  refine ⟨k + 1, rfl, hlt, by go_num, ?_, ?_, ?_, KW9.out⟩
                  · rw [HS1.out]; rfl
                  · rw [hHF.out]; exact congrArg (fun v => Value.int .i64 v) (by first | rfl | (simp only [stepL]; exact (IntWalk.i64_left _).symm) | simp [stepL, IntWalk.i64_left])
                  · rw [hHF.out]; exact congrArg (fun v => Value.int .i64 v) (by first | rfl | (simp only [stepL]; exact (IntWalk.i64_left _).symm) | simp [stepL, IntWalk.i64_left])
            · have hrm : (bq.toNat : Int) % 3 = 2 := by omega
              clear hc hb256
              go_wp2_with fail
              refine wp_region_late 12 [stV (.string (BA S)), stV (.int .u8 2), stV (.int .u8 2), stV (.int .u8 3), stV (.string (BA [42])), stV (.string (BA [42, 32])), stV (.int .i16 z), stV (.int .i64 z), stV (.string (BA T)), stV (.string (BA (42 :: 32 :: T))), stV (.string (BA (S ++ (42 :: 32 :: T)))), stV (.string (BA (S ++ (42 :: 32 :: T))))] (by kernel_rfl) (by kernel_rfl) ?_ ?_
              · -- each operation by itself
                refine lsteps_cons (fun a' w' hI hag hlt hf K hK => ?_) ?_
                · have s4 := hlt 11 _ 4 rfl rfl (by kernel_rfl)
                  clear hlt
                  clear hag
                  have HI := Lw.hid hI
                  clear hI
                  go_wp2_with fail
                  exact hK _ _ HI.out (Kept.refl _ _) rfl
                refine lsteps_cons (fun a' w' hI hag hlt hf K hK => ?_) ?_
                · have s9 := hag.same 9 (by decide)
                  clear hlt
                  clear hag
                  have HI := Lw.hid hI
                  clear hI
                  go_wp2_with fail
                  exact hK _ _ HI.out (Kept.refl _ _) rfl
                refine lsteps_cons (fun a' w' hI hag hlt hf K hK => ?_) ?_
                · have s9 := hag.same 9 (by decide)
                  clear hlt
                  clear hag
                  have HI := Lw.hid hI
                  clear hI
                  go_wp2_with fail
                  exact hK _ _ HI.out (Kept.refl _ _) rfl
                refine lsteps_cons (fun a' w' hI hag hlt hf K hK => ?_) ?_
                · obtain ⟨⟨_, h2, rfl⟩, -⟩ : SFacts _ _ a' w' [2] := hf
                  clear hlt
                  clear hag
                  have HI := Lw.hid hI
                  clear hI
                  go_wp2_with fail
                  exact hK _ _ HI.out (Kept.refl _ _) rfl
                refine lsteps_cons (fun a' w' hI hag hlt hf K hK => ?_) ?_
                · obtain ⟨⟨_, h1, rfl⟩, ⟨_, h3, rfl⟩, -⟩ : SFacts _ _ a' w' [1, 3] := hf
                  clear hlt
                  clear hag
                  have HI := Lw.hid hI
                  clear hI
                  go_wp2_with fail
                  exact hK _ _ HI.out (Kept.refl _ _) rfl
                refine lsteps_cons (fun a' w' hI hag hlt hf K hK => ?_) ?_
                · obtain ⟨⟨_, h4, rfl⟩, -⟩ : SFacts _ _ a' w' [4] := hf
                  clear hlt
                  clear hag
                  have HI := Lw.hid hI
                  clear hI
                  go_wp2_with fail
                  exact hK _ _ HI.out (Kept.refl _ _) rfl
                refine lsteps_cons (fun a' w' hI hag hlt hf K hK => ?_) ?_
                · have s8 := hag.same 8 (by decide)
                  clear hlt
                  clear hag
                  have HI := Lw.hid hI
                  clear hI
                  go_wp2_with fail
                  exact hK _ _ HI.out (Kept.refl _ _) rfl
                refine lsteps_cons (fun a' w' hI hag hlt hf K hK => ?_) ?_
                · obtain ⟨⟨_, h6, rfl⟩, -⟩ : SFacts _ _ a' w' [6] := hf
                  clear hlt
                  clear hag
                  have HI := Lw.hid hI
                  clear hI
                  go_wp2_with fail
                  exact hK _ _ HI.out (Kept.refl _ _) rfl
                refine lsteps_cons (fun a' w' hI hag hlt hf K hK => ?_) ?_
                · obtain ⟨⟨_, h7, rfl⟩, -⟩ : SFacts _ _ a' w' [7] := hf
                  clear hlt
                  clear hag
                  have HI := Lw.hid hI
                  clear hI
                  go_wp2_with fail
                  refine (HIT.out w' (KW.out.trans HI.out (fun _ _ h => h))).mono ?_
                  rintro x w9 ⟨rfl, k9⟩
                  have K9 := Lw.hid k9
                  clear k9
                  go_wp2_with fail
                  exact hK _ _ (HI.out.trans K9.out (fun _ _ h => h)) K9.out rfl
                refine lsteps_cons (fun a' w' hI hag hlt hf K hK => ?_) ?_
                · obtain ⟨⟨_, h5, rfl⟩, ⟨_, h8, rfl⟩, -⟩ : SFacts _ _ a' w' [5, 8] := hf
                  clear hlt
                  clear hag
                  have HI := Lw.hid hI
                  have y1 : (BA [42, 32]).size = 2 := BA_size _
                  clear hI
                  go_wp2_with fail
                  exact hK _ _ HI.out (Kept.refl _ _) (congrArg Value.string (BA_append _ _))
                refine lsteps_cons (fun a' w' hI hag hlt hf K hK => ?_) ?_
                · obtain ⟨⟨_, h0, rfl⟩, ⟨_, h9, rfl⟩, -⟩ : SFacts _ _ a' w' [0, 9] := hf
                  clear hlt
                  clear hag
                  have HI := Lw.hid hI
                  have y1 : (BA (42 :: 32 :: T)).size ≤ 30 := by rw [BA_size] at zI ⊢; simp only [List.length_cons]; omega
                  have y2 := zS
                  clear hI
                  go_wp2_with fail
                  exact hK _ _ HI.out (Kept.refl _ _) (congrArg Value.string (BA_append _ _))
                refine lsteps_cons (fun a' w' hI hag hlt hf K hK => ?_) ?_
                · obtain ⟨⟨_, h10, rfl⟩, -⟩ : SFacts _ _ a' w' [10, 8, 0, 1, 2, 3, 4, 5, 6, 7, 9] := hf
                  clear hlt
                  clear hag
                  have HI := Lw.hid hI
                  clear hI
                  go_wp2_with fail
                  exact hK _ _ HI.out (Kept.refl _ _) rfl
                exact trivial
              · intro vs w9 hI hvs
                have q0 : vs 0 = (.string (BA S)) := hvs 0 _ _ rfl rfl
                have q1 : vs 1 = (.int .u8 2) := hvs 1 _ _ rfl rfl
                have q2 : vs 2 = (.int .u8 2) := hvs 2 _ _ rfl rfl
                have q3 : vs 3 = (.int .u8 3) := hvs 3 _ _ rfl rfl
                have q4 : vs 4 = (.string (BA [42])) := hvs 4 _ _ rfl rfl
                have q5 : vs 5 = (.string (BA [42, 32])) := hvs 5 _ _ rfl rfl
                have q6 : vs 6 = (.int .i16 z) := hvs 6 _ _ rfl rfl
                have q7 : vs 7 = (.int .i64 z) := hvs 7 _ _ rfl rfl
                have q8 : vs 8 = (.string (BA T)) := hvs 8 _ _ rfl rfl
                have q9 : vs 9 = (.string (BA (42 :: 32 :: T))) := hvs 9 _ _ rfl rfl
                have q10 : vs 10 = (.string (BA (S ++ (42 :: 32 :: T)))) := hvs 10 _ _ rfl rfl
                have q11 : vs 11 = (.string (BA (S ++ (42 :: 32 :: T)))) := hvs 11 _ _ rfl rfl
                clear hvs
                simp only [List.take_succ_cons, List.take_zero, List.drop_succ_cons, List.drop_zero, putAll, Act.put, List.setIfInBounds_toArray, List.set_cons_zero, List.set_cons_succ, Nat.reduceAdd, q0, q1, q2, q3, q4, q5, q6, q7, q8, q9, q10, q11]
                clear q0 q1 q2 q3 q4 q5 q6 q7 q8 q9 q10 q11
                have KW9 := Lw.hid (HKW.out.trans hI (fun _ _ h => h))
                clear hI
                go_wp2_with fail
                go_roundg (y - (k + 1))
                case measure => omega
                case rel =>
                  refine ⟨k + 1, rfl, hlt, by go_num, ?_, ?_, ?_, KW9.out⟩
                  · rw [HS1.out]; rfl
                  · rw [hHF.out]; exact congrArg (fun v => Value.int .i64 v) (by first | rfl | (simp only [stepL]; exact (IntWalk.i64_left _).symm) | simp [stepL, IntWalk.i64_left])
                  · rw [hHF.out]; exact congrArg (fun v => Value.int .i64 v) (by first | rfl | (simp only [stepL]; exact (IntWalk.i64_left _).symm) | simp [stepL, IntWalk.i64_left])
          · rw [if_neg hkm] at hc
            subst hc
            go_wp2_with fail
            refine wp_region_late 12 [stV (.string (BA S)), stV (.int .u8 0), stV (.int .u8 0), stV (.int .u8 1), stV (.string (BA [43])), stV (.string (BA [43, 32])), stV (.int .i16 z), stV (.int .i64 z), stV (.string (BA T)), stV (.string (BA (43 :: 32 :: T))), stV (.string (BA (S ++ (43 :: 32 :: T)))), stV (.string (BA (S ++ (43 :: 32 :: T))))] (by kernel_rfl) (by kernel_rfl) ?_ ?_
            · -- each operation by itself
              refine lsteps_cons (fun a' w' hI hag hlt hf K hK => ?_) ?_
              · have s4 := hlt 11 _ 4 rfl rfl (by kernel_rfl)
                clear hlt
                clear hag
                have HI := Lw.hid hI
                clear hI
                go_wp2_with fail
                exact hK _ _ HI.out (Kept.refl _ _) rfl
              refine lsteps_cons (fun a' w' hI hag hlt hf K hK => ?_) ?_
              · have s9 := hag.same 9 (by decide)
                clear hlt
                clear hag
                have HI := Lw.hid hI
                clear hI
                go_wp2_with fail
                exact hK _ _ HI.out (Kept.refl _ _) rfl
              refine lsteps_cons (fun a' w' hI hag hlt hf K hK => ?_) ?_
              · have s9 := hag.same 9 (by decide)
                clear hlt
                clear hag
                have HI := Lw.hid hI
                clear hI
                go_wp2_with fail
                exact hK _ _ HI.out (Kept.refl _ _) rfl
              refine lsteps_cons (fun a' w' hI hag hlt hf K hK => ?_) ?_
              · obtain ⟨⟨_, h2, rfl⟩, -⟩ : SFacts _ _ a' w' [2] := hf
                clear hlt
                clear hag
                have HI := Lw.hid hI
                clear hI
                go_wp2_with fail
                exact hK _ _ HI.out (Kept.refl _ _) rfl
              refine lsteps_cons (fun a' w' hI hag hlt hf K hK => ?_) ?_
              · obtain ⟨⟨_, h1, rfl⟩, ⟨_, h3, rfl⟩, -⟩ : SFacts _ _ a' w' [1, 3] := hf
                clear hlt
                clear hag
                have HI := Lw.hid hI
                clear hI
                go_wp2_with fail
                exact hK _ _ HI.out (Kept.refl _ _) rfl
              refine lsteps_cons (fun a' w' hI hag hlt hf K hK => ?_) ?_
              · obtain ⟨⟨_, h4, rfl⟩, -⟩ : SFacts _ _ a' w' [4] := hf
                clear hlt
                clear hag
                have HI := Lw.hid hI
                clear hI
                go_wp2_with fail
                exact hK _ _ HI.out (Kept.refl _ _) rfl
              refine lsteps_cons (fun a' w' hI hag hlt hf K hK => ?_) ?_
              · have s8 := hag.same 8 (by decide)
                clear hlt
                clear hag
                have HI := Lw.hid hI
                clear hI
                go_wp2_with fail
                exact hK _ _ HI.out (Kept.refl _ _) rfl
              refine lsteps_cons (fun a' w' hI hag hlt hf K hK => ?_) ?_
              · obtain ⟨⟨_, h6, rfl⟩, -⟩ : SFacts _ _ a' w' [6] := hf
                clear hlt
                clear hag
                have HI := Lw.hid hI
                clear hI
                go_wp2_with fail
                exact hK _ _ HI.out (Kept.refl _ _) rfl
              refine lsteps_cons (fun a' w' hI hag hlt hf K hK => ?_) ?_
              · obtain ⟨⟨_, h7, rfl⟩, -⟩ : SFacts _ _ a' w' [7] := hf
                clear hlt
                clear hag
                have HI := Lw.hid hI
                clear hI
                go_wp2_with fail
                refine (HIT.out w' (KW.out.trans HI.out (fun _ _ h => h))).mono ?_
                rintro x w9 ⟨rfl, k9⟩
                have K9 := Lw.hid k9
                clear k9
                go_wp2_with fail
                exact hK _ _ (HI.out.trans K9.out (fun _ _ h => h)) K9.out rfl
              refine lsteps_cons (fun a' w' hI hag hlt hf K hK => ?_) ?_
              · obtain ⟨⟨_, h5, rfl⟩, ⟨_, h8, rfl⟩, -⟩ : SFacts _ _ a' w' [5, 8] := hf
                clear hlt
                clear hag
                have HI := Lw.hid hI
                have y1 : (BA [43, 32]).size = 2 := BA_size _
                clear hI
                go_wp2_with fail
                exact hK _ _ HI.out (Kept.refl _ _) (congrArg Value.string (BA_append _ _))
              refine lsteps_cons (fun a' w' hI hag hlt hf K hK => ?_) ?_
              · obtain ⟨⟨_, h0, rfl⟩, ⟨_, h9, rfl⟩, -⟩ : SFacts _ _ a' w' [0, 9] := hf
                clear hlt
                clear hag
                have HI := Lw.hid hI
                have y1 : (BA (43 :: 32 :: T)).size ≤ 30 := by rw [BA_size] at zI ⊢; simp only [List.length_cons]; omega
                have y2 := zS
                clear hI
                go_wp2_with fail
                exact hK _ _ HI.out (Kept.refl _ _) (congrArg Value.string (BA_append _ _))
              refine lsteps_cons (fun a' w' hI hag hlt hf K hK => ?_) ?_
              · obtain ⟨⟨_, h10, rfl⟩, -⟩ : SFacts _ _ a' w' [10, 8, 0, 1, 2, 3, 4, 5, 6, 7, 9] := hf
                clear hlt
                clear hag
                have HI := Lw.hid hI
                clear hI
                go_wp2_with fail
                exact hK _ _ HI.out (Kept.refl _ _) rfl
              exact trivial
            · intro vs w9 hI hvs
              have q0 : vs 0 = (.string (BA S)) := hvs 0 _ _ rfl rfl
              have q1 : vs 1 = (.int .u8 0) := hvs 1 _ _ rfl rfl
              have q2 : vs 2 = (.int .u8 0) := hvs 2 _ _ rfl rfl
              have q3 : vs 3 = (.int .u8 1) := hvs 3 _ _ rfl rfl
              have q4 : vs 4 = (.string (BA [43])) := hvs 4 _ _ rfl rfl
              have q5 : vs 5 = (.string (BA [43, 32])) := hvs 5 _ _ rfl rfl
              have q6 : vs 6 = (.int .i16 z) := hvs 6 _ _ rfl rfl
              have q7 : vs 7 = (.int .i64 z) := hvs 7 _ _ rfl rfl
              have q8 : vs 8 = (.string (BA T)) := hvs 8 _ _ rfl rfl
              have q9 : vs 9 = (.string (BA (43 :: 32 :: T))) := hvs 9 _ _ rfl rfl
              have q10 : vs 10 = (.string (BA (S ++ (43 :: 32 :: T)))) := hvs 10 _ _ rfl rfl
              have q11 : vs 11 = (.string (BA (S ++ (43 :: 32 :: T)))) := hvs 11 _ _ rfl rfl
              clear hvs
              simp only [List.take_succ_cons, List.take_zero, List.drop_succ_cons, List.drop_zero, putAll, Act.put, List.setIfInBounds_toArray, List.set_cons_zero, List.set_cons_succ, Nat.reduceAdd, q0, q1, q2, q3, q4, q5, q6, q7, q8, q9, q10, q11]
              clear q0 q1 q2 q3 q4 q5 q6 q7 q8 q9 q10 q11
              have KW9 := Lw.hid (HKW.out.trans hI (fun _ _ h => h))
              clear hI
              go_wp2_with fail
              go_roundg (y - (k + 1))
              case measure => omega
              case rel =>
                refine ⟨k + 1, rfl, hlt, by go_num, ?_, ?_, ?_, KW9.out⟩
                · rw [HS1.out]; rfl
                · rw [hHF.out]; exact congrArg (fun v => Value.int .i64 v) (by first | rfl | (simp only [stepL]; exact (IntWalk.i64_left _).symm) | simp [stepL, IntWalk.i64_left])
                · rw [hHF.out]; exact congrArg (fun v => Value.int .i64 v) (by first | rfl | (simp only [stepL]; exact (IntWalk.i64_left _).symm) | simp [stepL, IntWalk.i64_left])
        · have hky : k = y := by omega
          have HTK : Hid (L.take k = L) := Lw.hid (List.take_of_length_le (by rw [HLL.out, hky]; exact Nat.le_refl _))
          rw [HTK.out]
          have HLW := Lw.hid (lawE_any B wr (Lib.itoa z0 ++ tlC L) none dv envN (HE.out wr KW.out).d (by
            have h1 := tlC_len L HLO.out; have h2 := itoa_len z0 hzl hzh; have h3 := HLL.out
            rw [List.length_append]; omega) (fun _ => Nat.zero_le _) (look_nil wr))
          rw [chain_law envN z0 L hzl hzh HLO.out] at HLW
          obtain ⟨q5, hq5⟩ : ∃ q, (L.foldl stepL (0, z0)).1 = q := ⟨_, rfl⟩
          obtain ⟨q6, hq6⟩ : ∃ q, (L.foldl stepL (0, z0)).2 = q := ⟨_, rfl⟩
          rw [hq5, hq6] at HLW ⊢
          have eW : W64 (q5 + q6) = wrap64 (q5 + q6) := IntWalk.i64_left _
          rw [eW] at HLW
          have hlt2 : decide ((k : Int) < ((y : Nat) : Int)) = false := decide_eq_false (by omega)
          clear hq5 hq6 eW HLA
          go_wp2_with fail
          refine HLW.out.mono ?_
          rintro x w2 ⟨⟨sl, rfl, -⟩, k2⟩
          have K2 := Lw.hid (KW.out.trans k2 (fun _ _ h => h))
          clear k2
          go_wp2_with fail
          refine (wakes_any B w2 dv (HE.out w2 K2.out).d).mono ?_
          rintro x w3 ⟨rfl, k3⟩
          have K3 := Lw.hid (K2.out.trans k3 (fun _ _ h => h))
          clear k3
          go_wp2_with fail
          go_ret
          exact ⟨rfl, K3.out⟩
theorem chains_below (B : Nat) (dv : Value) (w : World) (hE : CEnv B dv w) (c0 c1 : Value) (nums : List Int) (sgs : List UInt8) (hR : Rd w 1 c0 nums.length (nums.map fun z => .int .i16 z)) (hrg : ∀ z ∈ nums, -32768 ≤ z ∧ z ≤ 32767) (hS : RdB w c1 sgs) :
    Calls Tryd.prog 3 #[.agg #[c0, c1]] w fun x w' => x = .returned (.bool true) ∧ Below w.heap.size w w' := (chains_any B dv w hE c0 c1 nums sgs hR hrg hS).mono fun _ _ ⟨e, k⟩ => ⟨e, Below.of_kept k⟩
end Go.Proofs.YtoedopgjonhemaaDoor
