/- Of the proof of TopBooks: SlEq, RC, TA. -/
import Derived.Test.YtgegjjnfcnalfaaGreatDoorChecked
import Derived.Test.YtgegjjnfcnalfaaGreatDoorG00
import Derived.Laws.BitsAllLaws
import Derived.Deep.QuietTactic
import Derived.BigQuiet
import Derived.Test.YtgegjjnfcnalfaaGreatDoorG35
import Derived.Test.YtgegjjnfcnalfaaGreatDoorG19
import Derived.Test.YtgegjjnfcnalfaaGreatDoorG20
import Derived.Test.YtgegjjnfcnalfaaGreatDoorG31
import Derived.Laws.StructEq
import Derived.Test.YtgegjjnfcnalfaaGreatDoorG34
import Derived.Test.YtgegjjnfcnalfaaGreatDoorG33
namespace Go.Proofs.YtgegjjnfcnalfaaGreatDoor
open Go Go.RowKit Go.Lw
set_option maxRecDepth 100000
theorem kept_drewN (w : World) (n : Nat) : Kept (fun _ => False) w (w.drewN n) := ⟨rfl, rfl, rfl, Nat.le_refl _, fun _ _ _ => rfl⟩
theorem rdb_opened {w : World} {v : Value} {l : List UInt8} (h : RdB w v l) : ∃ a cap, v = .slice a l.length cap ∧ l.length ≤ cap ∧ cap ≤ maxLen ∧
    ∀ j c, l[j]? = some c → ∃ g off, a = some ⟨g, off, Option.none⟩ ∧ w.cell? ⟨g, off + j, Option.none⟩ = some (.int .u8 (c.toNat : Int)) := by
  obtain ⟨_, a, cap, rfl, h1, h2, h3⟩ := h
  exact ⟨a, cap, rfl, h1, h2, fun j c hj => h3 j _ (by rw [List.getElem?_map, hj]; rfl)⟩
theorem at_lt {l : List UInt8} {k : Nat} (h : k < l.length) : ∃ c, l[k]? = some c := ⟨_, List.getElem?_eq_getElem h⟩
theorem take_at {l : List UInt8} {k : Nat} {c : UInt8} (h : l[k]? = some c) : l.take (k + 1) = l.take k ++ [c] := by
  have hl : k < l.length := by
    rcases Nat.lt_or_ge k l.length with h' | h'
    · exact h'
    · rw [List.getElem?_eq_none h'] at h; cases h
  rw [take_snoc l k hl]
  rw [List.getElem?_eq_getElem hl] at h
  rw [Option.some.inj h]
set_option maxHeartbeats 1000000 in
theorem sleq_any (w : World) (x y : Value) (l m : List UInt8) (hx : RdB w x l) (hy : RdB w y m) (b : Bool) (hb : (l == m) = b) :
    Calls Tryz.prog 96 #[x, y] w fun e w' => e = .returned (.bool b) ∧ Kept (fun _ => False) w w' := by
  have HB : Hid ((l == m) = b) := Lw.hid hb
  clear hb
  obtain ⟨ad, cap, rfl, h1, h2, hc⟩ := rdb_opened hx
  obtain ⟨ad', cap', rfl, h1', h2', hc'⟩ := rdb_opened hy
  unfold maxLen at h2 h2'
  have HC := Lw.hid hc; have HC' := Lw.hid hc'
  clear hx hy hc hc'
  have HL : Hid (l.length = l.length) := Lw.hid rfl
  have HM : Hid (m.length = m.length) := Lw.hid rfl
  obtain ⟨L, hL⟩ : ∃ L, l.length = L := ⟨_, rfl⟩
  obtain ⟨M, hM⟩ : ∃ M, m.length = M := ⟨_, rfl⟩
  rw [hL] at h1 ⊢
  rw [hM] at h1' ⊢
  replace HL : Hid (l.length = L) := Lw.hid hL
  replace HM : Hid (m.length = M) := Lw.hid hM
  clear hL hM
  by_cases hne : L = M
  · subst hne
    go_enter Tryz.func96, Tryz.ntmps96
    go_wp2_with fail
    go_loopw [13] (fun i wr => ∃ k : Nat, k ≤ L ∧ i = .int .i64 (k : Int) ∧ l.take k = m.take k ∧ ∃ n, wr = w.drewN n) (fun i _ => L - (intOf i).toNat)
    case atStart => exact ⟨0, Nat.zero_le _, rfl, rfl, 0, rfl⟩
    case round =>
      obtain ⟨k, hk, rfl, he, n, rfl⟩ := hrel
      have HE := Lw.hid he
      clear he
      by_cases hlt : k < L
      · obtain ⟨c, hlc⟩ := at_lt (l := l) (k := k) (by rw [HL.out]; exact hlt)
        obtain ⟨d, hmd⟩ := at_lt (l := m) (k := k) (by rw [HM.out]; exact hlt)
        obtain ⟨g, off, rfl, c1⟩ := HC.out k c hlc
        obtain ⟨g', off', rfl, c2⟩ := HC'.out k d hmd
        have i0 : (0 : Int) ≤ (k : Int) := by omega
        have i1 : (k : Int) < (L : Int) := by omega
        have HLC := Lw.hid hlc; have HMD := Lw.hid hmd
        clear hlc hmd
        by_cases hbb : c = d
        · subst hbb
          go_wp2_with fail
          go_quiet (fail)
          go_wp2_with fail
          go_roundw
          case rel => exact ⟨k + 1, by omega, by go_num, by rw [take_at HLC.out, take_at HMD.out, HE.out], _, rfl⟩
          case measure => simp [intOf]; omega
        · have hnb : ((c.toNat : Int) != (d.toNat : Int)) = true := by
            rw [bne_iff_ne]
            intro e
            exact hbb (UInt8.toNat_inj.1 (by omega))
          have HNB : Hid (l ≠ m) := Lw.hid (fun e => hbb (by have h1 := HLC.out; have h2 := HMD.out; rw [e, h2] at h1; exact (Option.some.inj h1).symm))
          clear hbb
          go_wp2_with fail
          go_quiet (fail)
          go_wp2_with fail
          go_ret
          exact ⟨by rw [← HB.out, beq_eq_false_iff_ne.2 HNB.out]; rfl, (kept_drewN w n).trans (kept_drewN _ nq) (fun _ _ h => h)⟩
      · obtain rfl : k = L := by omega
        go_wp2_with fail
        go_ret
        have e : l = m := by
          have := HE.out
          rwa [List.take_of_length_le (by rw [HL.out]; exact Nat.le_refl _), List.take_of_length_le (by rw [HM.out]; exact Nat.le_refl _)] at this
        exact ⟨by rw [← HB.out, e]; simp, kept_drewN _ _⟩
  · have hbeq : ((L : Int) != (M : Int)) = true := by rw [bne_iff_ne]; omega
    have HNE : Hid (l ≠ m) := Lw.hid (fun e => hne (by rw [← HL.out, ← HM.out, e]))
    clear hne
    go_enter Tryz.func96, Tryz.ntmps96
    go_wp2_with fail
    go_ret
    exact ⟨by rw [← HB.out, beq_eq_false_iff_ne.2 HNE.out]; rfl, Kept.refl _ _⟩
end Go.Proofs.YtgegjjnfcnalfaaGreatDoor
namespace Go.Proofs.YtgegjjnfcnalfaaGreatDoor
open Go Go.RowKit Go.Lw
set_option maxRecDepth 100000
set_option linter.unusedVariables false
set_option linter.unusedSimpArgs false
attribute [local go_sem] BA_toList
def cutC (cs : List Cmd) : List Cmd := match cs.getLast? with
  | some c => if c.over then cs else modLast (fun c => { c with status := 125, over := true, cut := true }) cs
  | none => cs
theorem cutC_nil : cutC [] = [] := rfl
theorem cutC_over (cs : List Cmd) (c : Cmd) (h : c.over = true) : cutC (cs ++ [c]) = cs ++ [c] := by unfold cutC; simp [h]
theorem cutC_open (cs : List Cmd) (c : Cmd) (h : c.over = false) : cutC (cs ++ [c]) = cs ++ [{ c with status := 125, over := true, cut := true }] := by
  unfold cutC
  simp only [List.getLast?_append, List.getLast?_singleton, Option.some_or, h]
  exact modLast_snoc _ cs c
theorem rowc_cell {w : World} {b n cap : Nat} {cs : List Cmd} {c : Cmd} (h : w.ownsRow 0 54 8 (.slice (some ⟨b, 0, none⟩) (n + 1) cap) (n + 1) ((cs ++ [c]).flatMap Cmd.cells)) (hn : cs.length = n) (i : Nat) (hi : i < 8) :
    w.cell? ⟨b, n * 8 + i, none⟩ = c.cells[i]? ∧ w.frozen? ⟨b, n * 8 + i, none⟩ = false := by
  subst hn
  refine ⟨?_, h.frozenAt _⟩
  rw [h.cellAt _ (by omega), cc_last cs c i hi]
theorem rowc_set {w : World} {b n cap : Nat} {cs : List Cmd} {c : Cmd} (h : w.ownsRow 0 54 8 (.slice (some ⟨b, 0, none⟩) (n + 1) cap) (n + 1) ((cs ++ [c]).flatMap Cmd.cells)) (hn : cs.length = n) (i : Nat) (hi : i < 8) (u : Value) (y : Cmd) (hu : c.cells.set i u = y.cells) :
    (w.setCell ⟨b, n * 8 + i, none⟩ u).ownsRow 0 54 8 (.slice (some ⟨b, 0, none⟩) (n + 1) cap) (n + 1) ((cs ++ [y]).flatMap Cmd.cells) := by
  subst hn
  have hs := (h.stored (cs.length * 8 + i) u).1
  rw [cc_set cs c y i hi u hu] at hs
  exact hs
set_option maxHeartbeats 4000000 in
theorem ccut_any (w : World) (v : Value) (cs : List Cmd) (h : RowC w v cs) (hl : cs.length ≤ 1000) :
    Calls Tryz.prog 19 #[v] w fun e w' => ∃ v', e = .returned v' ∧ RowC w' v' (cutC cs) ∧ (∀ k, blk v' k → w.heap.size ≤ k) ∧ Kept (fun _ => False) w w' := by
  have HCL := Lw.hid (cclone_any w v cs h hl)
  clear h
  rcases List.eq_nil_or_concat cs with rfl | ⟨cs0, c, rfl⟩
  · rw [cutC_nil]
    go_enter Tryz.func19, Tryz.ntmps19
    go_wp2_with fail
    refine HCL.out.mono ?_
    rintro e w1 ⟨v1, rfl, h1, h2, h3⟩
    obtain ⟨ad, cap, rfl, _, hc2, _⟩ := own_slice h1
    have H1 := Lw.hid h1; have H2 := Lw.hid h2; have H3 := Lw.hid h3
    clear h1 h2 h3
    go_wp2_with fail
    go_ret
    exact ⟨_, rfl, by simpa using H1.out, by simpa using H2.out, H3.out⟩
  · rw [List.concat_eq_append] at HCL hl ⊢
    obtain ⟨n, hn⟩ : ∃ n, cs0.length = n := ⟨_, rfl⟩
    have HN := Lw.hid hn
    have hn9 : n ≤ 1000 := by simp at hl; omega
    cases ho : c.over with
    | true =>
      rw [cutC_over cs0 c ho]
      have HO := Lw.hid ho
      clear ho hl
      go_enter Tryz.func19, Tryz.ntmps19
      go_wp2_with fail
      refine HCL.out.mono ?_
      rintro e w1 ⟨v1, rfl, h1, h2, h3⟩
      have h1' := h1
      unfold RowC at h1'
      rw [show (cs0 ++ [c]).length = n + 1 by simp [hn]] at h1'
      obtain ⟨ad, cap, rfl, hc1, hc2, hc3⟩ := own_slice h1'
      obtain ⟨b, rfl⟩ := hc3 (by omega)
      obtain ⟨c6, -⟩ := rowc_cell h1' hn 6 (by decide)
      simp only [Cmd.cells, List.getElem?_cons_zero, List.getElem?_cons_succ, HO.out] at c6
      have H1 := Lw.hid h1; have H2 := Lw.hid h2; have H3 := Lw.hid h3
      have g1 : decide ((0 : Int) ≤ (n : Int)) = true := by simp
      have i0 : (0 : Int) ≤ (n : Int) := by omega
      have i1 : (n : Int) < ((n + 1 : Nat) : Int) := by omega
      unfold maxLen at hc2
      clear h1 h2 h3 h1' hn hc3
      go_wp2_with fail
      go_ret
      exact ⟨_, rfl, by simpa using H1.out, by simpa using H2.out, H3.out⟩
    | false =>
      rw [cutC_open cs0 c ho]
      have HO := Lw.hid ho
      clear ho hl
      go_enter Tryz.func19, Tryz.ntmps19
      go_wp2_with fail
      refine HCL.out.mono ?_
      rintro e w1 ⟨v1, rfl, h1, h2, h3⟩
      have h1' := h1
      unfold RowC at h1'
      rw [show (cs0 ++ [c]).length = n + 1 by simp [hn]] at h1'
      obtain ⟨ad, cap, rfl, hc1, hc2, hc3⟩ := own_slice h1'
      obtain ⟨b, rfl⟩ := hc3 (by omega)
      obtain ⟨c6, f6⟩ := rowc_cell h1' hn 6 (by decide)
      have q1 := rowc_set h1' hn 6 (by decide) (.bool true) { c with over := true } rfl
      obtain ⟨c7, f7⟩ := rowc_cell q1 hn 7 (by decide)
      have q2 := rowc_set q1 hn 7 (by decide) (.bool true) { c with over := true, cut := true } rfl
      obtain ⟨c5, f5⟩ := rowc_cell q2 hn 5 (by decide)
      have q3 := rowc_set q2 hn 5 (by decide) (.int .i64 125) { c with status := 125, over := true, cut := true } rfl
      simp only [Cmd.cells, List.getElem?_cons_zero, List.getElem?_cons_succ, HO.out] at c6 c7 c5
      have Q3 := Lw.hid q3; have H2 := Lw.hid h2; have H3 := Lw.hid h3
      have hbl : w.heap.size ≤ b := h2 b rfl
      have g1 : decide ((0 : Int) ≤ (n : Int)) = true := by simp
      have i0 : (0 : Int) ≤ (n : Int) := by omega
      have i1 : (n : Int) < ((n + 1 : Nat) : Int) := by omega
      unfold maxLen at hc2
      clear h1 h2 h3 h1' hn hc3 q1 q2 q3
      go_wp2_with fail
      go_ret
      refine ⟨.slice (some ⟨b, 0, none⟩) (n + 1) cap, by simp, ?_, fun k hk => by rw [blk_some hk]; exact hbl, ?_⟩
      · unfold RowC
        rw [show (cs0 ++ [({ c with status := 125, over := true, cut := true } : Cmd)]).length = n + 1 by simp [HN.out]]
        exact Q3.out
      · exact H3.out.trans ((((Kept.refl (fun k => k = b) w1).set b (n * 8 + 6) (fun _ => rfl) (.bool true)).set b (n * 8 + 7) (fun _ => rfl) (.bool true)).set b (n * 8 + 5) (fun _ => rfl) (.int .i64 125)) (fun i hi e => by omega)
set_option maxHeartbeats 8000000 in
theorem ceq_any (w : World) (v1 v2 : Value) (cs : List Cmd) (h1 : RowC w v1 cs) (h2 : RowC w v2 cs) (hl : cs.length ≤ 1000) :
    Calls Tryz.prog 20 #[v1, v2] w fun e w' => e = .returned (.bool true) ∧ Kept (fun _ => False) w w' := by
  obtain ⟨n, hn⟩ : ∃ n, cs.length = n := ⟨_, rfl⟩
  unfold RowC at h1 h2
  rw [hn] at h1 h2 hl
  obtain ⟨a1, k1, rfl, p1, p2, p3⟩ := own_slice h1
  obtain ⟨a2, k2, rfl, s1, s2, s3⟩ := own_slice h2
  have H1 := Lw.hid h1; have H2 := Lw.hid h2; have P3 := Lw.hid p3; have S3 := Lw.hid s3; have HN := Lw.hid hn
  unfold maxLen at p2 s2
  clear h1 h2 p3 s3 hn
  go_enter Tryz.func20, Tryz.ntmps20
  go_wp2_with fail
  go_loopw [13] (fun i wr => ∃ k : Nat, k ≤ n ∧ i = .int .i64 (k : Int) ∧ Kept (fun _ => False) w wr) (fun i _ => n - (intOf i).toNat)
  case atStart => exact ⟨0, Nat.zero_le _, rfl, Kept.refl _ _⟩
  case round =>
    obtain ⟨k, hk, rfl, hkr⟩ := hrel
    have KR := Lw.hid hkr
    clear hkr
    by_cases hlt : k < n
    · obtain ⟨g1, rfl⟩ := P3.out (by omega)
      obtain ⟨g2, rfl⟩ := S3.out (by omega)
      have hkc : k < cs.length := by rw [HN.out]; exact hlt
      obtain ⟨c, hc⟩ : ∃ c, cs[k] = c := ⟨_, rfl⟩
      have q : ∀ i, i < 8 → wr.cell? ⟨g1, k * 8 + i, none⟩ = c.cells[i]? := fun i hi => by
        rw [(own_kept KR.out H1.out (fun _ _ h => h)).cellAt _ (by omega), cc_get cs k hkc i hi, hc]
      have u : ∀ i, i < 8 → wr.cell? ⟨g2, k * 8 + i, none⟩ = c.cells[i]? := fun i hi => by
        rw [(own_kept KR.out H2.out (fun _ _ h => h)).cellAt _ (by omega), cc_get cs k hkc i hi, hc]
      have q0 := q 0 (by decide); have q1 := q 1 (by decide); have q2 := q 2 (by decide); have q3 := q 3 (by decide); have q4 := q 4 (by decide); have q5 := q 5 (by decide); have q6 := q 6 (by decide); have q7 := q 7 (by decide)
      have u0 := u 0 (by decide); have u1 := u 1 (by decide); have u2 := u 2 (by decide); have u3 := u 3 (by decide); have u4 := u 4 (by decide); have u5 := u 5 (by decide); have u6 := u 6 (by decide); have u7 := u 7 (by decide)
      simp only [Cmd.cells, List.getElem?_cons_zero, List.getElem?_cons_succ, Nat.add_zero] at q0 q1 q2 q3 q4 q5 q6 q7 u0 u1 u2 u3 u4 u5 u6 u7
      have i0 : (0 : Int) ≤ (k : Int) := by omega
      have i1 : (k : Int) < (n : Int) := by omega
      clear q u hc
      go_wp2_with fail
      refine wp_region_tail 9 [stV (.slice (some ⟨g1, 0, none⟩) n k1), stV (.int .i64 (k : Int)), stV (.pointer (some ⟨g1, k * 8, none⟩)), stV (.agg #[.int .u32 (c.id : Int), .string (BA c.text), .string (BA c.out), .string (BA c.err), .int .i64 c.sig, .int .i64 c.status, .bool c.over, .bool c.cut]), stV (.slice (some ⟨g2, 0, none⟩) n k2), stV (.int .i64 (k : Int)), stV (.pointer (some ⟨g2, k * 8, none⟩)), stV (.agg #[.int .u32 (c.id : Int), .string (BA c.text), .string (BA c.out), .string (BA c.err), .int .i64 c.sig, .int .i64 c.status, .bool c.over, .bool c.cut]), stV (.bool false)] (by kernel_rfl) (by kernel_rfl) ?_ ?_
      · iterate 9
          refine ssteps_cons (fun a' w' hI hag hf K hK => ?_) ?_
          · obtain ⟨⟨_, h0, rfl⟩, ⟨_, h1, rfl⟩, -⟩ := hf
            have s0 := hag.same 0 (by decide)
            have s1 := hag.same 1 (by decide)
            have s5 := hag.same 5 (by decide)
            clear hag
            have q0' := hI.cell q0 (fun h => h)
            have q1' := hI.cell q1 (fun h => h)
            have q2' := hI.cell q2 (fun h => h)
            have q3' := hI.cell q3 (fun h => h)
            have q4' := hI.cell q4 (fun h => h)
            have q5' := hI.cell q5 (fun h => h)
            have q6' := hI.cell q6 (fun h => h)
            have q7' := hI.cell q7 (fun h => h)
            have u0' := hI.cell u0 (fun h => h)
            have u1' := hI.cell u1 (fun h => h)
            have u2' := hI.cell u2 (fun h => h)
            have u3' := hI.cell u3 (fun h => h)
            have u4' := hI.cell u4 (fun h => h)
            have u5' := hI.cell u5 (fun h => h)
            have u6' := hI.cell u6 (fun h => h)
            have u7' := hI.cell u7 (fun h => h)
            go_wp2_with fail
            exact hK _ _ hI (Kept.refl _ _) rfl
        exact trivial
      · intro vs wz hI hvs
        simp only [pzz, putAll, Act.put, Nat.reduceAdd, spv (hvs 0 _ _ rfl rfl) rfl, spv (hvs 1 _ _ rfl rfl) rfl, spv (hvs 2 _ _ rfl rfl) rfl, spv (hvs 3 _ _ rfl rfl) rfl, spv (hvs 4 _ _ rfl rfl) rfl, spv (hvs 5 _ _ rfl rfl) rfl, spv (hvs 6 _ _ rfl rfl) rfl, spv (hvs 7 _ _ rfl rfl) rfl, spv (hvs 8 _ _ rfl rfl) rfl]
        clear hvs
        have KZ := Lw.hid (KR.out.trans hI (fun _ _ h => h))
        clear hI q0 q1 q2 q3 q4 q5 q6 q7 u0 u1 u2 u3 u4 u5 u6 u7
        go_wp2_with fail
        go_roundw
        case rel => exact ⟨k + 1, by omega, by go_num, KZ.out⟩
        case measure => simp [intOf]; omega
    · obtain rfl : k = n := by omega
      go_wp2_with fail
      go_ret
      exact ⟨rfl, KR.out⟩
end Go.Proofs.YtgegjjnfcnalfaaGreatDoor
namespace Go.Proofs.YtgegjjnfcnalfaaGreatDoor
open Go Go.RowKit Go.Lw
set_option maxRecDepth 100000
set_option linter.unusedVariables false
set_option linter.unusedSimpArgs false
theorem opn_over (J : Jr) (cs : List Cmd) (c : Cmd) (h : J.cs = cs ++ [c]) (ho : c.over = true) : J.opn = none := by
  unfold Jr.opn
  rw [h]
  simp [ho]
theorem cut_doJ {J : Jr} {cs : List Cmd} {c : Cmd} (h : J.cs = cs ++ [c]) (id : Nat) : (Rc.cut id).doJ J = { J with cs := cs ++ [{ c with status := 125, over := true, cut := true }] } := by
  show ({ J with cs := modLast (Rc.mod (.cut id)) J.cs } : Jr) = _
  rw [h, modLast_snoc]; rfl
theorem opnR_closed (rs : List Rc) : (runJ (opnR rs)).opn = none := by
  unfold opnR
  cases ho : (runJ rs).opn with
  | none => exact ho
  | some c =>
    obtain ⟨cs, hc, hov⟩ := opn_last ho
    dsimp only
    rw [runJ_snoc, cut_doJ hc]
    exact opn_over _ cs _ rfl rfl
theorem opnR_idem (rs : List Rc) : opnR (opnR rs) = opnR rs := by
  have h := opnR_closed rs
  generalize opnR rs = q at *
  unfold opnR
  rw [h]
theorem opnR_cs (rs : List Rc) : (runJ (opnR rs)).cs = cutC (runJ rs).cs ∧ (runJ (opnR rs)).st = (runJ rs).st ∧ (runJ (opnR rs)).v = (runJ rs).v ∧ (runJ (opnR rs)).mark = (runJ rs).mark := by
  unfold opnR
  cases ho : (runJ rs).opn with
  | none =>
    refine ⟨?_, rfl, rfl, rfl⟩
    rcases Jr.opn_no ho with h | ⟨cs, c, h, hov⟩
    · show (runJ rs).cs = _; rw [h, cutC_nil]
    · show (runJ rs).cs = _; rw [h, cutC_over cs c hov]
  | some c =>
    obtain ⟨cs, hc, hov⟩ := opn_last ho
    dsimp only
    rw [runJ_snoc, cut_doJ hc]
    exact ⟨by rw [hc, cutC_open cs c hov], rfl, rfl, rfl⟩
theorem Rdy.t {K : Nat} {D : Dsk} {rs : List Rc} (h : Rdy K D rs) : Rdt K D rs [] := ⟨h.hold, h.stop, h.plan, h.ok, h.good, h.few, h.puts, h.np, h.k⟩
theorem Rdt.y {K : Nat} {D : Dsk} {rs : List Rc} (h : Rdt K D rs []) : Rdy K D rs := ⟨h.hold, h.stop, h.plan, h.ok, h.good, h.few, h.puts, h.np, h.k⟩
theorem Rdy.mono {K K' : Nat} {D : Dsk} {rs : List Rc} (h : Rdy K D rs) (hk : K ≤ K') (h9 : K' ≤ 1000000) : Rdy K' D rs := ⟨h.hold, h.stop, h.plan, h.ok, h.good, h.few, Nat.le_trans h.puts hk, by have := h.np; omega, h9⟩
theorem dead_nil : Dead [] := .inl (by simp; omega)
def tornT (rs : List Rc) (r : Rc) (n : Nat) : List UInt8 := if n < 10 + r.bytes.length then (frm (pays rs) r.bytes).take n else []
def tornR (rs : List Rc) (r : Rc) (n : Nat) : List Rc := if n < 10 + r.bytes.length then rs else rs ++ [r]
def tornD (D : Dsk) (rs : List Rc) (r : Rc) (n : Nat) : Dsk := { D with b := D.b ++ (frm (pays rs) r.bytes).take n, stopped := false, is := false, np := 0, nb := 0 }
theorem torn_rdt {K : Nat} {D : Dsk} {rs : List Rc} {r : Rc} (h : Rdy K D rs) (hf : r.Fit (runJ rs)) (hr : 89 * rs.length + 89 ≤ D.cap) (hn : rs.length < 100) (n : Nat) : Rdt K (tornD D rs r n) (tornR rs r n) (tornT rs r n) ∧ Dead (tornT rs r n) := by
  have hb := bytes_len hf
  have hl := h.lens
  have hDb : D.b = encF fz (pays rs) := by have := h.hold.b; simpa using this
  have hfl := frm_len (pays rs) r.bytes
  have hbl : (D.b ++ (frm (pays rs) r.bytes).take n).length ≤ D.cap := by rw [List.length_append, List.length_take]; omega
  have hg := h.good.snoc hf
  refine ⟨⟨⟨?_, ?_, h.hold.c, hbl⟩, rfl, rfl, ⟨hbl, h.ok.cap, h.ok.puts, by show _ < (0 : Int); omega, by show (0 : Int) ≤ _; omega, fun h => (by cases h), by show -1 < (0 : Int) ∧ (0 : Int) ≤ _; omega⟩, ?_, ?_, h.puts, by show -(K : Int) ≤ 0; omega, h.k⟩, ?_⟩
  · unfold tornR tornT tornD
    by_cases hc : n < 10 + r.bytes.length
    · rw [if_pos hc, if_pos hc]
      show D.b ++ _ = _
      rw [hDb]
    · rw [if_neg hc, if_neg hc, pays_snoc, enc_snoc, List.append_nil]
      show D.b ++ _ = _
      rw [hDb, List.take_of_length_le (by omega)]
  · intro p hp
    have h1 : ∀ p ∈ pays (tornR rs r n), p.length ≤ 79 := by
      unfold tornR
      split
      · exact h.good.len
      · exact hg.len
    have := h1 p hp
    omega
  · unfold tornR; split
    · exact h.good
    · exact hg
  · unfold tornR; split
    · exact h.few
    · simp; omega
  · unfold tornT; split
    · rename_i hc
      exact dead_cut (by omega) hc
    · exact dead_nil
theorem torn_steps {K : Nat} {D : Dsk} {rs : List Rc} {r : Rc} (h : Rdy K D rs) (hf : r.Fit (runJ rs)) (hr : 89 * rs.length + 89 ≤ D.cap) (n : Nat) :
    (D.plan 0 (n : Int)).2 = 0 ∧ (D.plan 0 (n : Int)).1 = { D with is := true, np := 0, nb := (n : Int) } ∧
    (({ D with is := true, np := 0, nb := (n : Int) } : Dsk).put (D.b.length : Int) (frm (pays rs) r.bytes)).2 = 10 ∧
    ((({ D with is := true, np := 0, nb := (n : Int) } : Dsk).put (D.b.length : Int) (frm (pays rs) r.bytes)).1.revive) = (tornD D rs r n, 0) := by
  have hb := bytes_len hf
  have hl := h.lens
  have hst := h.stop
  have hDb : D.b = encF fz (pays rs) := by have := h.hold.b; simpa using this
  have hfl := frm_len (pays rs) r.bytes
  have hp : (D.plan 0 (n : Int)) = ({ D with is := true, np := 0, nb := (n : Int) }, 0) := by
    unfold Dsk.plan
    rw [if_neg (by rw [hst]; simp), if_neg (by omega)]
  have hH : Hold ({ D with is := true, np := 0, nb := (n : Int) } : Dsk) (pays rs) [] := ⟨h.hold.b, h.hold.l, h.hold.c, h.hold.m⟩
  have hq := put_torn (l := frm (pays rs) r.bytes) hH hst (by show (encF fz (pays rs)).length + _ ≤ D.cap; rw [← hDb]; omega) rfl rfl
  have hfn : ((endF fz (pays rs)).fin : Int) = (D.b.length : Int) := by rw [fz_fin, hDb]
  rw [hfn] at hq
  rw [hp, hq]
  refine ⟨rfl, rfl, rfl, ?_⟩
  unfold Dsk.revive
  rw [if_pos rfl]
  unfold tornD
  rw [hDb]
  have hmin : ∀ (m : Nat), (frm (pays rs) r.bytes).take (min m (frm (pays rs) r.bytes).length) = (frm (pays rs) r.bytes).take m := fun m => by
    rw [List.take_eq_take_iff]; omega
  simp only [Int.toNat_natCast, List.drop_nil, List.append_nil, hmin]
theorem plan_again (D : Dsk) (n m : Int) (hs : D.stopped = false) (hn : 0 ≤ n) (hm : 0 ≤ m) : (({ D with is := true, np := 0, nb := n } : Dsk).plan 0 m) = ({ D with is := true, np := 0, nb := m }, 0) := by
  unfold Dsk.plan
  rw [if_neg (by rw [hs]; simp), if_neg (by omega)]
theorem app_rd {K : Nat} {D : Dsk} {rs : List Rc} {r : Rc} (h : Rdy K D rs) : (App D rs r).rd (D.b.length : Int) ((10 + r.bytes.length : Nat) : Int) = frm (pays rs) r.bytes ∧ (App D rs r).b.length = D.b.length + 10 + r.bytes.length := by
  have hDb : D.b = encF fz (pays rs) := by have := h.hold.b; simpa using this
  have hfl := frm_len (pays rs) r.bytes
  have hA : (App D rs r).b = D.b ++ frm (pays rs) r.bytes := by
    show encF fz (pays (rs ++ [r])) = _
    rw [pays_snoc, enc_snoc, hDb]
  refine ⟨?_, by rw [hA, List.length_append]; omega⟩
  unfold Dsk.rd
  rw [hA, if_neg (by rw [List.length_append]; omega), Int.toNat_natCast, Int.toNat_natCast, List.drop_append, List.drop_of_length_le (Nat.le_refl _), Nat.sub_self, List.drop_zero, List.nil_append, List.take_of_length_le (by omega)]
theorem does_all (w : World) (B : Nat → Prop) (j BL g : Nat) (v : Value) (D : Dsk) (rs : List Rc) (K : Nat) (h : JL w B j BL g v D rs) (hd : Rdy K D rs) (ht : Tab w) (hr : 89 * rs.length + 89 ≤ D.cap) (hk : K + 1 ≤ 1000000) (hn : rs.length < 100) (hBl : ∀ k, B k → k < w.heap.size) (a : A7) (hta : a.t.length ≤ 60) :
    Calls Tryz.prog 13 #[.pointer (some ⟨j, 0, none⟩), .agg #[.int .i64 a.what, .int .i64 a.ch, .int .i64 a.many, .int .i64 a.bytes, .string (BA a.t)]] w (DoPost w B j BL g D rs) := by
  obtain ⟨wh, ch, many, bt, t⟩ := a
  dsimp only at hta ⊢
  by_cases h0 : wh = 0
  · subst h0; exact does0 w B j BL g v D rs K h hd ht hr hk hn hBl ch many bt t hta
  by_cases h1 : wh = 1
  · subst h1; exact does1 w B j BL g v D rs K h hd ht hr hk hn hBl ch many bt t hta
  by_cases h2 : wh = 2
  · subst h2; exact does2 w B j BL g v D rs K h hd ht hr hk hn hBl ch many bt t hta
  by_cases h3 : wh = 3
  · subst h3; exact does3 w B j BL g v D rs K h hd ht hr hk hn hBl ch many bt t hta
  by_cases h4 : wh = 4
  · subst h4; exact does4 w B j BL g v D rs K h hd ht hr hk hn hBl ch many bt t hta
  by_cases h5 : wh = 5
  · subst h5; exact does5 w B j BL g v D rs K h hd ht hr hk hn hBl ch many bt t hta
  by_cases h6 : wh = 6
  · subst h6; exact does6 w B j BL g v D rs K h hd ht hr hk hn hBl ch many bt t hta
  by_cases h7 : wh = 7
  · subst h7; exact does7 w B j BL g v D rs K h hd ht hr hk hn hBl ch many bt t hta
  exact doesM w B j BL g v D rs K h hd ht hr hk hn hBl wh ch many bt t hta h0 h1 h2 h3 h4 h5 h6 h7
end Go.Proofs.YtgegjjnfcnalfaaGreatDoor
