/- Of the proof of TopBooks: StB, JB. -/
import Derived.Test.YtgegjjnfcnalfaaGreatDoorG13
import Derived.Test.YtgegjjnfcnalfaaGreatDoorG14
namespace Go.Proofs.YtgegjjnfcnalfaaGreatDoor
open Go Go.RowKit Go.Lw
set_option maxRecDepth 100000
set_option linter.unusedVariables false
set_option linter.unusedSimpArgs false
attribute [local go_sem] BA_toList
def stMp (n0 : Nat) (D : DataW Value) : Stable := ⟨fun v w => ∃ b, v = .map (some b) ∧ MapAt w b D ∧ n0 ≤ b, fun _ _ _ hk ⟨b, h1, h2, h3⟩ => ⟨b, h1, MapAt.kept h2 hk (fun h => h), h3⟩⟩
def stT1 (n0 : Nat) : Stable := ⟨fun v w => ∃ b, v = .agg #[.map (some b), .string ⟨#[47]⟩] ∧ MapAt w b dE ∧ n0 ≤ b, fun _ _ _ hk ⟨b, h1, h2, h3⟩ => ⟨b, h1, MapAt.kept h2 hk (fun h => h), h3⟩⟩
def stTr (n0 : Nat) : Stable := ⟨fun v w => ∃ g, v = .pointer (some ⟨g, 0, none⟩) ∧ TrAt w (fun b => n0 ≤ b) g, fun _ _ _ hk ⟨g, h1, h2⟩ => ⟨g, h1, h2.kept hk (fun _ _ h => h)⟩⟩
set_option maxHeartbeats 8000000 in
theorem tcopy_any (w : World) (F : Nat → Prop) (ft : Nat) (h : TrAt w F ft) : Calls Tryz.prog 79 #[.pointer (some ⟨ft, 0, none⟩)] w fun e w' => ∃ g, e = .returned (.pointer (some ⟨g, 0, none⟩)) ∧ TrAt w' (fun b => w.heap.size ≤ b) g ∧ Kept (fun _ => False) w w' := by
  have H := Lw.hid h
  clear h
  go_enter Tryz.func79, Tryz.ntmps79
  go_wp2_with fail
  refine (tnone_any w F ft H.out).mono ?_
  rintro e _ ⟨rfl, rfl⟩
  obtain ⟨m, h1, h2, h3, h4, h5⟩ := H.out.mem
  have HB := Lw.hid h1; have HM := Lw.hid h2
  clear h1 h2 h3 h4 h5
  go_wp2_with fail
  refine wp_region_tail 11 [stV (.pointer (some ⟨ft, 0, none⟩)), stV (.pointer (some ⟨ft, 0, none⟩)), stV (.pointer (some ⟨ft, 0, none⟩)), stV (.map (some m)), stMp w.heap.size dE, stV (.pointer (some ⟨ft, 0, none⟩)), stV (.pointer (some ⟨ft, 0, none⟩)), stV (.pointer (some ⟨ft, 1, none⟩)), stV (.string ⟨#[47]⟩), stT1 w.heap.size, stTr w.heap.size] (by kernel_rfl) (by kernel_rfl) ?_ ?_
  · iterate 4
      refine ssteps_cons (fun a' w' hI hag hf K hK => ?_) ?_
      · obtain ⟨⟨_, h0, rfl⟩, -⟩ := hf
        have s0 := hag.same 0 (by decide)
        clear hag
        have c0 := heap_cell (hI.heap HB.out (fun h => h)) 0
        go_wp2_with fail
        exact hK _ _ hI (Kept.refl _ _) rfl
    refine ssteps_cons (fun a' w' hI hag hf K hK => ?_) ?_
    · obtain ⟨⟨_, h3, rfl⟩, -⟩ : SFacts _ _ a' w' [3] := hf
      clear hag
      have HI := Lw.hid hI
      clear hI
      go_wp2_with fail
      refine (mclone1_any w' m dE (MapAt.kept HM.out HI.out (fun h => h))).mono ?_
      rintro e w4 ⟨rfl, hm4, k4⟩
      go_wp2_with fail
      exact hK _ _ (HI.out.trans k4 (fun _ _ h => h)) k4 ⟨_, rfl, hm4, HI.out.size⟩
    iterate 4
      refine ssteps_cons (fun a' w' hI hag hf K hK => ?_) ?_
      · obtain ⟨⟨_, h0, rfl⟩, -⟩ := hf
        have s0 := hag.same 0 (by decide)
        clear hag
        have c1 := heap_cell (hI.heap HB.out (fun h => h)) 1
        go_wp2_with fail
        exact hK _ _ hI (Kept.refl _ _) rfl
    refine ssteps_cons (fun a' w' hI hag hf K hK => ?_) ?_
    · obtain ⟨⟨v4, h4, e4⟩, ⟨_, h8, rfl⟩, -⟩ : SFacts _ _ a' w' [4, 8] := hf
      clear hag
      obtain ⟨b4, rfl, hb4, hn4⟩ := e4
      go_wp2_with fail
      exact hK _ _ hI (Kept.refl _ _) ⟨_, rfl, hb4, hn4⟩
    refine ssteps_cons (fun a' w' hI hag hf K hK => ?_) ?_
    · obtain ⟨⟨v9, h9, e9⟩, -⟩ : SFacts _ _ a' w' [9] := hf
      clear hag
      obtain ⟨b9, rfl, hb9, hn9⟩ := e9
      go_wp2_with fail
      have k9 : Kept (fun _ => False) w' (w'.alloc (treeO b9)) := (Kept.refl _ w').alloc _
      exact hK _ _ (hI.trans k9 (fun _ _ h => h)) k9 ⟨_, rfl, b9, heap_alloc _ _, MapAt.kept hb9 k9 (fun h => h), hI.size, hn9, Nat.ne_of_lt hb9.lt⟩
    exact trivial
  · intro vs wz hI hvs
    have q4 := hvs 4 _ _ rfl rfl
    have q9 := hvs 9 _ _ rfl rfl
    have q10 := hvs 10 _ _ rfl rfl
    simp only [pzz, putAll, Act.put, Nat.reduceAdd, spv (hvs 0 _ _ rfl rfl) rfl, spv (hvs 1 _ _ rfl rfl) rfl, spv (hvs 2 _ _ rfl rfl) rfl, spv (hvs 3 _ _ rfl rfl) rfl, spv (hvs 5 _ _ rfl rfl) rfl, spv (hvs 6 _ _ rfl rfl) rfl, spv (hvs 7 _ _ rfl rfl) rfl, spv (hvs 8 _ _ rfl rfl) rfl]
    clear hvs
    generalize vs 4 = x4 at *
    generalize vs 9 = x9 at *
    generalize vs 10 = x10 at *
    obtain ⟨gz, rfl, hz⟩ := q10
    have HZ := Lw.hid hz; have HI := Lw.hid hI
    clear hI hz q4 q9
    go_wp2_with fail
    go_ret
    exact ⟨_, rfl, HZ.out, HI.out⟩
def cR (γ : Nat) (w : World) (γ' : Nat) (w' : World) : Prop := (γ' = γ ∨ γ = 0) ∧ Kept (fun _ => False) w w'
structure CI (wr : World) (D : Nat → Bool) (γ : Nat) (w : World) : Prop where
  kept : Kept (fun _ => False) wr w
  no : D 8 = false → γ = 0
  yes : D 8 = true → γ ≠ 0 ∧ γ ≤ w.heap.size
theorem CI.start {wr w : World} (k : Kept (fun _ => False) wr w) : CI wr (fun _ => false) 0 w := ⟨k, fun _ => rfl, fun h => by cases h⟩
theorem CI.pure {wr w w' : World} {D : Nat → Bool} {γ : Nat} (h : CI wr D γ w) (k : Kept (fun _ => False) w w') {j : Nat} (hj : (8 : Nat) ≠ j) : CI wr (fun k => if k = j then true else D k) γ w' := by
  have e : (if (8 : Nat) = j then true else D 8) = D 8 := if_neg hj
  exact ⟨h.kept.trans k (fun _ _ h => h), fun h1 => h.no (e ▸ h1), fun h1 => ⟨(h.yes (e ▸ h1)).1, Nat.le_trans (h.yes (e ▸ h1)).2 k.size⟩⟩
def cTr (n0 : Nat) : StableG cR := ⟨fun v γ w => γ ≠ 0 ∧ ∃ g, v = .pointer (some ⟨g, 0, none⟩) ∧ TrAt w (fun b => n0 ≤ b ∧ b < γ) g, fun _ γ w γ' w' hr ⟨h0, g, h1, h2⟩ => by
  obtain rfl : γ' = γ := hr.1.resolve_right h0
  exact ⟨h0, g, h1, h2.kept hr.2 (fun _ _ h => h)⟩⟩
def cMp (D : DataW Value) : StableG cR := ⟨fun v γ w => γ ≠ 0 ∧ ∃ b, v = .map (some b) ∧ MapAt w b D ∧ γ ≤ b, fun _ γ w γ' w' hr ⟨h0, b, h1, h2, h3⟩ => by
  obtain rfl : γ' = γ := hr.1.resolve_right h0
  exact ⟨h0, b, h1, MapAt.kept h2 hr.2 (fun h => h), h3⟩⟩
def cAg (n0 : Nat) (st : Int) (D : DataW Value) : StableG cR := ⟨fun v γ w => γ ≠ 0 ∧ ∃ g b, v = .agg #[.int .i64 st, .pointer (some ⟨g, 0, none⟩), .map (some b)] ∧ TrAt w (fun b => n0 ≤ b ∧ b < γ) g ∧ MapAt w b D ∧ γ ≤ b, fun _ γ w γ' w' hr ⟨h0, g, b, h1, h2, h3, h4⟩ => by
  obtain rfl : γ' = γ := hr.1.resolve_right h0
  exact ⟨h0, g, b, h1, h2.kept hr.2 (fun _ _ h => h), MapAt.kept h3 hr.2 (fun h => h), h4⟩⟩
def cSt (n0 : Nat) (st : Int) (o : Option (List UInt8)) : StableG cR := ⟨fun v γ w => ∃ g, v = .pointer (some ⟨g, 0, none⟩) ∧ StAt w (fun b => n0 ≤ b) g st o, fun _ _ _ _ _ hr ⟨g, h1, h2⟩ => ⟨g, h1, h2.kept hr.2 (fun _ _ h => h)⟩⟩
set_option maxHeartbeats 8000000 in
theorem scopy_any (w : World) (F : Nat → Prop) (g : Nat) (st : Int) (o : Option (List UInt8)) (h : StAt w F g st o) : Calls Tryz.prog 37 #[.pointer (some ⟨g, 0, none⟩)] w fun e w' => ∃ g', e = .returned (.pointer (some ⟨g', 0, none⟩)) ∧ StAt w' (fun b => w.heap.size ≤ b) g' st o ∧ Kept (fun _ => False) w w' := by
  have H := Lw.hid h
  clear h
  go_enter Tryz.func37, Tryz.ntmps37
  go_wp2_with fail
  refine (snone_any w F g st o H.out).mono ?_
  rintro e _ ⟨rfl, rfl⟩
  obtain ⟨ft, m, h1, h2, h3, h4, h5, h6⟩ := H.out.mem
  have HB := Lw.hid h1; have HT := Lw.hid h2; have HM := Lw.hid h3
  clear h1 h2 h3 h4 h5 h6
  go_wp2_with fail
  refine wp_region_set 16 (CI w) (cR) [gV (.pointer (some ⟨g, 0, none⟩)), gV (.pointer (some ⟨g, 0, none⟩)), gV (.pointer (some ⟨g, 0, none⟩)), gV (.int .i64 st), gV (.pointer (some ⟨g, 0, none⟩)), gV (.pointer (some ⟨g, 0, none⟩)), gV (.pointer (some ⟨g, 1, none⟩)), gV (.pointer (some ⟨ft, 0, none⟩)), cTr w.heap.size, gV (.pointer (some ⟨g, 0, none⟩)), gV (.pointer (some ⟨g, 0, none⟩)), gV (.pointer (some ⟨g, 2, none⟩)), gV (.map (some m)), cMp (dV o), cAg w.heap.size st (dV o), cSt w.heap.size st o] (0) (by kernel_rfl) (by kernel_rfl) (CI.start ((Kept.refl _ w).drew)) ?_ ?_
  · refine gsteps_cons (fun D γ a' w' hI hD0 hdep hcl hag hlt hf K hK => ?_) ?_
    · have s0 := hag.same 0 (by decide)
      clear hlt
      clear hag
      go_wp2_with fail
      exact hK _ _ _ (hI.pure (Kept.refl _ _) (by decide)) ⟨.inl rfl, Kept.refl _ _⟩ rfl
    refine gsteps_cons (fun D γ a' w' hI hD0 hdep hcl hag hlt hf K hK => ?_) ?_
    · obtain ⟨⟨_, h0, rfl⟩, -⟩ : SFacts _ _ a' w' [0] := hf
      clear hlt
      clear hag
      go_wp2_with fail
      exact hK _ _ _ (hI.pure (Kept.refl _ _) (by decide)) ⟨.inl rfl, Kept.refl _ _⟩ rfl
    refine gsteps_cons (fun D γ a' w' hI hD0 hdep hcl hag hlt hf K hK => ?_) ?_
    · obtain ⟨⟨_, h1, rfl⟩, -⟩ : SFacts _ _ a' w' [1] := hf
      clear hlt
      clear hag
      go_wp2_with fail
      exact hK _ _ _ (hI.pure (Kept.refl _ _) (by decide)) ⟨.inl rfl, Kept.refl _ _⟩ rfl
    refine gsteps_cons (fun D γ a' w' hI hD0 hdep hcl hag hlt hf K hK => ?_) ?_
    · obtain ⟨⟨_, h2, rfl⟩, -⟩ : SFacts _ _ a' w' [2] := hf
      clear hlt
      clear hag
      have c0 := heap_cell (hI.kept.heap HB.out (fun h => h)) 0
      go_wp2_with fail
      exact hK _ _ _ (hI.pure (Kept.refl _ _) (by decide)) ⟨.inl rfl, Kept.refl _ _⟩ rfl
    refine gsteps_cons (fun D γ a' w' hI hD0 hdep hcl hag hlt hf K hK => ?_) ?_
    · have s0 := hag.same 0 (by decide)
      clear hlt
      clear hag
      go_wp2_with fail
      exact hK _ _ _ (hI.pure (Kept.refl _ _) (by decide)) ⟨.inl rfl, Kept.refl _ _⟩ rfl
    refine gsteps_cons (fun D γ a' w' hI hD0 hdep hcl hag hlt hf K hK => ?_) ?_
    · obtain ⟨⟨_, h4, rfl⟩, -⟩ : SFacts _ _ a' w' [4] := hf
      clear hlt
      clear hag
      go_wp2_with fail
      exact hK _ _ _ (hI.pure (Kept.refl _ _) (by decide)) ⟨.inl rfl, Kept.refl _ _⟩ rfl
    refine gsteps_cons (fun D γ a' w' hI hD0 hdep hcl hag hlt hf K hK => ?_) ?_
    · obtain ⟨⟨_, h5, rfl⟩, -⟩ : SFacts _ _ a' w' [5] := hf
      clear hlt
      clear hag
      go_wp2_with fail
      exact hK _ _ _ (hI.pure (Kept.refl _ _) (by decide)) ⟨.inl rfl, Kept.refl _ _⟩ rfl
    refine gsteps_cons (fun D γ a' w' hI hD0 hdep hcl hag hlt hf K hK => ?_) ?_
    · obtain ⟨⟨_, h6, rfl⟩, -⟩ : SFacts _ _ a' w' [6] := hf
      clear hlt
      clear hag
      have c1 := heap_cell (hI.kept.heap HB.out (fun h => h)) 1
      go_wp2_with fail
      exact hK _ _ _ (hI.pure (Kept.refl _ _) (by decide)) ⟨.inl rfl, Kept.refl _ _⟩ rfl
    refine gsteps_cons (fun D γ a' w' hI hD0 hdep hcl hag hlt hf K hK => ?_) ?_
    · obtain ⟨⟨_, h7, rfl⟩, -⟩ : SFacts _ _ a' w' [7] := hf
      clear hlt
      clear hag
      have HI := Lw.hid hI
      clear hI
      go_wp2_with fail
      refine (tcopy_any w' _ ft (HT.out.kept HI.out.kept (fun _ _ h => h))).mono ?_
      rintro e w4 ⟨g4, rfl, ht4, k4⟩
      go_wp2_with fail
      have hz0 := HI.out.kept.size; have hz4 := k4.size
      have hg0 := HI.out.no hD0
      have hgz : 0 < w4.heap.size := by obtain ⟨m9, hm9, _⟩ := ht4.mem; have := heap_lt hm9; omega
      exact hK _ w4.heap.size _ ⟨HI.out.kept.trans k4 (fun _ _ h => h), fun h => absurd h (by simp), fun _ => ⟨by omega, Nat.le_refl _⟩⟩ ⟨.inr hg0, k4⟩ ⟨by omega, g4, rfl, ht4.mono (fun b hb h => ⟨Nat.le_trans hz0 h, hb⟩)⟩
    refine gsteps_cons (fun D γ a' w' hI hD0 hdep hcl hag hlt hf K hK => ?_) ?_
    · have s0 := hag.same 0 (by decide)
      clear hlt
      clear hag
      go_wp2_with fail
      exact hK _ _ _ (hI.pure (Kept.refl _ _) (by decide)) ⟨.inl rfl, Kept.refl _ _⟩ rfl
    refine gsteps_cons (fun D γ a' w' hI hD0 hdep hcl hag hlt hf K hK => ?_) ?_
    · obtain ⟨⟨_, h9, rfl⟩, -⟩ : SFacts _ _ a' w' [9] := hf
      clear hlt
      clear hag
      go_wp2_with fail
      exact hK _ _ _ (hI.pure (Kept.refl _ _) (by decide)) ⟨.inl rfl, Kept.refl _ _⟩ rfl
    refine gsteps_cons (fun D γ a' w' hI hD0 hdep hcl hag hlt hf K hK => ?_) ?_
    · obtain ⟨⟨_, h10, rfl⟩, -⟩ : SFacts _ _ a' w' [10] := hf
      clear hlt
      clear hag
      go_wp2_with fail
      exact hK _ _ _ (hI.pure (Kept.refl _ _) (by decide)) ⟨.inl rfl, Kept.refl _ _⟩ rfl
    refine gsteps_cons (fun D γ a' w' hI hD0 hdep hcl hag hlt hf K hK => ?_) ?_
    · obtain ⟨⟨_, h11, rfl⟩, -⟩ : SFacts _ _ a' w' [11] := hf
      clear hlt
      clear hag
      have c2 := heap_cell (hI.kept.heap HB.out (fun h => h)) 2
      go_wp2_with fail
      exact hK _ _ _ (hI.pure (Kept.refl _ _) (by decide)) ⟨.inl rfl, Kept.refl _ _⟩ rfl
    refine gsteps_cons (fun D γ a' w' hI hD0 hdep hcl hag hlt hf K hK => ?_) ?_
    · obtain ⟨⟨_, h12, rfl⟩, -⟩ : SFacts _ _ a' w' [12, 8] := hf
      clear hlt
      clear hag
      have h88 := hdep 8 (by decide)
      have HI := Lw.hid hI
      clear hI
      go_wp2_with fail
      refine (mclone2_any w' m (dV o) (MapAt.kept HM.out HI.out.kept (fun h => h))).mono ?_
      rintro e w4 ⟨rfl, hm4, k4⟩
      go_wp2_with fail
      exact hK _ _ _ (HI.out.pure k4 (by decide)) ⟨.inl rfl, k4⟩ ⟨(HI.out.yes h88).1, _, rfl, hm4, (HI.out.yes h88).2⟩
    refine gsteps_cons (fun D γ a' w' hI hD0 hdep hcl hag hlt hf K hK => ?_) ?_
    · obtain ⟨⟨_, h3, rfl⟩, ⟨v8, h8, e8⟩, ⟨v13, h13, e13⟩, -⟩ : SFacts _ _ a' w' [3, 8, 13] := hf
      clear hlt
      clear hag
      obtain ⟨h0, g8, rfl, ht8⟩ := e8
      obtain ⟨-, b13, rfl, hb13, hn13⟩ := e13
      go_wp2_with fail
      exact hK _ _ _ (hI.pure (Kept.refl _ _) (by decide)) ⟨.inl rfl, Kept.refl _ _⟩ ⟨h0, _, _, rfl, ht8, hb13, hn13⟩
    refine gsteps_cons (fun D γ a' w' hI hD0 hdep hcl hag hlt hf K hK => ?_) ?_
    · obtain ⟨⟨v14, h14, e14⟩, -⟩ : SFacts _ _ a' w' [14] := hf
      clear hlt
      clear hag
      obtain ⟨h0, g9, b9, rfl, ht9, hb9, hn9⟩ := e14
      have hz0 := hI.kept.size
      go_wp2_with fail
      have k9 : Kept (fun _ => False) w' (w'.alloc (stateO st g9 b9)) := (Kept.refl _ w').alloc _
      have hbl := hb9.lt
      have hng : w.heap.size ≤ γ := by obtain ⟨m9, hm9, _, h3, _⟩ := ht9.mem; omega
      exact hK _ _ _ (hI.pure k9 (by decide)) ⟨.inl rfl, k9⟩ ⟨_, rfl, g9, b9, heap_alloc _ _, (ht9.kept k9 (fun _ _ h => h)).mono (fun b hb h => ⟨h.1, by omega, by omega⟩), MapAt.kept hb9 k9 (fun h => h), hz0, by omega, by omega⟩
    exact trivial
  · intro vs γ wz hI hvs
    have q0 : vs 0 = (.pointer (some ⟨g, 0, none⟩)) := hvs 0 _ _ rfl rfl
    have q1 : vs 1 = (.pointer (some ⟨g, 0, none⟩)) := hvs 1 _ _ rfl rfl
    have q2 : vs 2 = (.pointer (some ⟨g, 0, none⟩)) := hvs 2 _ _ rfl rfl
    have q3 : vs 3 = (.int .i64 st) := hvs 3 _ _ rfl rfl
    have q4 : vs 4 = (.pointer (some ⟨g, 0, none⟩)) := hvs 4 _ _ rfl rfl
    have q5 : vs 5 = (.pointer (some ⟨g, 0, none⟩)) := hvs 5 _ _ rfl rfl
    have q6 : vs 6 = (.pointer (some ⟨g, 1, none⟩)) := hvs 6 _ _ rfl rfl
    have q7 : vs 7 = (.pointer (some ⟨ft, 0, none⟩)) := hvs 7 _ _ rfl rfl
    have q8 := hvs 8 _ _ rfl rfl
    have q9 : vs 9 = (.pointer (some ⟨g, 0, none⟩)) := hvs 9 _ _ rfl rfl
    have q10 : vs 10 = (.pointer (some ⟨g, 0, none⟩)) := hvs 10 _ _ rfl rfl
    have q11 : vs 11 = (.pointer (some ⟨g, 2, none⟩)) := hvs 11 _ _ rfl rfl
    have q12 : vs 12 = (.map (some m)) := hvs 12 _ _ rfl rfl
    have q13 := hvs 13 _ _ rfl rfl
    have q14 := hvs 14 _ _ rfl rfl
    have q15 := hvs 15 _ _ rfl rfl
    clear hvs
    simp only [List.take_succ_cons, List.take_zero, List.drop_succ_cons, List.drop_zero, putAll, Act.put, List.setIfInBounds_toArray, List.set_cons_zero, List.set_cons_succ, Nat.reduceAdd, q0, q1, q2, q3, q4, q5, q6, q7, q9, q10, q11, q12]
    clear q0 q1 q2 q3 q4 q5 q6 q7 q9 q10 q11 q12
    generalize vs 8 = x8 at *
    generalize vs 13 = x13 at *
    generalize vs 14 = x14 at *
    generalize vs 15 = x15 at *
    obtain ⟨gz, rfl, hz⟩ := q15
    have HZ := Lw.hid hz; have HI := Lw.hid hI
    clear hI hz q8 q13 q14
    go_wp2_with fail
    go_ret
    exact ⟨_, rfl, HZ.out, HI.out.kept⟩
def rv (k id : Int) (t : List UInt8) (ch off num : Int) (sp : Option Addr) (a b c : Int) : Value := .agg #[.int .u8 k, .int .u32 id, .string (BA t), .int .i64 ch, .int .i64 off, .int .i64 num, .pointer sp, .int .u32 a, .int .u32 b, .int .u32 c]
def rightB (k ch num : Int) : Bool :=
  if k = 2 then decide (ch = 2) || decide (ch = 3)
  else if k = 3 then decide (0 ≤ num) && decide (num ≤ 2147483647)
  else if k = 4 then decide (0 ≤ num) && decide (num < 256)
  else true
def IsKind (k : Int) : Prop := k = 1 ∨ k = 2 ∨ k = 3 ∨ k = 4 ∨ k = 5 ∨ k = 6
set_option maxHeartbeats 4000000 in
theorem right_any (w : World) (k id : Int) (t : List UInt8) (ch off num : Int) (sp : Option Addr) (a b c : Int) (hk : IsKind k) :
    Calls Tryz.prog 66 #[rv k id t ch off num sp a b c] w fun e w' => e = .returned (.bool (rightB k ch num)) ∧ Kept (fun _ => False) w w' := by
  unfold rv
  rcases hk with rfl | rfl | rfl | rfl | rfl | rfl
  · go_enter Tryz.func66, Tryz.ntmps66
    go_wp2_with fail
    go_ret
    exact ⟨rfl, (Kept.refl _ w).alloc _⟩
  · by_cases h2 : ch = 2
    · subst h2
      go_enter Tryz.func66, Tryz.ntmps66
      go_wp2_with fail
      go_ret
      exact ⟨rfl, (Kept.refl _ w).alloc _⟩
    · have h2' : (ch == 2) = false := by simp [h2]
      have e2 : rightB 2 ch num = (ch == 3) := by simp [rightB, h2]; rfl
      go_enter Tryz.func66, Tryz.ntmps66
      go_wp2_with fail
      go_ret
      rw [e2]
      exact ⟨rfl, (Kept.refl _ w).alloc _⟩
  · by_cases h2 : 0 ≤ num
    · have h2' : decide (0 ≤ num) = true := by simp [h2]
      have e2 : rightB 3 ch num = decide (num ≤ 2147483647) := by simp [rightB, h2]
      go_enter Tryz.func66, Tryz.ntmps66
      go_wp2_with fail
      go_ret
      rw [e2]
      exact ⟨rfl, (Kept.refl _ w).alloc _⟩
    · have h2' : decide (0 ≤ num) = false := by simp [h2]
      rw [show rightB 3 ch num = false by simp [rightB, h2]]
      go_enter Tryz.func66, Tryz.ntmps66
      go_wp2_with fail
      go_ret
      exact ⟨rfl, (Kept.refl _ w).alloc _⟩
  · by_cases h2 : 0 ≤ num
    · have h2' : decide (0 ≤ num) = true := by simp [h2]
      have e2 : rightB 4 ch num = decide (num < 256) := by simp [rightB, h2]
      go_enter Tryz.func66, Tryz.ntmps66
      go_wp2_with fail
      go_ret
      rw [e2]
      exact ⟨rfl, (Kept.refl _ w).alloc _⟩
    · have h2' : decide (0 ≤ num) = false := by simp [h2]
      rw [show rightB 4 ch num = false by simp [rightB, h2]]
      go_enter Tryz.func66, Tryz.ntmps66
      go_wp2_with fail
      go_ret
      exact ⟨rfl, (Kept.refl _ w).alloc _⟩
  · go_enter Tryz.func66, Tryz.ntmps66
    go_wp2_with fail
    go_ret
    exact ⟨rfl, (Kept.refl _ w).alloc _⟩
  · go_enter Tryz.func66, Tryz.ntmps66
    go_wp2_with fail
    go_ret
    exact ⟨rfl, (Kept.refl _ w).alloc _⟩
set_option maxHeartbeats 4000000 in
theorem jopen_no (w : World) (F : Nat → Prop) (j BL sp : Nat) (va : Value) (J : Jr) (h : JAt w F j BL va sp J) (hn : J.opn = none) :
    Calls Tryz.prog 29 #[.pointer (some ⟨j, 0, none⟩)] w fun e w' => e = .returned (.pointer none) ∧ w = w' := by
  have hb := h.box
  rcases Jr.opn_no hn with hc | ⟨cs, c, hc, ho⟩
  · have hr := h.row
    rw [hc] at hr
    obtain ⟨ad, cap, rfl, h1, h2, h3⟩ := own_slice hr
    have c1 := heap_cell hb 1
    clear h hb hn hc hr h3
    go_enter Tryz.func29, Tryz.ntmps29
    go_wp2_with fail
    go_ret
    exact ⟨by simp, rfl⟩
  · obtain ⟨b, cap, rfl, h1, h2, h3⟩ := h.cell hc
    have c1 := heap_cell hb 1
    have c6 := h3 6 (by decide)
    simp only [Cmd.cells, List.getElem?_cons_zero, List.getElem?_cons_succ, ho] at c6
    obtain ⟨k, hk⟩ : ∃ k, cs.length = k := ⟨_, rfl⟩
    rw [hk] at c1 c6 h1
    unfold maxLen at h2
    have g1 : decide ((0 : Int) ≤ (k : Int)) = true := by simp
    have i0 : (0 : Int) ≤ (k : Int) := by omega
    have i1 : (k : Int) < ((k + 1 : Nat) : Int) := by omega
    clear h hb hn hc ho h3 hk
    go_enter Tryz.func29, Tryz.ntmps29
    go_wp2_with fail
    go_ret
    exact ⟨by simp, rfl⟩
set_option maxHeartbeats 4000000 in
theorem jbusy_any (w : World) (F : Nat → Prop) (j BL sp : Nat) (va : Value) (J : Jr) (h : JAt w F j BL va sp J) :
    Calls Tryz.prog 18 #[.pointer (some ⟨j, 0, none⟩)] w fun e w' => e = .returned (.bool J.opn.isSome) ∧ w = w' := by
  have H := Lw.hid h
  have HB := Lw.hid h.box
  cases hO : J.opn with
  | none =>
    have HO := Lw.hid hO
    clear h hO
    go_enter Tryz.func18, Tryz.ntmps18
    go_wp2_with fail
    refine (jnone_any w j BL sp va J.mark HB.out).mono ?_
    rintro e _ ⟨rfl, rfl⟩
    go_wp2_with fail
    refine (jopen_no w F j BL sp va J H.out HO.out).mono ?_
    rintro e _ ⟨rfl, rfl⟩
    go_wp2_with fail
    go_ret
    exact ⟨rfl, rfl⟩
  | some c =>
    obtain ⟨cs, hc, ho⟩ := Jr.opn_yes hO
    obtain ⟨b, cap, hv, _, _, _⟩ := h.cell hc
    have HC := Lw.hid hc; have HO := Lw.hid ho; have HV := Lw.hid hv
    clear h hO hc ho hv
    go_enter Tryz.func18, Tryz.ntmps18
    go_wp2_with fail
    refine (jnone_any w j BL sp va J.mark HB.out).mono ?_
    rintro e _ ⟨rfl, rfl⟩
    go_wp2_with fail
    refine (jopen_yes w F j BL sp va J H.out cs c HC.out HO.out b cap HV.out).mono ?_
    rintro e _ ⟨rfl, rfl⟩
    go_wp2_with fail
    go_ret
    exact ⟨rfl, rfl⟩
set_option maxHeartbeats 4000000 in
theorem jstate_any (w : World) (F : Nat → Prop) (j BL sp : Nat) (va : Value) (J : Jr) (h : JAt w F j BL va sp J) :
    Calls Tryz.prog 9 #[.pointer (some ⟨j, 0, none⟩)] w fun e w' => ∃ g, e = .returned (.pointer (some ⟨g, 0, none⟩)) ∧ StAt w' (fun b => w.heap.size ≤ b) g J.st J.v ∧ Kept (fun _ => False) w w' := by
  have HB := Lw.hid h.box
  have HS := Lw.hid h.st
  have c2 := heap_cell h.box 2
  clear h
  go_enter Tryz.func9, Tryz.ntmps9
  go_wp2_with fail
  refine (jnone_any w j BL sp va J.mark HB.out).mono ?_
  rintro e _ ⟨rfl, rfl⟩
  go_wp2_with fail
  refine (scopy_any w _ sp J.st J.v HS.out).mono ?_
  rintro e w1 ⟨g, rfl, h1, h2⟩
  have H1 := Lw.hid h1; have H2 := Lw.hid h2
  clear h1 h2
  go_wp2_with fail
  go_ret
  exact ⟨g, rfl, H1.out, H2.out⟩
set_option maxHeartbeats 4000000 in
theorem channel_any (w : World) (b i : Nat) (ch : Int) :
    Calls Tryz.prog 68 #[.pointer (some ⟨b, i, none⟩), .int .i64 ch] w fun e w' => e = .returned (.pointer (some ⟨b, i + (if ch = 2 then 2 else 3), none⟩)) ∧ w = w' := by
  by_cases h2 : ch = 2
  · subst h2
    go_enter Tryz.func68, Tryz.ntmps68
    go_wp2_with fail
    go_ret
    exact ⟨rfl, rfl⟩
  · have h2' : (ch == 2) = false := by simp [h2]
    rw [if_neg h2]
    go_enter Tryz.func68, Tryz.ntmps68
    go_wp2_with fail
    go_ret
    exact ⟨rfl, rfl⟩
end Go.Proofs.YtgegjjnfcnalfaaGreatDoor
