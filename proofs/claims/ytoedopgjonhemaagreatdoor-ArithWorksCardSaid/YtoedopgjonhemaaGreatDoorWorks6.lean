/- ArithWorks: the machine's one. -/
import Derived.Test.YtoedopgjonhemaaGreatDoorWorks5
import Derived.Test.YtoedopgjonhemaaGreatDoorWorksS
namespace Go.Proofs.YtoedopgjonhemaaGreatDoor
open Go Go.RowKit Go.Lw
set_option maxRecDepth 100000
set_option linter.unusedVariables false
set_option linter.unusedSimpArgs false
attribute [local go_sem] BA_toList
/-- What a call of the machine leaves: an error's number and no token, or a value and what is left. -/
def MCond (L : List Tok) (env : List UInt8 → List UInt8) (d sk wr : Nat) (lq : List (List UInt8)) (s : List UInt8) (R : Rx) (v at' d' sk' b' : Int) (wr' : Nat) (lq' : List (List UInt8)) : Prop :=
  (∃ er : Nat, R = .error er ∧ at' = (L.length : Int) ∧ b' = (er : Int)) ∨
  (∃ (y : Ex × List UInt8) (a : Nat), R = .ok y ∧ at' = (a : Int) ∧ d' = (d : Int) ∧ sk' = (sk : Int) ∧ b' = 0 ∧ EvP env y.1 sk wr lq v wr' lq' ∧ a ≤ L.length ∧ L.drop a = tokF y.2 ∧ lq'.length + y.2.length ≤ lq.length + s.length ∧ y.2.length ≤ s.length)
def MPost (mb : Nat) (H : Nat → Prop) (L : List Tok) (vL vV : Value) (env : List UInt8 → List UInt8) (d sk wr : Nat) (lq : List (List UInt8)) (s : List UInt8) (R : Rx) (e : Ending) (w' : World) : Prop :=
  ∃ (v at' d' sk' b' : Int) (wr' : Nat) (lq' : List (List UInt8)), e = .returned (.int .i64 v) ∧ I64 v ∧ MS w' mb H vL vV at' d' sk' b' wr' lq' ∧ MCond L env d sk wr lq s R v at' d' sk' b' wr' lq'
/-- A call of the machine, at texts no longer than n. -/
def CM (mb : Nat) (L : List Tok) (vL : Value) (V : List (List UInt8 × List UInt8)) (vV : Value) (fn : FuncId) (args : Array Value) (lv : Lvl) (n : Nat) : Prop :=
  ∀ (H : Nat → Prop) (w : World) (at_ d sk wr : Nat) (lq : List (List UInt8)) (s : List UInt8), MEnv w mb H L vL V vV → MS w mb H vL vV (at_ : Int) (d : Int) (sk : Int) 0 wr lq → at_ ≤ L.length → L.drop at_ = tokF s → s.length ≤ n → d ≤ 16 → sk + s.length ≤ 1000 → lq.length + s.length ≤ 1000 →
    Calls Tryz.prog fn args w fun e w' => MPost mb H L vL vV (envV V) d sk wr lq s (rdA lv d s) e w' ∧ KM mb H w w'
abbrev COne (mb : Nat) (L : List Tok) (vL : Value) (V : List (List UInt8 × List UInt8)) (vV : Value) (n : Nat) : Prop := CM mb L vL V vV 39 #[.pointer (some ⟨mb, 0, none⟩)] .one n
abbrev CAll (mb : Nat) (L : List Tok) (vL : Value) (V : List (List UInt8 × List UInt8)) (vV : Value) (n : Nat) : Prop := CM mb L vL V vV 15 #[.pointer (some ⟨mb, 0, none⟩)] .all n
abbrev CFrom (mb : Nat) (L : List Tok) (vL : Value) (V : List (List UInt8 × List UInt8)) (vV : Value) (n : Nat) : Prop := ∀ k, k ≤ 10 → CM mb L vL V vV 25 #[.pointer (some ⟨mb, 0, none⟩), .int .i64 ((k + 1 : Nat) : Int)] (.row k) n
/-- A token, newly laid. -/
def stT (w0 : World) : Stable := ⟨fun v w => ∃ b, v = .pointer (some ⟨b, 0, none⟩) ∧ w.heap[b]? = some (.cells #[.int .i64 0, .string ⟨#[]⟩] 79 (0, 0)) ∧ w0.heap.size ≤ b, fun v w w' k ⟨b, h1, h2, h3⟩ => ⟨b, h1, k.heap h2 (fun h => h), h3⟩⟩
theorem beqC {g h : List UInt8} (e : g ≠ h) : (BA g == BA h) = false := by rw [BA_beq]; exact beq_eq_false_iff_ne.2 e
section
variable {mb : Nat} {H : Nat → Prop} {L : List Tok} {vL vV : Value} {env : List UInt8 → List UInt8} {d sk wr : Nat} {lq : List (List UInt8)} {s : List UInt8} {R : Rx} {w' : World}
theorem mp_err {er : Nat} {v d' sk' : Int} {wr' : Nat} {lq' : List (List UInt8)} (hR : R = .error er) (hv : I64 v) (h : MS w' mb H vL vV (L.length : Int) d' sk' (er : Int) wr' lq') : MPost mb H L vL vV env d sk wr lq s R (.returned (.int .i64 v)) w' :=
  ⟨v, _, d', sk', _, wr', lq', rfl, hv, h, .inl ⟨er, hR, rfl, rfl⟩⟩
theorem mp_ok {y : Ex × List UInt8} {v : Int} {at' wr' : Nat} {lq' : List (List UInt8)} (hR : R = .ok y) (hv : EvP env y.1 sk wr lq v wr' lq') (h : MS w' mb H vL vV (at' : Int) (d : Int) (sk : Int) 0 wr' lq') (h1 : at' ≤ L.length) (h2 : L.drop at' = tokF y.2) (h3 : lq'.length + y.2.length ≤ lq.length + s.length) (h4 : y.2.length ≤ s.length) : MPost mb H L vL vV env d sk wr lq s R (.returned (.int .i64 v)) w' :=
  ⟨v, _, _, _, _, wr', lq', rfl, hv.isI, h, .inr ⟨y, at', hR, rfl, rfl, rfl, rfl, hv, h1, h2, h3, h4⟩⟩
theorem mp_of {v at' d' sk' b' : Int} {wr' : Nat} {lq' : List (List UInt8)} (hv : I64 v) (h : MS w' mb H vL vV at' d' sk' b' wr' lq') (hc : MCond L env d sk wr lq s R v at' d' sk' b' wr' lq') : MPost mb H L vL vV env d sk wr lq s R (.returned (.int .i64 v)) w' :=
  ⟨v, _, _, _, _, _, _, rfl, hv, h, hc⟩
theorem dpR_ok (hd : d + 1 ≤ 16) : dpR d R = R := if_neg (by omega)
theorem dpR_no (hd : ¬ d + 1 ≤ 16) : dpR d R = .error 12 := if_pos (by omega)
/-- A sign ahead. -/
theorem cond_un {r g : List UInt8} {v at' d' sk' b' : Int} {wr' : Nat} {lq' : List (List UInt8)} (hd : d + 1 ≤ 16) (hr : r.length < s.length) (h : MCond L env (d + 1) sk wr lq r R v at' d' sk' b' wr' lq') : MCond L env d sk wr lq s (dpR d (unR g R)) (aheadF g v) at' (wrap64 (d' - 1)) sk' b' wr' lq' := by
  rw [dpR_ok hd]
  rcases h with ⟨er, rfl, h1, h2⟩ | ⟨y, a, rfl, h1, rfl, h3, h4, h5, h6, h7, h8, h9⟩
  · exact .inl ⟨er, rfl, h1, h2⟩
  · exact .inr ⟨(.un g y.1, y.2), a, rfl, h1, by unfold wrap64; omega, h3, h4, ev_un h5 g, h6, h7, by simp only; omega, by simp only; omega⟩
theorem isT_sign {a : Nat} {y g : List UInt8} (h : L.drop a = tokF y) (hg : g ∈ signsL) : isT L a g = decide (signF (trimA y) = g) := by
  have key := tok_is (s := y) hg
  unfold isT
  cases ht : tokF y with
  | nil =>
    have hn : L[a]? = none := by
      rw [ht] at h
      have := congrArg List.length h
      rw [List.length_drop] at this
      simp at this
      exact List.getElem?_eq_none (by omega)
    rw [hn, decide_eq_false]
    intro e
    obtain ⟨l, hl⟩ := key.2 e
    rw [ht] at hl; cases hl
  | cons t l =>
    obtain ⟨h1, _, _⟩ := drop_cons (h.trans ht)
    rw [h1]
    obtain ⟨k, tt⟩ := t
    show (k == 3 && tt == g) = _
    rw [Bool.eq_iff_iff, Bool.and_eq_true, beq_iff_eq, beq_iff_eq, decide_eq_true_eq, ← key, ht]
    constructor
    · rintro ⟨rfl, rfl⟩; exact ⟨l, rfl⟩
    · rintro ⟨l', e⟩; cases e; exact ⟨rfl, rfl⟩
/-- What stands behind a sign. -/
theorem drop_sign {a : Nat} {y g : List UInt8} (h : L.drop a = tokF y) (hg : g ≠ []) (e : signF (trimA y) = g) : L.drop (a + 1) = tokF ((trimA y).drop g.length) ∧ a < L.length ∧ ((trimA y).drop g.length).length < y.length := by
  have h2 := tok_sign (s := y) (by rw [e]; exact hg)
  rw [e] at h2
  obtain ⟨_, h3, h4⟩ := drop_cons (h.trans h2)
  exact ⟨h3, h4, drop_less e hg⟩
end
theorem MEnv.but {w : World} {mb : Nat} {H : Nat → Prop} {L : List Tok} {vL : Value} {V : List (List UInt8 × List UInt8)} {vV : Value} (h : MEnv w mb H L vL V vV) {tb : Nat} (htb : tb < w.heap.size) : MEnv w mb (fun i => H i ∧ i ≠ tb) L vL V vV :=
  ⟨h.row, fun k hk => ⟨fun e => (h.rowB k hk).1 e.1, (h.rowB k hk).2⟩, h.vars, fun k hk => ⟨fun e => (h.varB k hk).1 e.1, (h.varB k hk).2⟩, ⟨fun e => h.lt.1 e.1, h.lt.2.1, fun i hi => ⟨h.lt.2.2 i hi, by omega⟩⟩, h.nL, h.nT, h.nV, h.nX⟩
theorem MS.back {w : World} {mb tb : Nat} {H : Nat → Prop} {vL vV : Value} {at_ d sk bd : Int} {wr : Nat} {lq : List (List UInt8)} (h : MS w mb (fun i => H i ∧ i ≠ tb) vL vV at_ d sk bd wr lq) : MS w mb H vL vV at_ d sk bd wr lq := by
  obtain ⟨ad, cap, h1, h2, h3⟩ := h.st
  exact ⟨ad, cap, h1, h2, fun k hk => (h3 k hk).1⟩
theorem KM.back {mb tb : Nat} {H : Nat → Prop} {w w' : World} (h : KM mb (fun i => H i ∧ i ≠ tb) w w') : KM mb H w w' := h.mono (fun _ _ h => h.imp id And.left)
set_option maxHeartbeats 16000000 in
theorem one_step (mb : Nat) (L : List Tok) (vL : Value) (V : List (List UInt8 × List UInt8)) (vV : Value) (n : Nat) (HO : ∀ m, m < n → COne mb L vL V vV m) (HA : ∀ m, m < n → CAll mb L vL V vV m) : COne mb L vL V vV n := by
  intro H w at_ d sk wr lq s hE hS hat hdr hsn hd hsk hlq
  obtain ⟨ad, cap, hmc, hown, hblk⟩ := hS.st
  obtain ⟨adL, capL, hvL, hcapL, htok⟩ := hE.tok
  subst hvL
  obtain ⟨nl, hnl⟩ : ∃ nl, L.length = nl := ⟨_, rfl⟩
  have HNL := Lw.hid hnl
  obtain ⟨⟨c0, c1, c2, c3, c4, c5, c6, c7⟩, f1, f2, f3, f4, f5, f7⟩ := hmc.cells
  have HE := Lw.hid hE; have HMC := Lw.hid hmc; have HOWN := Lw.hid hown; have HBLK := Lw.hid hblk
  have hlt := hE.lt
  have hnl9 := hE.nL
  have hmw : mb < w.heap.size := hlt.2.1
  rw [hnl] at c0 hcapL hat hnl9
  have HTURN : Hid (∀ w' at1 d1 s1 b1 wr1, MC w' mb (.slice adL nl capL) vV (.slice ad lq.length cap) at1 d1 s1 b1 ((wr1 : Nat) : Int) → KB mb w w' → MS w' mb H (.slice adL nl capL) vV at1 d1 s1 b1 wr1 lq) := Lw.hid (fun w' at1 d1 s1 b1 wr1 h k => MS.turn h HOWN.out HBLK.out k hlt.1)
  rw [hnl] at HE HMC
  have HOH := Lw.hid HO; have HAH := Lw.hid HA
  rw [hnl] at HOH HAH
  rw [hnl]
  clear hE hS hmc hown hblk HO HA
  by_cases hT : trimA s = []
  · have hen : at_ = nl := by
      have := drop_nil (hdr.trans (tok_end hT)) (by rw [hnl]; exact hat)
      rw [hnl] at this; exact this
    subst hen
    have HR : Hid (rdA .one d s = .error 5) := Lw.hid (one_endW d hT)
    have HB := Lw.hid (fun wq (k : Kept (fun _ => False) w wq) => bad_any wq mb H adL at_ capL vV (.slice ad lq.length cap) (at_ : Int) (d : Int) (sk : Int) (wr : Int) 0 5 (HMC.out.kept k (fun h => h)))
    clear htok hdr hT hnl
    go_enter Tryz.func39, Tryz.ntmps39
    go_wp2_with fail
    go_quiet (fail)
    go_wp2_with fail
    refine (HB.out _ (kept_drewN' w nq)).mono ?_
    rintro x w2 ⟨rfl, h2, k2⟩
    have K2 : Hid (KB mb w w2) := Lw.hid (((kept_drewN' w nq).mono (fun _ _ h => h.elim)).trans k2 (fun _ _ h => h))
    have H2 := Lw.hid (HTURN.out w2 _ _ _ _ wr h2 K2.out)
    clear h2 k2
    go_wp2_with fail
    go_ret
    exact ⟨mp_err HR.out zero_in (by rw [HNL.out]; exact H2.out), KB.km K2.out⟩
  · obtain ⟨k, t, r, htk, hrl, htl, hcase⟩ := one_cases d hT
    obtain ⟨hLk, hdr2, hlt2⟩ := drop_cons (hdr.trans htk)
    rw [hnl] at hlt2
    have hT1000 : t.length ≤ 1000 := HE.out.nT _ (List.mem_of_getElem? hLk)
    obtain ⟨g0, off, hadL, t0, t1⟩ := htok at_ _ hLk
    subst hadL
    simp only at t0 t1
    have HC := Lw.hid hcase; have HDR := Lw.hid hdr2
    have HT9 := Lw.hid htl
    clear htok hdr hT hnl htk hLk hcase hdr2
    have hge : decide ((nl : Int) ≤ (at_ : Int)) = false := decide_eq_false (by omega)
    go_enter Tryz.func39, Tryz.ntmps39
    go_wp2_with fail
    go_quiet (fail)
    go_wp2_with fail
    obtain ⟨wq, hwq⟩ : ∃ wq, w.drewN nq = wq := ⟨_, rfl⟩
    have KQ : Hid (Kept (fun _ => False) w wq) := Lw.hid (by rw [← hwq]; exact kept_drewN' w nq)
    rw [hwq]
    clear hwq
    refine wp_region_tail 11 [stV (.pointer (some ⟨mb, 0, none⟩)), stV (.pointer (some ⟨mb, 0, none⟩)), stV (.pointer (some ⟨mb, 0, none⟩)), stV (.slice (some ⟨g0, off, none⟩) nl capL), stV (.pointer (some ⟨mb, 0, none⟩)), stV (.pointer (some ⟨mb, 0, none⟩)), stV (.pointer (some ⟨mb, 1, none⟩)), stV (.int .i64 (at_ : Int)), stV (.pointer (some ⟨g0, off + at_ * 2, none⟩)), stV (.agg #[.int .i64 (k : Int), .string (BA t)]), stT wq] (by kernel_rfl) (by kernel_rfl) ?_ ?_
    · -- each operation by itself
      refine ssteps_cons (fun a' w' hI hag hf K hK => ?_) ?_
      · have s0 := hag.same 0 (by decide)
        clear hag
        go_wp2_with fail
        exact hK _ _ hI (Kept.refl _ _) rfl
      refine ssteps_cons (fun a' w' hI hag hf K hK => ?_) ?_
      · obtain ⟨⟨_, h0, rfl⟩, -⟩ : SFacts _ _ a' w' [0] := hf
        clear hag
        go_wp2_with fail
        exact hK _ _ hI (Kept.refl _ _) rfl
      refine ssteps_cons (fun a' w' hI hag hf K hK => ?_) ?_
      · obtain ⟨⟨_, h1, rfl⟩, -⟩ : SFacts _ _ a' w' [1] := hf
        clear hag
        go_wp2_with fail
        exact hK _ _ hI (Kept.refl _ _) rfl
      refine ssteps_cons (fun a' w' hI hag hf K hK => ?_) ?_
      · obtain ⟨⟨_, h2, rfl⟩, -⟩ : SFacts _ _ a' w' [2] := hf
        clear hag
        have x0 := (KQ.out.trans hI (fun _ _ h => h)).cell c0 (fun h => h)
        go_wp2_with fail
        exact hK _ _ hI (Kept.refl _ _) rfl
      refine ssteps_cons (fun a' w' hI hag hf K hK => ?_) ?_
      · have s0 := hag.same 0 (by decide)
        clear hag
        go_wp2_with fail
        exact hK _ _ hI (Kept.refl _ _) rfl
      refine ssteps_cons (fun a' w' hI hag hf K hK => ?_) ?_
      · obtain ⟨⟨_, h4, rfl⟩, -⟩ : SFacts _ _ a' w' [4] := hf
        clear hag
        go_wp2_with fail
        exact hK _ _ hI (Kept.refl _ _) rfl
      refine ssteps_cons (fun a' w' hI hag hf K hK => ?_) ?_
      · obtain ⟨⟨_, h5, rfl⟩, -⟩ : SFacts _ _ a' w' [5] := hf
        clear hag
        go_wp2_with fail
        exact hK _ _ hI (Kept.refl _ _) rfl
      refine ssteps_cons (fun a' w' hI hag hf K hK => ?_) ?_
      · obtain ⟨⟨_, h6, rfl⟩, -⟩ : SFacts _ _ a' w' [6] := hf
        clear hag
        have x1 := (KQ.out.trans hI (fun _ _ h => h)).cell c1 (fun h => h)
        go_wp2_with fail
        exact hK _ _ hI (Kept.refl _ _) rfl
      refine ssteps_cons (fun a' w' hI hag hf K hK => ?_) ?_
      · obtain ⟨⟨_, h3, rfl⟩, ⟨_, h7, rfl⟩, -⟩ : SFacts _ _ a' w' [3, 7] := hf
        clear hag
        have hat9 : at_ ≤ nl := hat
        have hlt9 := hlt2
        go_wp2_with fail
        exact hK _ _ hI (Kept.refl _ _) rfl
      refine ssteps_cons (fun a' w' hI hag hf K hK => ?_) ?_
      · obtain ⟨⟨_, h8, rfl⟩, -⟩ : SFacts _ _ a' w' [8] := hf
        clear hag
        have x0 := (KQ.out.trans hI (fun _ _ h => h)).cell t0 (fun h => h)
        have x1 := (KQ.out.trans hI (fun _ _ h => h)).cell t1 (fun h => h)
        go_wp2_with fail
        exact hK _ _ hI (Kept.refl _ _) rfl
      refine ssteps_cons (fun a' w' hI hag hf K hK => ?_) ?_
      · clear hag
        go_wp2_with fail
        exact hK _ _ (hI.alloc _) ((Kept.refl _ _).alloc _) ⟨_, rfl, heap_alloc _ _, hI.size⟩
      exact trivial
    · intro vs wz hI hvs
      have q0 : vs 0 = (.pointer (some ⟨mb, 0, none⟩)) := hvs 0 _ _ rfl rfl
      have q1 : vs 1 = (.pointer (some ⟨mb, 0, none⟩)) := hvs 1 _ _ rfl rfl
      have q2 : vs 2 = (.pointer (some ⟨mb, 0, none⟩)) := hvs 2 _ _ rfl rfl
      have q3 : vs 3 = (.slice (some ⟨g0, off, none⟩) nl capL) := hvs 3 _ _ rfl rfl
      have q4 : vs 4 = (.pointer (some ⟨mb, 0, none⟩)) := hvs 4 _ _ rfl rfl
      have q5 : vs 5 = (.pointer (some ⟨mb, 0, none⟩)) := hvs 5 _ _ rfl rfl
      have q6 : vs 6 = (.pointer (some ⟨mb, 1, none⟩)) := hvs 6 _ _ rfl rfl
      have q7 : vs 7 = (.int .i64 (at_ : Int)) := hvs 7 _ _ rfl rfl
      have q8 : vs 8 = (.pointer (some ⟨g0, off + at_ * 2, none⟩)) := hvs 8 _ _ rfl rfl
      have q9 : vs 9 = (.agg #[.int .i64 (k : Int), .string (BA t)]) := hvs 9 _ _ rfl rfl
      have q10 := hvs 10 _ _ rfl rfl
      clear hvs
      simp only [List.take_succ_cons, List.take_zero, List.drop_succ_cons, List.drop_zero, putAll, Act.put, List.setIfInBounds_toArray, List.set_cons_zero, List.set_cons_succ, Nat.reduceAdd, q0, q1, q2, q3, q4, q5, q6, q7, q8, q9]
      clear q0 q1 q2 q3 q4 q5 q6 q7 q8 q9
      generalize vs 10 = x10 at *
      obtain ⟨tb, rfl, htb, htbl⟩ := q10
      have hwz := hI.size
      have z1 := KQ.out.size
      have htm : tb ≠ mb := by omega
      have htH : H tb := hlt.2.2 tb (by omega)
      have y0 := heap_cell htb 0; have y1 := heap_cell htb 1; have yf0 := heap_free htb 0; have yf1 := heap_free htb 1
      obtain ⟨⟨m0, m1, m2, m3, m4, m5, m6, m7⟩, n1, n2, n3, n4, n5, n7⟩ := (HMC.out.kept (KQ.out.trans hI (fun _ _ h => h)) (fun h => h)).cells
      obtain ⟨w4, hw4⟩ : ∃ w4, ((wz.setCell ⟨tb, 0, none⟩ (.int .i64 (k : Int))).setCell ⟨tb, 1, none⟩ (.string (BA t))).setCell ⟨mb, 1, none⟩ (.int .i64 ((at_ : Int) + 1)) = w4 := ⟨_, rfl⟩
      have k4 : Kept (fun i => i = mb ∨ i = tb) w w4 := by
        rw [← hw4]
        exact Kept.set (Kept.set (Kept.set (((KQ.out.trans hI (fun _ _ h => h))).mono (fun _ _ h => h.elim)) tb 0 (fun _ => .inr rfl) _) tb 1 (fun _ => .inr rfl) _) mb 1 (fun _ => .inl rfl) _
      have ht4 : w4.heap[tb]? = some (.cells #[.int .i64 (k : Int), .string (BA t)] 79 (0, 0)) := by
        rw [← hw4]
        exact (Kept.set (Kept.refl (fun i => i = mb) _) mb 1 (fun _ => rfl) _).heap (heap_set (heap_set htb 0 _) 1 _) htm
      have hm4 : MC w4 mb (.slice (some ⟨g0, off, none⟩) nl capL) vV (.slice ad lq.length cap) ((at_ + 1 : Nat) : Int) (d : Int) (sk : Int) 0 (wr : Int) := by
        rw [← hw4]
        have h0 : MC wz mb (.slice (some ⟨g0, off, none⟩) nl capL) vV (.slice ad lq.length cap) (at_ : Int) (d : Int) (sk : Int) 0 (wr : Int) := HMC.out.kept (KQ.out.trans hI (fun _ _ h => h)) (fun h => h)
        exact ((h0.kept (Kept.set (Kept.set (Kept.refl (fun i => i = tb) wz) tb 0 (fun _ => rfl) (.int .i64 (k : Int))) tb 1 (fun _ => rfl) (.string (BA t))) (Ne.symm htm)).setAt _)
      have K4 : Hid (KM mb H w w4) := Lw.hid (k4.mono (fun i _ h => h.elim .inl (fun e => .inr (e ▸ htH))))
      have htb4 : tb < w4.heap.size := heap_lt ht4
      have HE4 := Lw.hid ((HE.out.kept K4.out).but htb4)
      have HS4 : Hid (MS w4 mb (fun i => H i ∧ i ≠ tb) (.slice (some ⟨g0, off, none⟩) nl capL) vV ((at_ + 1 : Nat) : Int) (d : Int) (sk : Int) 0 wr lq) := Lw.hid ⟨ad, cap, hm4, own_kept k4 HOWN.out (fun g hg hs => by
        have h1 := own_lt HOWN.out g hg
        rcases hs with e | e
        · exact hlt.1 (e ▸ HBLK.out g hg)
        · omega), fun g hg => ⟨HBLK.out g hg, by have h1 := own_lt HOWN.out g hg; omega⟩⟩
      have HM4 := Lw.hid hm4; have HT4 := Lw.hid ht4
      have HTURN4 : Hid (∀ w' at1 d1 s1 b1 wr1, MC w' mb (.slice (some ⟨g0, off, none⟩) nl capL) vV (.slice ad lq.length cap) at1 d1 s1 b1 ((wr1 : Nat) : Int) → KB mb w4 w' → MS w' mb (fun i => H i ∧ i ≠ tb) (.slice (some ⟨g0, off, none⟩) nl capL) vV at1 d1 s1 b1 wr1 lq) := Lw.hid (fun w' at1 d1 s1 b1 wr1 h k => by
        obtain ⟨ad', cap', q1, q2, q3⟩ := HS4.out.st
        have e1 : ad' = ad ∧ cap' = cap := by
          have := q1.cells.1.2.2.2.2.2.2.2
          rw [hm4.cells.1.2.2.2.2.2.2.2] at this
          cases this; exact ⟨rfl, rfl⟩
        obtain ⟨rfl, rfl⟩ := e1
        exact MS.turn h q2 q3 k (fun e => hlt.1 e.1))
      clear htl HTURN k4 hm4 ht4
      rcases HC.out with ⟨hk, hta, hR⟩ | ⟨hk, ht, hR⟩ | ⟨hk, hdg, hR⟩ | ⟨hk, hR⟩ | ⟨hk, hn1, hn2, hR⟩
      · -- a sign ahead
        subst hk
        simp only [aheadL, List.mem_cons, List.not_mem_nil, or_false] at hta
        rcases hta with rfl | rfl | rfl | rfl
        · have HR := Lw.hid hR
          clear HC hR
          replace hw4 : ((wz.setCell ⟨tb, 0, none⟩ (.int .i64 3)).setCell ⟨tb, 1, none⟩ (.string (BA [45]))).setCell ⟨mb, 1, none⟩ (.int .i64 ((at_ : Int) + 1)) = w4 := hw4
          have y40 : w4.cell? ⟨tb, 0, none⟩ = some (.int .i64 3) := heap_cell HT4.out 0
          have y41 : w4.cell? ⟨tb, 1, none⟩ = some (.string (BA [45])) := heap_cell HT4.out 1
          have HD := Lw.hid (deeper_any w4 mb H (some ⟨g0, off, none⟩) nl capL vV (.slice ad lq.length cap) ((at_ + 1 : Nat) : Int) (sk : Int) (wr : Int) d hd HM4.out)
          by_cases hd16 : d + 1 ≤ 16
          · rw [decide_eq_true hd16, show dpA d ((at_ + 1 : Nat) : Int) nl = ((at_ + 1 : Nat) : Int) from if_pos hd16, show dpB d = 0 from if_pos hd16] at HD
            go_wp2_with fail
            refine HD.out.mono ?_
            rintro x w5 ⟨rfl, k5, h5⟩
            have K5 := Lw.hid (K4.out.tr (KB.km k5))
            have HE5 := Lw.hid (HE4.out.kept (KB.km k5))
            have HT5 := Lw.hid (k5.heap HT4.out htm)
            have HC5 := Lw.hid (HOH.out (n - 1) (by omega) (fun i => H i ∧ i ≠ tb) w5 (at_ + 1) (d + 1) sk wr lq r HE5.out (HTURN4.out w5 _ _ _ _ wr h5 k5) (by rw [HNL.out]; exact hlt2) HDR.out (by omega) hd16 (by omega) (by omega))
            obtain ⟨R1, hR1⟩ : ∃ R, rdA .one (d + 1) r = R := ⟨_, rfl⟩
            have HR1 := Lw.hid hR1
            rw [hR1] at HC5 HR
            clear h5 k5 hR1 HD
            go_wp2_with fail
            refine HC5.out.mono ?_
            rintro x w6 ⟨⟨v, at6, d6, sk6, b6, wr6, lq6, rfl, hv, h6, hcond⟩, k6⟩
            have HCO := Lw.hid hcond; have HV := Lw.hid hv
            have K6 := Lw.hid (K5.out.tr k6.back)
            have ht6 := k6.heap HT5.out (fun h => h.elim htm (fun e => e.2 rfl))
            have HT6 := Lw.hid ht6
            have y60 := heap_cell ht6 0; have y61 := heap_cell ht6 1
            have HE6 := Lw.hid (HE5.out.kept k6)
            obtain ⟨ad6, cap6, hm6, ho6, hb6⟩ := h6.st
            have HM6 := Lw.hid hm6; have HO6 := Lw.hid ho6; have HB6 := Lw.hid hb6
            obtain ⟨⟨p0, p1, p2, p3, p4, p5, p6, p7⟩, r1, r2, r3, r4, r5, r7⟩ := hm6.cells
            have HM7 := Lw.hid (hm6.setD (wrap64 (d6 - 1)))
            have HS7 := Lw.hid (MS.turn HM7.out ho6 hb6 ((KB.refl mb w6).set 2 _) (fun e => hlt.1 e.1))
            have K7 := Lw.hid (K6.out.set 2 (.int .i64 (wrap64 (d6 - 1))))
            clear hcond hv k6 ht6 h6 hm6 ho6 hb6 HC5 y40 y41 hw4
            go_wp2_with fail
            go_ret
            rw [HR.out]
            refine ⟨?_, K7.out⟩
            rw [show wrap64 (-v) = aheadF [45] v by unfold aheadF; rw [if_pos rfl, Int.zero_sub]; exact (IntWalk.i64_left _).symm]
            exact mp_of (aheadF_in _ HV.out) HS7.out.back (cond_un hd16 hrl HCO.out)
          · rw [decide_eq_false hd16, show dpA d ((at_ + 1 : Nat) : Int) nl = nl from if_neg hd16, show dpB d = 12 from if_neg hd16] at HD
            have HR2 : Hid (rdA .one d s = .error 12) := Lw.hid (by rw [HR.out]; exact dpR_no hd16)
            clear hd16
            go_wp2_with fail
            refine HD.out.mono ?_
            rintro x w5 ⟨rfl, k5, h5⟩
            have H5 := Lw.hid (HTURN4.out w5 _ _ _ _ wr h5 k5); have K5 := Lw.hid (K4.out.tr (KB.km k5))
            clear h5 k5
            go_wp2_with fail
            go_ret
            exact ⟨mp_err HR2.out zero_in (by rw [HNL.out]; exact H5.out.back), K5.out⟩
        · have HR := Lw.hid hR
          clear HC hR
          replace hw4 : ((wz.setCell ⟨tb, 0, none⟩ (.int .i64 3)).setCell ⟨tb, 1, none⟩ (.string (BA [43]))).setCell ⟨mb, 1, none⟩ (.int .i64 ((at_ : Int) + 1)) = w4 := hw4
          have y40 : w4.cell? ⟨tb, 0, none⟩ = some (.int .i64 3) := heap_cell HT4.out 0
          have y41 : w4.cell? ⟨tb, 1, none⟩ = some (.string (BA [43])) := heap_cell HT4.out 1
          have HD := Lw.hid (deeper_any w4 mb H (some ⟨g0, off, none⟩) nl capL vV (.slice ad lq.length cap) ((at_ + 1 : Nat) : Int) (sk : Int) (wr : Int) d hd HM4.out)
          by_cases hd16 : d + 1 ≤ 16
          · rw [decide_eq_true hd16, show dpA d ((at_ + 1 : Nat) : Int) nl = ((at_ + 1 : Nat) : Int) from if_pos hd16, show dpB d = 0 from if_pos hd16] at HD
            go_wp2_with fail
            refine HD.out.mono ?_
            rintro x w5 ⟨rfl, k5, h5⟩
            have K5 := Lw.hid (K4.out.tr (KB.km k5))
            have HE5 := Lw.hid (HE4.out.kept (KB.km k5))
            have HT5 := Lw.hid (k5.heap HT4.out htm)
            have HC5 := Lw.hid (HOH.out (n - 1) (by omega) (fun i => H i ∧ i ≠ tb) w5 (at_ + 1) (d + 1) sk wr lq r HE5.out (HTURN4.out w5 _ _ _ _ wr h5 k5) (by rw [HNL.out]; exact hlt2) HDR.out (by omega) hd16 (by omega) (by omega))
            obtain ⟨R1, hR1⟩ : ∃ R, rdA .one (d + 1) r = R := ⟨_, rfl⟩
            have HR1 := Lw.hid hR1
            rw [hR1] at HC5 HR
            clear h5 k5 hR1 HD
            go_wp2_with fail
            refine HC5.out.mono ?_
            rintro x w6 ⟨⟨v, at6, d6, sk6, b6, wr6, lq6, rfl, hv, h6, hcond⟩, k6⟩
            have HCO := Lw.hid hcond; have HV := Lw.hid hv
            have K6 := Lw.hid (K5.out.tr k6.back)
            have ht6 := k6.heap HT5.out (fun h => h.elim htm (fun e => e.2 rfl))
            have HT6 := Lw.hid ht6
            have y60 := heap_cell ht6 0; have y61 := heap_cell ht6 1
            have HE6 := Lw.hid (HE5.out.kept k6)
            obtain ⟨ad6, cap6, hm6, ho6, hb6⟩ := h6.st
            have HM6 := Lw.hid hm6; have HO6 := Lw.hid ho6; have HB6 := Lw.hid hb6
            obtain ⟨⟨p0, p1, p2, p3, p4, p5, p6, p7⟩, r1, r2, r3, r4, r5, r7⟩ := hm6.cells
            have HM7 := Lw.hid (hm6.setD (wrap64 (d6 - 1)))
            have HS7 := Lw.hid (MS.turn HM7.out ho6 hb6 ((KB.refl mb w6).set 2 _) (fun e => hlt.1 e.1))
            have K7 := Lw.hid (K6.out.set 2 (.int .i64 (wrap64 (d6 - 1))))
            clear hcond hv k6 ht6 h6 hm6 ho6 hb6 HC5 y40 y41 hw4
            go_wp2_with fail
            go_ret
            rw [HR.out]
            refine ⟨?_, K7.out⟩
            exact mp_of (v := aheadF [43] v) (aheadF_in _ HV.out) HS7.out.back (cond_un hd16 hrl HCO.out)
          · rw [decide_eq_false hd16, show dpA d ((at_ + 1 : Nat) : Int) nl = nl from if_neg hd16, show dpB d = 12 from if_neg hd16] at HD
            have HR2 : Hid (rdA .one d s = .error 12) := Lw.hid (by rw [HR.out]; exact dpR_no hd16)
            clear hd16
            go_wp2_with fail
            refine HD.out.mono ?_
            rintro x w5 ⟨rfl, k5, h5⟩
            have H5 := Lw.hid (HTURN4.out w5 _ _ _ _ wr h5 k5); have K5 := Lw.hid (K4.out.tr (KB.km k5))
            clear h5 k5
            go_wp2_with fail
            go_ret
            exact ⟨mp_err HR2.out zero_in (by rw [HNL.out]; exact H5.out.back), K5.out⟩
        · have HR := Lw.hid hR
          clear HC hR
          replace hw4 : ((wz.setCell ⟨tb, 0, none⟩ (.int .i64 3)).setCell ⟨tb, 1, none⟩ (.string (BA [33]))).setCell ⟨mb, 1, none⟩ (.int .i64 ((at_ : Int) + 1)) = w4 := hw4
          have y40 : w4.cell? ⟨tb, 0, none⟩ = some (.int .i64 3) := heap_cell HT4.out 0
          have y41 : w4.cell? ⟨tb, 1, none⟩ = some (.string (BA [33])) := heap_cell HT4.out 1
          have HD := Lw.hid (deeper_any w4 mb H (some ⟨g0, off, none⟩) nl capL vV (.slice ad lq.length cap) ((at_ + 1 : Nat) : Int) (sk : Int) (wr : Int) d hd HM4.out)
          by_cases hd16 : d + 1 ≤ 16
          · rw [decide_eq_true hd16, show dpA d ((at_ + 1 : Nat) : Int) nl = ((at_ + 1 : Nat) : Int) from if_pos hd16, show dpB d = 0 from if_pos hd16] at HD
            go_wp2_with fail
            refine HD.out.mono ?_
            rintro x w5 ⟨rfl, k5, h5⟩
            have K5 := Lw.hid (K4.out.tr (KB.km k5))
            have HE5 := Lw.hid (HE4.out.kept (KB.km k5))
            have HT5 := Lw.hid (k5.heap HT4.out htm)
            have HC5 := Lw.hid (HOH.out (n - 1) (by omega) (fun i => H i ∧ i ≠ tb) w5 (at_ + 1) (d + 1) sk wr lq r HE5.out (HTURN4.out w5 _ _ _ _ wr h5 k5) (by rw [HNL.out]; exact hlt2) HDR.out (by omega) hd16 (by omega) (by omega))
            obtain ⟨R1, hR1⟩ : ∃ R, rdA .one (d + 1) r = R := ⟨_, rfl⟩
            have HR1 := Lw.hid hR1
            rw [hR1] at HC5 HR
            clear h5 k5 hR1 HD
            go_wp2_with fail
            refine HC5.out.mono ?_
            rintro x w6 ⟨⟨v, at6, d6, sk6, b6, wr6, lq6, rfl, hv, h6, hcond⟩, k6⟩
            have HCO := Lw.hid hcond; have HV := Lw.hid hv
            have K6 := Lw.hid (K5.out.tr k6.back)
            have ht6 := k6.heap HT5.out (fun h => h.elim htm (fun e => e.2 rfl))
            have HT6 := Lw.hid ht6
            have y60 := heap_cell ht6 0; have y61 := heap_cell ht6 1
            have HE6 := Lw.hid (HE5.out.kept k6)
            obtain ⟨ad6, cap6, hm6, ho6, hb6⟩ := h6.st
            have HM6 := Lw.hid hm6; have HO6 := Lw.hid ho6; have HB6 := Lw.hid hb6
            obtain ⟨⟨p0, p1, p2, p3, p4, p5, p6, p7⟩, r1, r2, r3, r4, r5, r7⟩ := hm6.cells
            have HM7 := Lw.hid (hm6.setD (wrap64 (d6 - 1)))
            have HS7 := Lw.hid (MS.turn HM7.out ho6 hb6 ((KB.refl mb w6).set 2 _) (fun e => hlt.1 e.1))
            have K7 := Lw.hid (K6.out.set 2 (.int .i64 (wrap64 (d6 - 1))))
            clear hcond hv k6 ht6 h6 hm6 ho6 hb6 HC5 y40 y41 hw4
            by_cases hv0 : v = 0
            · have hq0 : (v == 0) = true := by simp [hv0]
              have HAV : Hid (aheadF [33] v = 1) := Lw.hid (by rw [hv0]; decide)
              clear hv0
              go_wp2_with fail
              go_ret
              rw [HR.out]
              refine ⟨?_, K7.out⟩
              have := mp_of (L := L) (vL := (.slice (some ⟨g0, off, none⟩) nl capL)) (vV := vV) (env := envV V) (d := d) (sk := sk) (wr := wr) (lq := lq) (s := s) (aheadF_in [33] HV.out) HS7.out.back (cond_un hd16 hrl HCO.out)
              rw [HAV.out] at this
              exact this
            · have hq0 : (v == 0) = false := by simp [hv0]
              have HAV : Hid (aheadF [33] v = 0) := Lw.hid (by unfold aheadF; rw [if_neg (by decide), if_pos rfl, hq0]; rfl)
              clear hv0
              go_wp2_with fail
              go_ret
              rw [HR.out]
              refine ⟨?_, K7.out⟩
              have := mp_of (L := L) (vL := (.slice (some ⟨g0, off, none⟩) nl capL)) (vV := vV) (env := envV V) (d := d) (sk := sk) (wr := wr) (lq := lq) (s := s) (aheadF_in [33] HV.out) HS7.out.back (cond_un hd16 hrl HCO.out)
              rw [HAV.out] at this
              exact this
          · rw [decide_eq_false hd16, show dpA d ((at_ + 1 : Nat) : Int) nl = nl from if_neg hd16, show dpB d = 12 from if_neg hd16] at HD
            have HR2 : Hid (rdA .one d s = .error 12) := Lw.hid (by rw [HR.out]; exact dpR_no hd16)
            clear hd16
            go_wp2_with fail
            refine HD.out.mono ?_
            rintro x w5 ⟨rfl, k5, h5⟩
            have H5 := Lw.hid (HTURN4.out w5 _ _ _ _ wr h5 k5); have K5 := Lw.hid (K4.out.tr (KB.km k5))
            clear h5 k5
            go_wp2_with fail
            go_ret
            exact ⟨mp_err HR2.out zero_in (by rw [HNL.out]; exact H5.out.back), K5.out⟩
        · have HR := Lw.hid hR
          clear HC hR
          replace hw4 : ((wz.setCell ⟨tb, 0, none⟩ (.int .i64 3)).setCell ⟨tb, 1, none⟩ (.string (BA [126]))).setCell ⟨mb, 1, none⟩ (.int .i64 ((at_ : Int) + 1)) = w4 := hw4
          have y40 : w4.cell? ⟨tb, 0, none⟩ = some (.int .i64 3) := heap_cell HT4.out 0
          have y41 : w4.cell? ⟨tb, 1, none⟩ = some (.string (BA [126])) := heap_cell HT4.out 1
          have HD := Lw.hid (deeper_any w4 mb H (some ⟨g0, off, none⟩) nl capL vV (.slice ad lq.length cap) ((at_ + 1 : Nat) : Int) (sk : Int) (wr : Int) d hd HM4.out)
          by_cases hd16 : d + 1 ≤ 16
          · rw [decide_eq_true hd16, show dpA d ((at_ + 1 : Nat) : Int) nl = ((at_ + 1 : Nat) : Int) from if_pos hd16, show dpB d = 0 from if_pos hd16] at HD
            go_wp2_with fail
            refine HD.out.mono ?_
            rintro x w5 ⟨rfl, k5, h5⟩
            have K5 := Lw.hid (K4.out.tr (KB.km k5))
            have HE5 := Lw.hid (HE4.out.kept (KB.km k5))
            have HT5 := Lw.hid (k5.heap HT4.out htm)
            have HC5 := Lw.hid (HOH.out (n - 1) (by omega) (fun i => H i ∧ i ≠ tb) w5 (at_ + 1) (d + 1) sk wr lq r HE5.out (HTURN4.out w5 _ _ _ _ wr h5 k5) (by rw [HNL.out]; exact hlt2) HDR.out (by omega) hd16 (by omega) (by omega))
            obtain ⟨R1, hR1⟩ : ∃ R, rdA .one (d + 1) r = R := ⟨_, rfl⟩
            have HR1 := Lw.hid hR1
            rw [hR1] at HC5 HR
            clear h5 k5 hR1 HD
            go_wp2_with fail
            refine HC5.out.mono ?_
            rintro x w6 ⟨⟨v, at6, d6, sk6, b6, wr6, lq6, rfl, hv, h6, hcond⟩, k6⟩
            have HCO := Lw.hid hcond; have HV := Lw.hid hv
            have K6 := Lw.hid (K5.out.tr k6.back)
            have ht6 := k6.heap HT5.out (fun h => h.elim htm (fun e => e.2 rfl))
            have HT6 := Lw.hid ht6
            have y60 := heap_cell ht6 0; have y61 := heap_cell ht6 1
            have HE6 := Lw.hid (HE5.out.kept k6)
            obtain ⟨ad6, cap6, hm6, ho6, hb6⟩ := h6.st
            have HM6 := Lw.hid hm6; have HO6 := Lw.hid ho6; have HB6 := Lw.hid hb6
            obtain ⟨⟨p0, p1, p2, p3, p4, p5, p6, p7⟩, r1, r2, r3, r4, r5, r7⟩ := hm6.cells
            have HM7 := Lw.hid (hm6.setD (wrap64 (d6 - 1)))
            have HS7 := Lw.hid (MS.turn HM7.out ho6 hb6 ((KB.refl mb w6).set 2 _) (fun e => hlt.1 e.1))
            have K7 := Lw.hid (K6.out.set 2 (.int .i64 (wrap64 (d6 - 1))))
            clear hcond hv k6 ht6 h6 hm6 ho6 hb6 HC5 y40 y41 hw4
            go_wp2_with fail
            go_ret
            rw [HR.out]
            refine ⟨?_, K7.out⟩
            rw [show wrap64 (wrap64 (-v) - 1) = aheadF [126] v by
              unfold aheadF
              rw [if_neg (by decide), if_neg (by decide), if_pos rfl, neg_not v HV.out]
              show _ = IntKind.i64.wrap (IntKind.i64.wrap (0 - v) - 1)
              rw [IntWalk.i64_left, IntWalk.i64_left, Int.zero_sub]]
            exact mp_of (aheadF_in _ HV.out) HS7.out.back (cond_un hd16 hrl HCO.out)
          · rw [decide_eq_false hd16, show dpA d ((at_ + 1 : Nat) : Int) nl = nl from if_neg hd16, show dpB d = 12 from if_neg hd16] at HD
            have HR2 : Hid (rdA .one d s = .error 12) := Lw.hid (by rw [HR.out]; exact dpR_no hd16)
            clear hd16
            go_wp2_with fail
            refine HD.out.mono ?_
            rintro x w5 ⟨rfl, k5, h5⟩
            have H5 := Lw.hid (HTURN4.out w5 _ _ _ _ wr h5 k5); have K5 := Lw.hid (K4.out.tr (KB.km k5))
            clear h5 k5
            go_wp2_with fail
            go_ret
            exact ⟨mp_err HR2.out zero_in (by rw [HNL.out]; exact H5.out.back), K5.out⟩
      · -- brackets
        subst hk
        subst ht
        have HR := Lw.hid hR
        clear HC hR
        replace hw4 : ((wz.setCell ⟨tb, 0, none⟩ (.int .i64 3)).setCell ⟨tb, 1, none⟩ (.string (BA [40]))).setCell ⟨mb, 1, none⟩ (.int .i64 ((at_ : Int) + 1)) = w4 := hw4
        have y40 : w4.cell? ⟨tb, 0, none⟩ = some (.int .i64 3) := heap_cell HT4.out 0
        have y41 : w4.cell? ⟨tb, 1, none⟩ = some (.string (BA [40])) := heap_cell HT4.out 1
        have HD := Lw.hid (deeper_any w4 mb H (some ⟨g0, off, none⟩) nl capL vV (.slice ad lq.length cap) ((at_ + 1 : Nat) : Int) (sk : Int) (wr : Int) d hd HM4.out)
        by_cases hd16 : d + 1 ≤ 16
        · rw [decide_eq_true hd16, show dpA d ((at_ + 1 : Nat) : Int) nl = ((at_ + 1 : Nat) : Int) from if_pos hd16, show dpB d = 0 from if_pos hd16] at HD
          go_wp2_with fail
          refine HD.out.mono ?_
          rintro x w5 ⟨rfl, k5, h5⟩
          have K5 := Lw.hid (K4.out.tr (KB.km k5))
          have HE5 := Lw.hid (HE4.out.kept (KB.km k5))
          have HT5 := Lw.hid (k5.heap HT4.out htm)
          have HC5 := Lw.hid (HAH.out (n - 1) (by omega) (fun i => H i ∧ i ≠ tb) w5 (at_ + 1) (d + 1) sk wr lq r HE5.out (HTURN4.out w5 _ _ _ _ wr h5 k5) (by rw [HNL.out]; exact hlt2) HDR.out (by omega) hd16 (by omega) (by omega))
          obtain ⟨R1, hR1⟩ : ∃ R, rdA .all (d + 1) r = R := ⟨_, rfl⟩
          have HR1 := Lw.hid hR1
          rw [hR1] at HC5 HR
          clear h5 k5 hR1 HD
          go_wp2_with fail
          refine HC5.out.mono ?_
          rintro x w6 ⟨⟨v, at6, d6, sk6, b6, wr6, lq6, rfl, hv, h6, hcond⟩, k6⟩
          have HCO := Lw.hid hcond; have HV := Lw.hid hv
          have K6 := Lw.hid (K5.out.tr k6.back)
          have ht6 := k6.heap HT5.out (fun h => h.elim htm (fun e => e.2 rfl))
          have HT6 := Lw.hid ht6
          have y60 := heap_cell ht6 0; have y61 := heap_cell ht6 1
          have HE6 := Lw.hid (HE5.out.kept k6)
          obtain ⟨ad6, cap6, hm6, ho6, hb6⟩ := h6.st
          have HM6 := Lw.hid hm6; have HO6 := Lw.hid ho6; have HB6 := Lw.hid hb6
          obtain ⟨⟨p0, p1, p2, p3, p4, p5, p6, p7⟩, r1, r2, r3, r4, r5, r7⟩ := hm6.cells
          have HM7 := Lw.hid (hm6.setD (wrap64 (d6 - 1)))
          have HS7 := Lw.hid (MS.turn HM7.out ho6 hb6 ((KB.refl mb w6).set 2 _) (fun e => hlt.1 e.1))
          have K7 := Lw.hid (K6.out.set 2 (.int .i64 (wrap64 (d6 - 1))))
          clear hcond hv k6 ht6 h6 hm6 ho6 hb6 HC5 y40 y41 hw4
          obtain ⟨w7, hw7⟩ : ∃ w7, w6.setCell ⟨mb, 2, none⟩ (.int .i64 (wrap64 (d6 - 1))) = w7 := ⟨_, rfl⟩
          rw [hw7] at HM7 HS7 K7
          have HE7 : Hid (MEnv w7 mb (fun i => H i ∧ i ≠ tb) L (.slice (some ⟨g0, off, none⟩) nl capL) V vV) := Lw.hid (by rw [← hw7]; exact HE6.out.kept ((KM.refl _ _ _).set 2 _))
          have hnl7 : nl ≤ L.length := by rw [HNL.out]; exact Nat.le_refl _
          rcases HCO.out with ⟨er, hRe, hat6, hb6⟩ | ⟨y, a, hRo, hat6, hd6, hsk6, hb6, hev, hal, hdy, hq1, hq2⟩
          · subst hb6
            subst hat6
            have her := rdA_ne (HR1.out.trans hRe)
            have HR2 : Hid (rdA .one d s = .error er) := Lw.hid (by rw [HR.out, dpR_ok hd16, hRe]; rfl)
            have HIS := Lw.hid (is_any w7 mb (fun i => H i ∧ i ≠ tb) L (.slice (some ⟨g0, off, none⟩) nl capL) V vV _ _ _ _ _ L.length [41] HE7.out HM7.out (Nat.le_refl _))
            rw [show isT L L.length [41] = false by unfold isT; rw [List.getElem?_eq_none (Nat.le_refl _)]] at HIS
            clear hRe
            go_wp2_with fail
            refine HIS.out.mono ?_
            rintro x w8 ⟨rfl, k8⟩
            obtain ⟨ad8, cap8, hm8, ho8, hb8⟩ := (HS7.out.keep k8).st
            have HBD := Lw.hid (bad_any w8 mb H (some ⟨g0, off, none⟩) nl capL vV _ _ _ _ _ er 5 hm8)
            have HO8 := Lw.hid ho8; have HB8 := Lw.hid hb8
            have K8 := Lw.hid (K7.out.tr (KM.of k8))
            rw [show errN er 5 = er from if_neg her] at HBD
            clear hm8 ho8 hb8 k8 HIS
            go_wp2_with fail
            refine HBD.out.mono ?_
            rintro x w9 ⟨rfl, h9, k9⟩
            have H9 := Lw.hid (MS.turn h9 HO8.out HB8.out k9 (fun e => hlt.1 e.1)); have K9 := Lw.hid (K8.out.tr (KB.km k9))
            clear h9 k9
            go_wp2_with fail
            go_ret
            exact ⟨mp_err HR2.out zero_in (by rw [HNL.out]; exact H9.out.back), K9.out⟩
          · subst hb6
            subst hat6
            subst hsk6
            have HDY := Lw.hid hdy; have HEV := Lw.hid hev
            have hd7 : Hid (wrap64 (d6 - 1) = (d : Int)) := Lw.hid (by unfold wrap64; omega)
            replace hw7 : w6.setCell ⟨mb, 2, none⟩ (.int .i64 (d : Int)) = w7 := by rw [← hd7.out]; exact hw7
            have HIS := Lw.hid (is_any w7 mb (fun i => H i ∧ i ≠ tb) L (.slice (some ⟨g0, off, none⟩) nl capL) V vV _ _ _ _ _ a [41] HE7.out HM7.out hal)
            rw [isT_sign hdy (by decide)] at HIS
            by_cases hcl : signF (trimA y.2) = [41]
            · obtain ⟨hdy2, hal2, hly⟩ := drop_sign hdy (by decide) hcl
              have HR2 : Hid (rdA .one d s = .ok (y.1, (trimA y.2).drop 1)) := Lw.hid (by rw [HR.out, dpR_ok hd16, hRo]; exact if_pos hcl)
              rw [decide_eq_true hcl] at HIS
              have HDY2 := Lw.hid hdy2
              clear hRo hdy hev hcl hdy2
              go_wp2_with fail
              refine HIS.out.mono ?_
              rintro x w8 ⟨rfl, k8⟩
              obtain ⟨ad8, cap8, hm8, ho8, hb8⟩ := (HS7.out.keep k8).st
              have HO8 := Lw.hid ho8; have HB8 := Lw.hid hb8
              have K8 := Lw.hid (K7.out.tr (KM.of k8))
              rw [hd7.out] at hm8
              obtain ⟨⟨q0, q1, q2, q3, q4, q5, q6, q7⟩, l1, l2, l3, l4, l5, l7⟩ := hm8.cells
              have HM9 := Lw.hid (hm8.setAt ((a : Int) + 1))
              have HS9 := Lw.hid (MS.turn HM9.out ho8 hb8 ((KB.refl mb w8).set 1 _) (fun e => hlt.1 e.1))
              have hal9 : a ≤ 1000 := by have := HNL.out; omega
              clear hm8 ho8 hb8 k8 HIS
              go_wp2_with fail
              go_ret
              exact ⟨mp_ok (at' := a + 1) HR2.out HEV.out HS9.out.back (by omega) HDY2.out (by have hly2 : ((trimA y.2).drop 1).length < y.2.length := hly; simp only; omega) (by have hly2 : ((trimA y.2).drop 1).length < y.2.length := hly; simp only; omega), K8.out.set 1 _⟩
            · have HR2 : Hid (rdA .one d s = .error 5) := Lw.hid (by rw [HR.out, dpR_ok hd16, hRo]; exact if_neg hcl)
              rw [decide_eq_false hcl] at HIS
              clear hRo hdy hev hcl
              go_wp2_with fail
              refine HIS.out.mono ?_
              rintro x w8 ⟨rfl, k8⟩
              obtain ⟨ad8, cap8, hm8, ho8, hb8⟩ := (HS7.out.keep k8).st
              have HBD := Lw.hid (bad_any w8 mb H (some ⟨g0, off, none⟩) nl capL vV _ _ _ _ _ 0 5 hm8)
              have HO8 := Lw.hid ho8; have HB8 := Lw.hid hb8
              have K8 := Lw.hid (K7.out.tr (KM.of k8))
              clear hm8 ho8 hb8 k8 HIS
              go_wp2_with fail
              refine HBD.out.mono ?_
              rintro x w9 ⟨rfl, h9, k9⟩
              have H9 := Lw.hid (MS.turn h9 HO8.out HB8.out k9 (fun e => hlt.1 e.1)); have K9 := Lw.hid (K8.out.tr (KB.km k9))
              clear h9 k9
              go_wp2_with fail
              go_ret
              exact ⟨mp_err HR2.out zero_in (by rw [HNL.out]; exact H9.out.back), K9.out⟩
        · rw [decide_eq_false hd16, show dpA d ((at_ + 1 : Nat) : Int) nl = nl from if_neg hd16, show dpB d = 12 from if_neg hd16] at HD
          have HR2 : Hid (rdA .one d s = .error 12) := Lw.hid (by rw [HR.out]; exact dpR_no hd16)
          clear hd16
          go_wp2_with fail
          refine HD.out.mono ?_
          rintro x w5 ⟨rfl, k5, h5⟩
          have H5 := Lw.hid (HTURN4.out w5 _ _ _ _ wr h5 k5); have K5 := Lw.hid (K4.out.tr (KB.km k5))
          clear h5 k5
          go_wp2_with fail
          go_ret
          exact ⟨mp_err HR2.out zero_in (by rw [HNL.out]; exact H5.out.back), K5.out⟩
      · -- a number
        subst hk
        have HR := Lw.hid hR
        clear HC hR
        replace hw4 : ((wz.setCell ⟨tb, 0, none⟩ (.int .i64 1)).setCell ⟨tb, 1, none⟩ (.string (BA t))).setCell ⟨mb, 1, none⟩ (.int .i64 ((at_ : Int) + 1)) = w4 := hw4
        have y40 : w4.cell? ⟨tb, 0, none⟩ = some (.int .i64 1) := heap_cell HT4.out 0
        have y41 : w4.cell? ⟨tb, 1, none⟩ = some (.string (BA t)) := heap_cell HT4.out 1
        have HQ := Lw.hid (number23_any w4 t (by omega) hdg)
        have HNM := Lw.hid (fun m (h : numR t 0 = some m) => numR_le hdg h)
        clear hdg
        cases hnr : numR t 0 with
        | none =>
          rw [hnr] at HQ
          unfold numV at HQ
          simp only at HQ
          have HR2 : Hid (rdA .one d s = .error 24) := Lw.hid (by rw [HR.out]; unfold numK; rw [hnr])
          clear hnr
          go_wp2_with fail
          refine HQ.out.mono ?_
          rintro x w5 ⟨rfl, h5⟩
          subst h5
          have HBD := Lw.hid (bad_any w5 mb H (some ⟨g0, off, none⟩) nl capL vV (.slice ad lq.length cap) ((at_ + 1 : Nat) : Int) (d : Int) (sk : Int) (wr : Int) 0 24 HM4.out)
          go_wp2_with fail
          refine HBD.out.mono ?_
          rintro x w6 ⟨rfl, h6, k6⟩
          have H6 := Lw.hid (HTURN4.out w6 _ _ _ _ wr h6 k6); have K6 := Lw.hid (K4.out.tr (KB.km k6))
          clear h6 k6
          go_wp2_with fail
          go_ret
          exact ⟨mp_err HR2.out zero_in (by rw [HNL.out]; exact H6.out.back), K6.out⟩
        | some m =>
          rw [hnr] at HQ
          unfold numV at HQ
          simp only at HQ
          have hm9 := HNM.out m hnr
          by_cases hbig : m = 9223372036854775808
          · have HR2 : Hid (rdA .one d s = .error 24) := Lw.hid (by rw [HR.out]; unfold numK; rw [hnr]; simp only; rw [if_pos hbig])
            have hbq : ((m : Int) == 9223372036854775808) = true := by rw [hbig]; rfl
            clear hnr hbig
            go_wp2_with fail
            refine HQ.out.mono ?_
            rintro x w5 ⟨rfl, h5⟩
            subst h5
            have HBD := Lw.hid (bad_any w5 mb H (some ⟨g0, off, none⟩) nl capL vV (.slice ad lq.length cap) ((at_ + 1 : Nat) : Int) (d : Int) (sk : Int) (wr : Int) 0 24 HM4.out)
            go_wp2_with fail
            refine HBD.out.mono ?_
            rintro x w6 ⟨rfl, h6, k6⟩
            have H6 := Lw.hid (HTURN4.out w6 _ _ _ _ wr h6 k6); have K6 := Lw.hid (K4.out.tr (KB.km k6))
            clear h6 k6
            go_wp2_with fail
            go_ret
            exact ⟨mp_err HR2.out zero_in (by rw [HNL.out]; exact H6.out.back), K6.out⟩
          · have HR2 : Hid (rdA .one d s = .ok (.num (m : Int), r)) := Lw.hid (by rw [HR.out]; unfold numK; rw [hnr]; simp only; rw [if_neg hbig])
            have hbq : ((m : Int) == 9223372036854775808) = false := beq_eq_false_iff_ne.2 (by omega)
            have hI64 : I64 (m : Int) := by unfold I64; omega
            clear hnr
            go_wp2_with fail
            refine HQ.out.mono ?_
            rintro x w5 ⟨rfl, h5⟩
            subst h5
            go_wp2_with fail
            go_ret
            refine ⟨?_, K4.out⟩
            first | rw [posw hm9 hbig] | skip
            exact mp_ok HR2.out (ev_num _ hI64 sk wr lq) HS4.out.back (by rw [HNL.out]; exact hlt2) HDR.out (by simp only; omega) (by simp only; omega)
      · -- a name
        subst hk
        replace hw4 : ((wz.setCell ⟨tb, 0, none⟩ (.int .i64 2)).setCell ⟨tb, 1, none⟩ (.string (BA t))).setCell ⟨mb, 1, none⟩ (.int .i64 ((at_ : Int) + 1)) = w4 := hw4
        have y40 : w4.cell? ⟨tb, 0, none⟩ = some (.int .i64 2) := heap_cell HT4.out 0
        have y41 : w4.cell? ⟨tb, 1, none⟩ = some (.string (BA t)) := heap_cell HT4.out 1
        have HR := Lw.hid hR
        clear HC hR
        by_cases hq : sk ≠ 0 ∨ wr ≠ 0
        · have HQ := Lw.hid (value_quiet w4 mb H (.slice (some ⟨g0, off, none⟩) nl capL) vV (.slice ad lq.length cap) ((at_ + 1 : Nat) : Int) (d : Int) 0 sk wr t HM4.out hq)
          go_wp2_with fail
          first | rw [hw4] | skip
          refine HQ.out.mono ?_
          rintro x w5 ⟨rfl, h5⟩
          subst h5
          go_wp2_with fail
          go_ret
          exact ⟨mp_ok HR.out (ev_quiet _ t hq lq) HS4.out.back (by rw [HNL.out]; exact hlt2) HDR.out (by simp only; omega) (by simp only; omega), K4.out⟩
        · obtain rfl : sk = 0 := by omega
          obtain rfl : wr = 0 := by omega
          have HQ := Lw.hid (value_live w4 mb (fun i => H i ∧ i ≠ tb) L (.slice (some ⟨g0, off, none⟩) nl capL) V vV ((at_ + 1 : Nat) : Int) (d : Int) 0 lq t HE4.out HS4.out hT1000 (by omega))
          obtain ⟨⟨vv, ve⟩, hvv⟩ : ∃ p, valR (envV V t) = p := ⟨_, rfl⟩
          rw [hvv] at HQ
          have HVV := Lw.hid hvv
          clear hvv
          go_wp2_with fail
          first | rw [hw4] | skip
          refine HQ.out.mono ?_
          rintro x w5 ⟨rfl, h5, k5⟩
          have H5 := Lw.hid h5; have K5 := Lw.hid (K4.out.tr k5.back)
          clear h5 k5
          go_wp2_with fail
          go_ret
          exact ⟨mp_ok HR.out (ev_name _ t lq HVV.out) H5.out.back (by rw [HNL.out]; exact hlt2) HDR.out (by simp only [List.length_append, List.length_cons, List.length_nil]; omega) (by simp only; omega), K5.out⟩
      · -- nothing that is known
        subst hk
        replace hw4 : ((wz.setCell ⟨tb, 0, none⟩ (.int .i64 3)).setCell ⟨tb, 1, none⟩ (.string (BA t))).setCell ⟨mb, 1, none⟩ (.int .i64 ((at_ : Int) + 1)) = w4 := hw4
        have y40 : w4.cell? ⟨tb, 0, none⟩ = some (.int .i64 3) := heap_cell HT4.out 0
        have y41 : w4.cell? ⟨tb, 1, none⟩ = some (.string (BA t)) := heap_cell HT4.out 1
        have HR := Lw.hid hR
        have e1 : (BA t == (⟨#[45]⟩ : ByteArray)) = false := beqC (h := [45]) (fun e => hn1 (by rw [e]; decide))
        have e2 : (BA t == (⟨#[43]⟩ : ByteArray)) = false := beqC (h := [43]) (fun e => hn1 (by rw [e]; decide))
        have e3 : (BA t == (⟨#[33]⟩ : ByteArray)) = false := beqC (h := [33]) (fun e => hn1 (by rw [e]; decide))
        have e4 : (BA t == (⟨#[126]⟩ : ByteArray)) = false := beqC (h := [126]) (fun e => hn1 (by rw [e]; decide))
        have d1 : (t == [45]) = false := beq_eq_false_iff_ne.2 (fun e => hn1 (by rw [e]; decide))
        have d2 : (t == [43]) = false := beq_eq_false_iff_ne.2 (fun e => hn1 (by rw [e]; decide))
        have d3 : (t == [33]) = false := beq_eq_false_iff_ne.2 (fun e => hn1 (by rw [e]; decide))
        have d4 : (t == [126]) = false := beq_eq_false_iff_ne.2 (fun e => hn1 (by rw [e]; decide))
        have d5 : (t == [40]) = false := beq_eq_false_iff_ne.2 hn2
        have e5 : (BA t == (⟨#[40]⟩ : ByteArray)) = false := beqC (h := [40]) hn2
        have HQ := Lw.hid (bad_any w4 mb H (some ⟨g0, off, none⟩) nl capL vV (.slice ad lq.length cap) ((at_ + 1 : Nat) : Int) (d : Int) (sk : Int) (wr : Int) 0 5 HM4.out)
        clear HC hR hn1 hn2
        go_wp2_with fail
        first | rw [hw4] | skip
        refine HQ.out.mono ?_
        rintro x w5 ⟨rfl, h5, k5⟩
        have H5 := Lw.hid (HTURN4.out w5 _ _ _ _ wr h5 k5); have K5 := Lw.hid (K4.out.tr (KB.km k5))
        clear h5 k5
        go_wp2_with fail
        go_ret
        exact ⟨mp_err HR.out zero_in (by rw [HNL.out]; exact H5.out.back), K5.out⟩
end Go.Proofs.YtoedopgjonhemaaGreatDoor
