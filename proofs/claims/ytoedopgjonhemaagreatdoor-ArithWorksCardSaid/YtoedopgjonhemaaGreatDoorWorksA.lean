/- ArithWorks: the document's Eval. -/
import Derived.Test.YtoedopgjonhemaaGreatDoorWorks8
import Derived.Test.YtoedopgjonhemaaGreatDoorWorks9
import Derived.Test.YtoedopgjonhemaaGreatDoorArith12
namespace Go.Proofs.YtoedopgjonhemaaGreatDoor
open Go Go.RowKit Go.Lw
set_option maxRecDepth 100000
set_option linter.unusedVariables false
set_option linter.unusedSimpArgs false
attribute [local go_sem] BA_toList
/-- What the document's Eval promises. -/
def RefPost (w : World) (env : List UInt8 → List UInt8) (s : List UInt8) (x : Ending) (w' : World) : Prop :=
  (∃ (ad : Option Addr) (cap : Nat), x = .returned (.tuple #[.int .i64 (evalF env s).v, .int .i64 ((evalF env s).e : Int), .int .i64 (errT s : Int), .slice ad (evalF env s).l.length cap]) ∧ w'.ownsRow 0 9 1 (.slice ad (evalF env s).l.length cap) (evalF env s).l.length ((evalF env s).l.map sV2)) ∧ Kept (fun _ => False) w w'
theorem refp_err {w w' : World} {env : List UInt8 → List UInt8} {s : List UInt8} {er : Nat} (h : readT s = .error er) (k : Kept (fun _ => False) w w') : RefPost w env s (.returned (.tuple #[.int .i64 0, .int .i64 (er : Int), .int .i64 (er : Int), .slice none 0 0])) w' := by
  have e1 : evalF env s = ⟨0, er, []⟩ := evalF_err h
  have e2 : errT s = er := by unfold errT errR; rw [h]
  unfold RefPost
  rw [e1, e2]
  exact ⟨⟨none, 0, rfl, World.ownsRow_nil _ _ _ _⟩, k⟩
theorem refp_ok {w w' : World} {env : List UInt8 → List UInt8} {s : List UInt8} {x : Ex} {v : Int} {e : Nat} {l : List (List UInt8)} {ad : Option Addr} {cap : Nat} (h : readT s = .ok x) (he : (ofF env x).e = e) (hl : (ofF env x).l = l) (hv : v = if e ≠ 0 then 0 else (ofF env x).v) (ho : w'.ownsRow 0 9 1 (.slice ad l.length cap) l.length (l.map sV2)) (k : Kept (fun _ => False) w w') : RefPost w env s (.returned (.tuple #[.int .i64 v, .int .i64 (e : Int), .int .i64 0, .slice ad l.length cap])) w' := by
  have e1 : evalF env s = ⟨v, e, l⟩ := by
    rw [evalF_ok h]
    unfold evR
    rw [he, hl, hv]
    by_cases h0 : e = 0
    · rw [if_neg (fun h => h h0), if_neg (fun h => h h0), h0]
    · rw [if_pos h0, if_pos h0]
  have e2 : errT s = 0 := by unfold errT errR; rw [h]
  unfold RefPost
  rw [e1, e2]
  exact ⟨⟨ad, cap, rfl, ho⟩, k⟩
set_option maxHeartbeats 16000000 in
theorem eval23_any (w : World) (s : List UInt8) (V : List (List UInt8 × List UInt8)) (vV : Value) (hs9 : s.length ≤ 1000) (hV : Rd w 2 vV V.length (V.flatMap vrC)) (hVb : ∀ k, blk vV k → k < w.heap.size) (nV : V.length ≤ 1000) (nX : ∀ p ∈ V, p.1.length ≤ 1000 ∧ p.2.length ≤ 1000) :
    Calls Tryz.prog 6 #[.string (BA s), vV] w (RefPost w (envV V) s) := by
  have HT := Lw.hid (tokens_any w s hs9)
  have HV := Lw.hid hV
  obtain ⟨htx1, htx2⟩ := tokF_txt s
  obtain ⟨aV, cV, hvv⟩ : ∃ a c, vV = .slice a V.length c := by obtain ⟨_, a, c, e, _⟩ := hV; exact ⟨a, c, e⟩
  subst hvv
  obtain ⟨L, hL⟩ : ∃ L, tokF s = L := ⟨_, rfl⟩
  have HL := Lw.hid hL
  rw [hL] at HT htx1 htx2
  clear hL hV
  go_enter Tryz.func6, Tryz.ntmps6
  go_wp2_with fail
  refine HT.out.mono ?_
  rintro x w1 ⟨⟨ad, cap, rfl, ho, hb⟩, k1⟩
  obtain ⟨mb, hmb⟩ : ∃ mb, w1.heap.size = mb := ⟨_, rfl⟩
  obtain ⟨w2, hw2⟩ : ∃ w2, w1.alloc (.cells #[.slice ad L.length cap, .int .i64 0, .int .i64 0, .int .i64 0, .int .i64 0, .int .i64 0, (.slice aV V.length cV), .slice none 0 0] 50) = w2 := ⟨_, rfl⟩
  have k2 : Kept (fun _ => False) w1 w2 := by rw [← hw2]; exact (Kept.refl _ _).alloc _
  have hz2 : w2.heap.size = mb + 1 := by rw [← hw2, ← hmb]; simp
  have hmc : MC w2 mb (.slice ad L.length cap) (.slice aV V.length cV) (.slice none 0 0) ((0 : Nat) : Int) ((0 : Nat) : Int) ((0 : Nat) : Int) 0 ((0 : Nat) : Int) := by rw [← hw2, ← hmb]; exact heap_alloc w1 _
  have hw1z := k1.size
  have hE : MEnv w2 mb (fun i => mb + 1 ≤ i) L (.slice ad L.length cap) V (.slice aV V.length cV) := by
    refine ⟨(Rd.own ho).kept k2 (fun _ _ h => h), fun k hk => ?_, (HV.out.kept (k1.trans k2 (fun _ _ h => h)) (fun _ _ h => h)), fun k hk => ?_, ⟨by omega, by omega, fun i hi => by omega⟩, by omega, fun t ht => by have := htx1 t ht; omega, nV, nX⟩
    · have := own_lt ho k hk; omega
    · have := hVb k hk; omega
  have hS : MS w2 mb (fun i => mb + 1 ≤ i) (.slice ad L.length cap) (.slice aV V.length cV) ((0 : Nat) : Int) ((0 : Nat) : Int) ((0 : Nat) : Int) 0 0 [] := ⟨none, 0, hmc, World.ownsRow_nil _ _ _ _, fun k hk => (blk_none hk).elim⟩
  have hC := (machine_all mb L (.slice ad L.length cap) V (.slice aV V.length cV) s.length).2.2 (fun i => mb + 1 ≤ i) w2 0 0 0 0 [] s hE hS (Nat.zero_le _) HL.out.symm (Nat.le_refl _) (by decide) (by omega) (by simp only [List.length_nil]; omega)
  have HC := Lw.hid hC
  have KW : Hid (∀ wx, KM mb (fun i => mb + 1 ≤ i) w2 wx → Kept (fun _ => False) w wx) := Lw.hid (fun wx k => (k1.trans k2 (fun _ _ h => h)).trans k (fun i hi h => by rcases h with e | e <;> omega))
  obtain ⟨nl, hnl⟩ : ∃ nl, L.length = nl := ⟨_, rfl⟩
  have HNL := Lw.hid hnl
  rw [hnl] at HC hw2
  have hn9 : nl ≤ 1000 := by omega
  clear ho hb k1 k2 hmc hE hS hC hnl HT HV htx1 htx2
  rw [HNL.out]
  go_wp2_with fail
  first | rw [hmb] | skip
  first | rw [hw2] | skip
  refine HC.out.mono ?_
  rintro x w3 ⟨⟨v, at3, d3, sk3, b3, wr3, lq3, rfl, hv, h3, hcond⟩, k3⟩
  have K3 := Lw.hid (KW.out w3 k3)
  obtain ⟨ad3, cap3, hm3, ho3, hb3⟩ := h3.st
  have HM3 := Lw.hid hm3; have HO3 := Lw.hid ho3; have HB3 := Lw.hid hb3
  clear h3 k3 ho3 hb3 HC
  have hreadT : readT s = match rdA .all 0 s with | .error e => .error e | .ok x => if trimA x.2 = [] then .ok x.1 else .error 5 := rfl
  rcases hcond with ⟨er, hRe, hat, hbe⟩ | ⟨y, a, hRo, hat, hd3, hsk3, hbe, hev, hal, hdy, hq1, hq2⟩
  · subst hbe
    have her := rdA_ne hRe
    have HRT : Hid (readT s = .error er) := Lw.hid (by rw [hreadT, hRe])
    rw [HNL.out] at hat
    subst hat
    have hne : ((er : Int) != 0) = true := by rw [bne_iff_ne]; omega
    have hlt : decide ((nl : Int) < (nl : Int)) = false := decide_eq_false (by omega)
    obtain ⟨⟨c0, c1, c2, c3, c4, c5, c6, c7⟩, f1, f2, f3, f4, f5, f7⟩ := hm3.cells
    clear hm3 hreadT hRe
    go_wp2_with fail
    go_quiet (fail)
    obtain ⟨wq, hwq⟩ : ∃ wq, w3.drewN nq = wq := ⟨_, rfl⟩
    have KQ : Hid (Kept (fun _ => False) w3 wq) := Lw.hid (by rw [← hwq]; exact kept_drewN' _ _)
    rw [hwq]
    clear hwq c0 c1 c2 c3 c4 c5 c6 c7 f1 f2 f3 f4 f5 f7
    obtain ⟨⟨c0, c1, c2, c3, c4, c5, c6, c7⟩, f1, f2, f3, f4, f5, f7⟩ := (HM3.out.kept KQ.out (fun h => h)).cells
    go_wp2_with fail
    go_quiet (fail)
    go_wp2_with fail
    refine bodyPost_ret (v := .tuple #[.int .i64 0, .int .i64 (er : Int), .int .i64 (er : Int), .slice none 0 0]) (by first | rfl | simp [results, go_sem]) rfl ?_
    exact refp_err HRT.out ((K3.out.trans KQ.out (fun _ _ h => h)).trans (kept_drewN' _ _) (fun _ _ h => h))
  · subst hbe
    subst hat
    by_cases hend : trimA y.2 = []
    · have HRT : Hid (readT s = .ok y.1) := Lw.hid (by rw [hreadT, hRo]; simp only; rw [if_pos hend])
      have hat : a = nl := by
        have := drop_nil (hdy.trans (tok_end hend)) hal
        rw [HNL.out] at this; exact this
      subst hat
      obtain ⟨hl1, hl2, hl3⟩ := hev.live rfl rfl
      rw [List.nil_append] at hl2
      have HL1 := Lw.hid hl1; have HL2 := Lw.hid hl2; have HL3 := Lw.hid hl3
      have hlt : decide ((a : Int) < (a : Int)) = false := decide_eq_false (by omega)
      obtain ⟨⟨c0, c1, c2, c3, c4, c5, c6, c7⟩, f1, f2, f3, f4, f5, f7⟩ := hm3.cells
      clear hm3 hreadT hRo hev hdy hl1 hl2 hl3
      by_cases h0 : wr3 = 0
      · subst h0
        go_wp2_with fail
        go_quiet (fail)
        obtain ⟨wq, hwq⟩ : ∃ wq, w3.drewN nq = wq := ⟨_, rfl⟩
        have KQ : Hid (Kept (fun _ => False) w3 wq) := Lw.hid (by rw [← hwq]; exact kept_drewN' _ _)
        rw [hwq]
        clear hwq c0 c1 c2 c3 c4 c5 c6 c7 f1 f2 f3 f4 f5 f7
        obtain ⟨⟨c0, c1, c2, c3, c4, c5, c6, c7⟩, f1, f2, f3, f4, f5, f7⟩ := (HM3.out.kept KQ.out (fun h => h)).cells
        go_wp2_with fail
        go_quiet (fail)
        go_wp2_with fail
        refine bodyPost_ret (v := .tuple #[.int .i64 v, .int .i64 ((0 : Nat) : Int), .int .i64 0, .slice ad3 lq3.length cap3]) (by first | rfl | simp [results, go_sem]) rfl ?_
        exact refp_ok HRT.out HL1.out.symm HL2.out.symm (by rw [if_neg (fun h => h rfl)]; exact HL3.out HL1.out.symm) (own_kept (KQ.out.trans (kept_drewN' _ _) (fun _ _ h => h)) HO3.out (fun _ _ h => h)) ((K3.out.trans KQ.out (fun _ _ h => h)).trans (kept_drewN' _ _) (fun _ _ h => h))
      · have hne : ((wr3 : Int) != 0) = true := by rw [bne_iff_ne]; omega
        go_wp2_with fail
        go_quiet (fail)
        obtain ⟨wq, hwq⟩ : ∃ wq, w3.drewN nq = wq := ⟨_, rfl⟩
        have KQ : Hid (Kept (fun _ => False) w3 wq) := Lw.hid (by rw [← hwq]; exact kept_drewN' _ _)
        rw [hwq]
        clear hwq c0 c1 c2 c3 c4 c5 c6 c7 f1 f2 f3 f4 f5 f7
        obtain ⟨⟨c0, c1, c2, c3, c4, c5, c6, c7⟩, f1, f2, f3, f4, f5, f7⟩ := (HM3.out.kept KQ.out (fun h => h)).cells
        go_wp2_with fail
        go_quiet (fail)
        go_wp2_with fail
        refine bodyPost_ret (v := .tuple #[.int .i64 0, .int .i64 (wr3 : Int), .int .i64 0, .slice ad3 lq3.length cap3]) (by first | rfl | simp [results, go_sem]) rfl ?_
        exact refp_ok HRT.out HL1.out.symm HL2.out.symm (by rw [if_pos h0]) (own_kept (KQ.out.trans (kept_drewN' _ _) (fun _ _ h => h)) HO3.out (fun _ _ h => h)) ((K3.out.trans KQ.out (fun _ _ h => h)).trans (kept_drewN' _ _) (fun _ _ h => h))
    · have HRT : Hid (readT s = .error 5) := Lw.hid (by rw [hreadT, hRo]; simp only; rw [if_neg hend])
      have hat : a < nl := by
        rcases Nat.lt_or_ge a nl with h | h
        · exact h
        · exfalso
          refine hend (trim_ne_tok ?_)
          rw [← hdy]
          exact List.drop_eq_nil_of_le (by rw [HNL.out]; exact h)
      have hlt : decide ((a : Int) < (nl : Int)) = true := decide_eq_true (by omega)
      obtain ⟨⟨c0, c1, c2, c3, c4, c5, c6, c7⟩, f1, f2, f3, f4, f5, f7⟩ := hm3.cells
      have HBD := Lw.hid (fun wq (k : Kept (fun _ => False) w3 wq) => bad_any wq mb (fun i => mb + 1 ≤ i) ad nl cap (.slice aV V.length cV) _ _ _ _ _ 0 5 (HM3.out.kept k (fun h => h)))
      clear hm3 hreadT hRo hev hdy
      go_wp2_with fail
      go_quiet (fail)
      go_wp2_with fail
      refine (HBD.out _ (kept_drewN' _ _)).mono ?_
      rintro x w4 ⟨rfl, h4, k4⟩
      have K4 : Hid (Kept (fun _ => False) w w4) := Lw.hid (by
        have := KB.km (H := fun i => mb + 1 ≤ i) k4
        exact (K3.out.trans (kept_drewN' _ _) (fun _ _ h => h)).trans k4 (fun i hi e => by omega))
      obtain ⟨⟨c0, c1, c2, c3, c4, c5, c6, c7⟩, f1, f2, f3, f4, f5, f7⟩ := h4.cells
      rw [show ((errN 0 5 : Nat) : Int) = 5 from rfl] at c4
      clear h4 k4
      go_wp2_with fail
      go_quiet (fail)
      go_wp2_with fail
      refine bodyPost_ret (v := .tuple #[.int .i64 0, .int .i64 ((5 : Nat) : Int), .int .i64 ((5 : Nat) : Int), .slice none 0 0]) (by first | rfl | simp [results, go_sem]) rfl ?_
      exact refp_err HRT.out (K4.out.trans (kept_drewN' _ _) (fun _ _ h => h))
end Go.Proofs.YtoedopgjonhemaaGreatDoor
