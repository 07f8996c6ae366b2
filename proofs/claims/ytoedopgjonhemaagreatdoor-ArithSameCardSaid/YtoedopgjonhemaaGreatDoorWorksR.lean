/- ArithWorks, plain: what the document's machine has of an expression. -/
import Derived.Test.YtoedopgjonhemaaGreatDoorWorksQ
namespace Go.Proofs.YtoedopgjonhemaaGreatDoor
open Go Go.RowKit Go.Lw
set_option linter.unusedVariables false
set_option linter.unusedSimpArgs false
theorem truthI_in (b : Bool) : I64 (truthI b) := by cases b <;> (unfold truthI I64; simp)
theorem tmod_in {a b : Int} (ha : I64 a) (hb : I64 b) (h : b ≠ 0) : I64 (a.tmod b) := by rw [← rest_eq ha hb h]; exact wk_is _
theorem zero_in : I64 0 := by unfold I64; omega
theorem binF_in (g : List UInt8) {a b : Int} (ha : I64 a) (hb : I64 b) : I64 (binF g a b).1 := by
  have key : ∀ {c : Prop} [Decidable c] {x y : Int × Nat}, (c → I64 x.1) → (¬ c → I64 y.1) → I64 (if c then x else y).1 := by
    intro c _ x y h1 h2
    split
    · exact h1 (by assumption)
    · exact h2 (by assumption)
  unfold binF
  refine key (fun _ => wk_is _) fun _ => key (fun _ => wk_is _) fun _ => key (fun _ => wk_is _) fun _ => ?_
  refine key (fun _ => truthI_in _) fun _ => key (fun _ => truthI_in _) fun _ => key (fun _ => truthI_in _) fun _ => key (fun _ => truthI_in _) fun _ => key (fun _ => truthI_in _) fun _ => key (fun _ => truthI_in _) fun _ => ?_
  refine key (fun _ => key (fun _ => zero_in) fun _ => wk_is _) fun _ => key (fun _ => key (fun _ => zero_in) fun _ => ?_) fun _ => ?_
  · show I64 (a.fdiv (2 ^ b.toNat))
    rw [← shR_eq]; exact shR_in _ ha
  · refine key (fun _ => wk_is _) fun _ => key (fun _ => wk_is _) fun _ => key (fun _ => wk_is _) fun _ => ?_
    exact key (fun _ => zero_in) fun h => key (fun _ => wk_is _) fun _ => tmod_in ha hb (fun e => h (.inl e))
theorem aheadF_in (g : List UInt8) {a : Int} (ha : I64 a) : I64 (aheadF g a) := by
  unfold aheadF
  repeat' split
  all_goals first
    | exact wk_is _
    | exact truthI_in _
    | exact ha
theorem valR_in (s : List UInt8) : I64 (valR s).1 := by
  unfold valR
  split
  · exact zero_in
  · split
    · exact zero_in
    · rename_i hb
      have hb1 : (bareA s).all digitB = true := by
        cases hx : (bareA s).all digitB with
        | true => rfl
        | false => exact absurd (.inl hx) hb
      split
      · exact zero_in
      · rename_i n hn
        have := numR_le hb1 hn
        split
        · exact zero_in
        · rename_i h2
          unfold I64
          split
          · simp only; omega
          · rename_i h3
            have : n ≠ 9223372036854775808 := fun e => h2 ⟨h3, e⟩
            simp only; omega
/-- Value, error, names; sk: how many times what is read is not asked. -/
structure EvP (env : List UInt8 → List UInt8) (x : Ex) (sk wr : Nat) (as : List (List UInt8)) (v : Int) (wr' : Nat) (as' : List (List UInt8)) : Prop where
  isI : I64 v
  quiet : (sk ≠ 0 ∨ wr ≠ 0) → wr' = wr ∧ as' = as
  live : sk = 0 → wr = 0 → wr' = (ofF env x).e ∧ as' = as ++ (ofF env x).l ∧ ((ofF env x).e = 0 → v = (ofF env x).v)
theorem ev_num (env : List UInt8 → List UInt8) {n : Int} (h : I64 n) (sk wr : Nat) (as : List (List UInt8)) : EvP env (.num n) sk wr as n wr as :=
  ⟨h, fun _ => ⟨rfl, rfl⟩, fun _ h0 => ⟨h0, by simp [ofF], fun _ => rfl⟩⟩
theorem ev_quiet (env : List UInt8 → List UInt8) (s : List UInt8) {sk wr : Nat} (h : sk ≠ 0 ∨ wr ≠ 0) (as : List (List UInt8)) : EvP env (.name s) sk wr as 0 wr as :=
  ⟨zero_in, fun _ => ⟨rfl, rfl⟩, fun h1 h2 => by rcases h with h | h <;> exact absurd (by assumption) h⟩
theorem ev_name (env : List UInt8 → List UInt8) (s : List UInt8) (as : List (List UInt8)) {v : Int} {e : Nat} (h : valR (env s) = (v, e)) : EvP env (.name s) 0 0 as v e (as ++ [s]) := by
  have h2 := h
  rw [val_law] at h2
  refine ⟨by rw [show v = (valR (env s)).1 by rw [h]]; exact valR_in _, fun h0 => by omega, fun _ _ => ⟨?_, rfl, fun _ => ?_⟩⟩
  · show e = (valueF (env s)).2
    rw [h2]
  · show v = (valueF (env s)).1
    rw [h2]
theorem ev_un {env : List UInt8 → List UInt8} {x : Ex} {sk wr : Nat} {as : List (List UInt8)} {v : Int} {wr' : Nat} {as' : List (List UInt8)} (h : EvP env x sk wr as v wr' as') (g : List UInt8) : EvP env (.un g x) sk wr as (aheadF g v) wr' as' := by
  refine ⟨aheadF_in g h.isI, h.quiet, fun h1 h2 => ?_⟩
  obtain ⟨h3, h4, h5⟩ := h.live h1 h2
  exact ⟨h3, h4, fun he => by show aheadF g v = aheadF g _; rw [h5 he]⟩
/-- Is what stands behind this sign not asked? -/
def notF (g : List UInt8) (a : Int) : Bool := (g == [38, 38] && a == 0) || (g == [124, 124] && a != 0)
/-- What the machine makes of two values. -/
def doR (g : List UInt8) (sk : Nat) (a b : Int) (wr : Nat) : Int × Nat :=
  if g = [38, 38] then (truthI (a != 0 && b != 0), wr)
  else if g = [124, 124] then (truthI (a != 0 || b != 0), wr)
  else ((binF g a b).1, if sk = 0 ∧ wr = 0 then (binF g a b).2 else wr)
theorem ev_bin {env : List UInt8 → List UInt8} {x y : Ex} {g : List UInt8} {sk sk2 wr wr1 wr2 : Nat} {as as1 as2 : List (List UInt8)} {a b : Int} (hx : EvP env x sk wr as a wr1 as1) (hs : sk2 = if notF g a = true then sk + 1 else sk) (hy : EvP env y sk2 wr1 as1 b wr2 as2) :
    EvP env (.bin g x y) sk wr as (doR g sk a b wr2).1 (doR g sk a b wr2).2 as2 := by
  refine ⟨?_, fun hq => ?_, fun h1 h2 => ?_⟩
  · unfold doR
    split
    · exact truthI_in _
    · split
      · exact truthI_in _
      · exact binF_in g hx.isI hy.isI
  · obtain ⟨e1, e2⟩ := hx.quiet hq
    subst e1; subst e2
    obtain ⟨e3, e4⟩ := hy.quiet (by
      rcases hq with hq | hq
      · left; rw [hs]; split <;> omega
      · right; exact hq)
    subst e3; subst e4
    refine ⟨?_, rfl⟩
    unfold doR
    split
    · rfl
    · split
      · rfl
      · simp only
        rw [if_neg (by omega)]
  · subst h1; subst h2
    obtain ⟨e1, e2, e3⟩ := hx.live rfl rfl
    subst e1; subst e2
    by_cases he : (ofF env x).e = 0
    · have ha := e3 he
      subst ha
      by_cases hn : notF g (ofF env x).v = true
      · rw [if_pos hn] at hs
        subst hs
        obtain ⟨e4, e5⟩ := hy.quiet (.inl (by omega))
        subst e4; subst e5
        unfold notF at hn
        simp only [Bool.or_eq_true, Bool.and_eq_true, beq_iff_eq, bne_iff_ne] at hn
        rcases hn with ⟨rfl, hv⟩ | ⟨rfl, hv⟩
        · simp [doR, ofF, he, hv, truthI]
        · simp [doR, ofF, he, hv, truthI]
      · rw [if_neg hn] at hs
        subst hs
        rw [he] at hy
        obtain ⟨e4, e5, e6⟩ := hy.live rfl rfl
        subst e4; subst e5
        unfold notF at hn
        simp only [Bool.or_eq_true, Bool.and_eq_true, beq_iff_eq, bne_iff_ne, not_or, not_and, Decidable.not_not] at hn
        obtain ⟨hn1, hn2⟩ := hn
        by_cases g1 : g = [38, 38]
        · subst g1
          have hv := hn1 rfl
          have hvn : ((ofF env x).v != 0) = true := by simpa using hv
          simp only [doR, ofF, he, hv, if_true, ne_eq, not_true, not_false_eq_true, if_false, true_and, hvn, Bool.true_and, List.append_assoc]
          intro e
          rw [e6 e]
        · by_cases g2 : g = [124, 124]
          · subst g2
            have hv := hn2 rfl
            have gg : ¬ ([124, 124] : List UInt8) = [38, 38] := by decide
            simp only [doR, ofF, he, hv, if_neg gg, if_true, ne_eq, not_true, not_false_eq_true, if_false, true_and, List.append_assoc, bne_self_eq_false, Bool.false_or]
            intro e
            rw [e6 e]
          · by_cases hb : (ofF env y).e = 0
            · have hb2 := e6 hb
              subst hb2
              simp [doR, ofF, he, g1, g2, hb, List.append_assoc]
            · simp only [doR, ofF, he, g1, g2, hb, if_true, ne_eq, not_true, not_false_eq_true, if_false, and_false, List.append_assoc, true_and]
              intro e; exact e.elim
    · obtain ⟨e4, e5⟩ := hy.quiet (.inr he)
      subst e4; subst e5
      unfold doR
      by_cases g1 : g = [38, 38]
      · simp [ofF, he, g1]
      · by_cases g2 : g = [124, 124]
        · simp [ofF, he, g2]
        · simp [ofF, he, g1, g2]
theorem ev_cond {env : List UInt8 → List UInt8} {x y z : Ex} {sk sk1 sk2 wr wr1 wr2 wr3 : Nat} {as as1 as2 as3 : List (List UInt8)} {a b c : Int} (hx : EvP env x sk wr as a wr1 as1)
    (h1 : sk1 = if a = 0 then sk + 1 else sk) (hy : EvP env y sk1 wr1 as1 b wr2 as2) (h2 : sk2 = if a ≠ 0 then sk + 1 else sk) (hz : EvP env z sk2 wr2 as2 c wr3 as3) :
    EvP env (.cond x y z) sk wr as (if a ≠ 0 then b else c) wr3 as3 := by
  refine ⟨?_, fun hq => ?_, fun k1 k2 => ?_⟩
  · split
    · exact hy.isI
    · exact hz.isI
  · obtain ⟨e1, e2⟩ := hx.quiet hq
    subst e1; subst e2
    obtain ⟨e3, e4⟩ := hy.quiet (by
      rcases hq with hq | hq
      · left; rw [h1]; split <;> omega
      · right; exact hq)
    subst e3; subst e4
    exact hz.quiet (by
      rcases hq with hq | hq
      · left; rw [h2]; split <;> omega
      · right; exact hq)
  · subst k1; subst k2
    obtain ⟨e1, e2, e3⟩ := hx.live rfl rfl
    subst e1; subst e2
    by_cases he : (ofF env x).e = 0
    · have ha := e3 he
      subst ha
      rw [he] at hy
      by_cases hv : (ofF env x).v = 0
      · rw [if_pos hv] at h1
        rw [if_neg (by simp [hv])] at h2
        subst h1; subst h2
        obtain ⟨e4, e5⟩ := hy.quiet (.inl (by omega))
        subst e4; subst e5
        obtain ⟨e6, e7, e8⟩ := hz.live rfl rfl
        subst e6; subst e7
        simp only [ofF, he, hv, ne_eq, not_true, if_false, if_true, List.append_assoc, true_and]
        exact e8
      · rw [if_neg hv] at h1
        rw [if_pos hv] at h2
        subst h1; subst h2
        obtain ⟨e4, e5, e6⟩ := hy.live rfl rfl
        subst e4; subst e5
        obtain ⟨e7, e8⟩ := hz.quiet (.inl (by omega))
        subst e7; subst e8
        simp only [ofF, he, hv, ne_eq, not_true, not_false_eq_true, if_false, if_true, List.append_assoc, true_and]
        exact e6
    · obtain ⟨e4, e5⟩ := hy.quiet (.inr he)
      subst e4; subst e5
      obtain ⟨e6, e7⟩ := hz.quiet (.inr he)
      subst e6; subst e7
      simp [ofF, he]
end Go.Proofs.YtoedopgjonhemaaGreatDoor
