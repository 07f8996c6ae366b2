/- ArithNumbers: the second map literal, whose inserts come in any order: what holds of the worlds on the way. -/
import Derived.Test.YtoedopgjonhemaaDoorNumbersQ
import Derived.Test.YtoedopgjonhemaaDoorBMap
import Derived.Test.YtoedopgjonhemaaDoorSetLaw
namespace Go.Proofs.YtoedopgjonhemaaDoor
open Go Go.RowKit Go.Lw
set_option linter.unusedVariables false
set_option linter.unusedSimpArgs false
def chN (a b : Int) : Int := if a ≠ 0 then b else 3
theorem chN_t {a : Int} (h : (a != 0) = true) (b : Int) : (if true = true then some (Value.int .i64 b) else some (.int .i64 3)) = some (.int .i64 (chN a b)) := by
  have h0 : a ≠ 0 := by simpa using h
  unfold chN
  rw [if_pos h0, if_pos rfl]
theorem chN_f {a : Int} (h : (a != 0) = false) (b : Int) : (if false = true then some (Value.int .i64 b) else some (.int .i64 3)) = some (.int .i64 (chN a b)) := by
  have h0 : ¬ (a ≠ 0) := by simpa using h
  unfold chN
  rw [if_neg h0, if_neg (by decide)]
/-- The inserts: the operation, the key, the value. -/
def insN (a b : Int) : List (Nat × List UInt8 × Value) := [(3, [45, 120], .int .i64 (aheadF [45] a)), (5, [43, 120], .int .i64 a), (10, [33, 120], .int .i64 (aheadF [33] a)), (13, [126, 120], .int .i64 (aheadF [126] a)),
  (18, [120, 60, 60, 40, 121, 38, 54, 51, 41], .int .i64 (binF [60, 60] a (b % 64)).1), (23, [120, 62, 62, 40, 121, 38, 54, 51, 41], .int .i64 (binF [62, 62] a (b % 64)).1), (32, [120, 63, 121, 58, 51], .int .i64 (chN a b))]
theorem insN_ids (a b : Int) : (insN a b).map (fun p => p.1) = [3, 5, 10, 13, 18, 23, 32] := rfl
theorem insN_keys (a b : Int) : (insN a b).map (fun p => p.2.1) = [[45, 120], [43, 120], [33, 120], [126, 120], [120, 60, 60, 40, 121, 38, 54, 51, 41], [120, 62, 62, 40, 121, 38, 54, 51, 41], [120, 63, 121, 58, 51]] := rfl
abbrev Gn : Type := Option Nat × Option Nat
/-- The set with one more. -/
abbrev ad1 (D : Nat → Bool) (j : Nat) : Nat → Bool := fun k => if k = j then true else D k
structure NI (wr : World) (P : Program) (ks kb : TypeId) (a b : Int) (D : Nat → Bool) (γ : Gn) (w : World) : Prop where
  kept : Kept (fun _ => False) wr w
  m1 : D 0 = true → ∃ b1, γ.1 = some b1 ∧ SMap wr w P ks b1 (selD D (insN a b)).length (selD D (insN a b))
  m2 : D 24 = true → ∃ b2, γ.2 = some b2 ∧ BMap wr w P kb b2 ((if D 26 then 1 else 0) + (if D 27 then 1 else 0)) (if D 26 then some (.int .i64 b) else none) (if D 27 then some (.int .i64 3) else none)
  n1 : D 0 = false → γ.1 = none ∧ ∀ p ∈ insN a b, D p.1 = false
  n2 : D 24 = false → γ.2 = none ∧ D 26 = false ∧ D 27 = false
  ne : ∀ b1 b2, γ.1 = some b1 → γ.2 = some b2 → b1 ≠ b2
  mv : D 28 = true → D 24 = true ∧ D 26 = true ∧ D 27 = true
def nR (γ : Gn) (_ : World) (γ' : Gn) (_ : World) : Prop := (∀ b, γ.1 = some b → γ'.1 = some b) ∧ (∀ b, γ.2 = some b → γ'.2 = some b)
theorem nR_refl (γ : Gn) (w w' : World) : nR γ w γ w' := ⟨fun _ h => h, fun _ h => h⟩
def gM1 : StableG nR := ⟨fun v γ _ => ∃ b, v = .map (some b) ∧ γ.1 = some b, fun v γ w γ' w' hr ⟨b, h1, h2⟩ => ⟨b, h1, hr.1 b h2⟩⟩
def gM2 : StableG nR := ⟨fun v γ _ => ∃ b, v = .map (some b) ∧ γ.2 = some b, fun v γ w γ' w' hr ⟨b, h1, h2⟩ => ⟨b, h1, hr.2 b h2⟩⟩
variable {wr w w' : World} {P : Program} {ks kb : TypeId} {a b : Int} {D : Nat → Bool} {γ : Gn}
theorem NI.start (hk : Kept (fun _ => False) wr w) : NI wr P ks kb a b (fun _ => false) (none, none) w :=
  ⟨hk, fun h => (by cases h), fun h => (by cases h), fun _ => ⟨rfl, fun _ _ => rfl⟩, fun _ => ⟨rfl, rfl, rfl⟩, fun _ _ h => (by cases h), fun h => (by cases h)⟩
theorem ad1_ne {j k : Nat} (h : k ≠ j) : ad1 D j k = D k := if_neg h
theorem ad1_eq {j : Nat} : ad1 D j j = true := if_pos rfl
theorem sel_ad {j : Nat} (h : ∀ p ∈ insN a b, p.1 ≠ j) : selD (ad1 D j) (insN a b) = selD D (insN a b) := selD_other fun p hp => ad1_ne (h p hp)
theorem ins_ne {j : Nat} (h : j ∉ [3, 5, 10, 13, 18, 23, 32]) : ∀ p ∈ insN a b, p.1 ≠ j := fun p hp e => h (by rw [← insN_ids a b, ← e]; exact List.mem_map_of_mem hp)
/-- An operation that touches no map. -/
theorem NI.pure (h : NI wr P ks kb a b D γ w) {j : Nat} (hj : j ∉ [3, 5, 10, 13, 18, 23, 32, 0, 24, 26, 27, 28]) : NI wr P ks kb a b (ad1 D j) γ w := by
  simp only [List.mem_cons, not_or, List.not_mem_nil, not_false_eq_true, and_true] at hj
  obtain ⟨j1, j2, j3, j4, j5, j6, j7, j8, j9, j10, j11, j12⟩ := hj
  have hs : ∀ p ∈ insN a b, p.1 ≠ j := ins_ne (by simp [*])
  refine ⟨h.kept, fun h0 => ?_, fun h0 => ?_, fun h0 => ?_, fun h0 => ?_, h.ne, fun h0 => ?_⟩
  · rw [ad1_ne (Ne.symm j8)] at h0; rw [sel_ad hs]; exact h.m1 h0
  · rw [ad1_ne (Ne.symm j9)] at h0; rw [ad1_ne (Ne.symm j10), ad1_ne (Ne.symm j11)]; exact h.m2 h0
  · rw [ad1_ne (Ne.symm j8)] at h0; obtain ⟨r1, r2⟩ := h.n1 h0; exact ⟨r1, fun p hp => by rw [ad1_ne (hs p hp)]; exact r2 p hp⟩
  · rw [ad1_ne (Ne.symm j9)] at h0; rw [ad1_ne (Ne.symm j10), ad1_ne (Ne.symm j11)]; exact h.n2 h0
  · rw [ad1_ne (Ne.symm j12)] at h0; rw [ad1_ne (Ne.symm j9), ad1_ne (Ne.symm j10), ad1_ne (Ne.symm j11)]; exact h.mv h0
theorem NI.move (h : NI wr P ks kb a b D γ w) (h24 : D 24 = true) (h26 : D 26 = true) (h27 : D 27 = true) : NI wr P ks kb a b (ad1 D 28) γ w := by
  have hs : ∀ p ∈ insN a b, p.1 ≠ 28 := ins_ne (by decide)
  refine ⟨h.kept, fun h0 => ?_, fun h0 => ?_, fun h0 => ?_, fun h0 => ?_, h.ne, fun h0 => ⟨h24, h26, h27⟩⟩
  · rw [sel_ad hs]; exact h.m1 h0
  · exact h.m2 h0
  · obtain ⟨r1, r2⟩ := h.n1 h0; exact ⟨r1, fun p hp => by rw [ad1_ne (hs p hp)]; exact r2 p hp⟩
  · exact h.n2 h0
theorem NI.make1 (h : NI wr P ks kb a b D γ w) (h0 : D 0 = false) : NI wr P ks kb a b (ad1 D 0) (some w.heap.size, γ.2) (w.alloc (.map #[] 0)) := by
  have hs : ∀ p ∈ insN a b, p.1 ≠ 0 := ins_ne (by decide)
  obtain ⟨r1, r2⟩ := h.n1 h0
  refine ⟨h.kept.alloc _, fun _ => ⟨_, rfl, ?_⟩, fun h2 => ?_, fun h2 => ?_, fun h2 => h.n2 h2, fun b1 b2 e1 e2 => ?_, fun h2 => h.mv h2⟩
  · rw [sel_ad hs, selD_none D _ r2]; exact SMap.made wr w P ks h.kept
  · obtain ⟨b2, e, hm⟩ := h.m2 h2
    exact ⟨b2, e, hm.grown (World.grownBy_alloc w _ none) (fun k hk => (by cases hk)) (by simp)⟩
  · rw [ad1_eq] at h2; cases h2
  · cases e1
    rcases h24 : D 24 with _ | _
    · have := (h.n2 h24).1; rw [this] at e2; cases e2
    · obtain ⟨b3, e, hm⟩ := h.m2 h24
      have e' : γ.2 = some b2 := e2
      rw [e] at e'; cases e'
      have := hm.lt; omega
theorem NI.make2 (h : NI wr P ks kb a b D γ w) (h0 : D 24 = false) : NI wr P ks kb a b (ad1 D 24) (γ.1, some w.heap.size) (w.alloc (.map #[] 0)) := by
  have hs : ∀ p ∈ insN a b, p.1 ≠ 24 := ins_ne (by decide)
  obtain ⟨r1, r2, r3⟩ := h.n2 h0
  refine ⟨h.kept.alloc _, fun h2 => ?_, fun _ => ⟨_, rfl, ?_⟩, fun h2 => ?_, fun h2 => ?_, fun b1 b2 e1 e2 => ?_, fun h2 => ?_⟩
  · obtain ⟨b1, e, hm⟩ := h.m1 h2
    rw [sel_ad hs]
    exact ⟨b1, e, hm.grown (World.grownBy_alloc w _ none) (fun k hk => (by cases hk)) (by simp)⟩
  · rw [ad1_ne (by decide), ad1_ne (by decide), r2, r3]
    exact BMap.made wr w P kb h.kept
  · obtain ⟨q1, q2⟩ := h.n1 h2; exact ⟨q1, fun p hp => by rw [ad1_ne (hs p hp)]; exact q2 p hp⟩
  · rw [ad1_eq] at h2; cases h2
  · cases e2
    have e' : γ.1 = some b1 := e1
    rcases h00 : D 0 with _ | _
    · have := (h.n1 h00).1; rw [this] at e'; cases e'
    · obtain ⟨b3, e, hm⟩ := h.m1 h00
      rw [e] at e'; cases e'
      have := hm.lt; omega
  · obtain ⟨q1, q2, q3⟩ := h.mv h2; exact ⟨rfl, q2, q3⟩
theorem NI.ins1 (h : NI wr P ks kb a b D γ w) {j : Nat} {k : List UInt8} {v : Value} (hp : (j, k, v) ∈ insN a b) (h0 : D 0 = true) (hj : D j = false) {b1 : Nat} (hb1 : γ.1 = some b1) (hm : SMap wr w' P ks b1 ((selD D (insN a b)).length + 1) ((k, v) :: selD D (insN a b))) (hg : w.grownBy w' (some b1)) : NI wr P ks kb a b (ad1 D j) γ w' := by
  have hin : j ∈ [3, 5, 10, 13, 18, 23, 32] := by rw [← insN_ids a b]; exact List.mem_map_of_mem (f := fun p : Nat × List UInt8 × Value => p.1) hp
  have hj2 : j ≠ 0 ∧ j ≠ 24 ∧ j ≠ 26 ∧ j ≠ 27 ∧ j ≠ 28 := by
    simp only [List.mem_cons, List.not_mem_nil, or_false] at hin; omega
  obtain ⟨j8, j9, j10, j11, j12⟩ := hj2
  obtain ⟨s1, s2⟩ := selD_step (D := D) (D' := ad1 D j) (L := insN a b) (by rw [insN_ids]; decide) (by rw [insN_keys]; decide) hp hj ad1_eq (fun i hi => (ad1_ne hi).symm)
  refine ⟨hm.kept, fun _ => ⟨b1, hb1, ?_⟩, fun h2 => ?_, fun h2 => ?_, fun h2 => ?_, h.ne, fun h2 => ?_⟩
  · rw [s2]; exact hm.same s1
  · rw [ad1_ne (Ne.symm j9)] at h2
    rw [ad1_ne (Ne.symm j10), ad1_ne (Ne.symm j11)]
    obtain ⟨b2, e, hm2⟩ := h.m2 h2
    exact ⟨b2, e, hm2.grown hg (fun k hk => (by cases hk; exact hm.new)) (fun e2 => h.ne b1 b2 hb1 e (by cases e2; rfl))⟩
  · rw [ad1_ne (Ne.symm j8), h0] at h2; cases h2
  · rw [ad1_ne (Ne.symm j9)] at h2; rw [ad1_ne (Ne.symm j10), ad1_ne (Ne.symm j11)]; exact h.n2 h2
  · rw [ad1_ne (Ne.symm j12)] at h2; rw [ad1_ne (Ne.symm j9), ad1_ne (Ne.symm j10), ad1_ne (Ne.symm j11)]; exact h.mv h2
theorem NI.ins2 (h : NI wr P ks kb a b D γ w) {j : Nat} (hp : j = 26 ∨ j = 27) (h0 : D 24 = true) (hj : D j = false) {b2 : Nat} (hb2 : γ.2 = some b2)
    (hm : BMap wr w' P kb b2 ((if D 26 then 1 else 0) + (if D 27 then 1 else 0) + 1) (if j = 26 then some (.int .i64 b) else if D 26 then some (.int .i64 b) else none) (if j = 27 then some (.int .i64 3) else if D 27 then some (.int .i64 3) else none)) (hg : w.grownBy w' (some b2)) : NI wr P ks kb a b (ad1 D j) γ w' := by
  have hj2 : j ≠ 0 ∧ j ≠ 24 ∧ j ≠ 28 := by omega
  obtain ⟨j8, j9, j12⟩ := hj2
  have hs : ∀ p ∈ insN a b, p.1 ≠ j := ins_ne (by rcases hp with rfl | rfl <;> decide)
  refine ⟨hm.kept, fun h2 => ?_, fun _ => ⟨b2, hb2, ?_⟩, fun h2 => ?_, fun h2 => ?_, h.ne, fun h2 => ?_⟩
  · rw [ad1_ne (Ne.symm j8)] at h2
    rw [sel_ad hs]
    obtain ⟨b1, e, hm1⟩ := h.m1 h2
    exact ⟨b1, e, hm1.grown hg (fun k hk => (by cases hk; exact hm.new)) (fun e2 => h.ne b1 b2 e hb2 (by cases e2; rfl))⟩
  · rcases hp with rfl | rfl
    · rw [ad1_eq, ad1_ne (by decide)]
      rw [hj] at hm
      exact hm.moreN (by simp; omega)
    · rw [ad1_eq, ad1_ne (by decide)]
      rw [hj] at hm
      exact hm.moreN (by simp)
  · obtain ⟨q1, q2⟩ := h.n1 (by rw [ad1_ne (Ne.symm j8)] at h2; exact h2); exact ⟨q1, fun p hp => by rw [ad1_ne (hs p hp)]; exact q2 p hp⟩
  · rw [ad1_ne (Ne.symm j9), h0] at h2; cases h2
  · rw [ad1_ne (Ne.symm j12)] at h2
    obtain ⟨q1, q2, q3⟩ := h.mv h2
    refine ⟨by rw [ad1_ne (Ne.symm j9)]; exact q1, ?_, ?_⟩
    · by_cases e : 26 = j
      · subst e; exact ad1_eq
      · rw [ad1_ne e]; exact q2
    · by_cases e : 27 = j
      · subst e; exact ad1_eq
      · rw [ad1_ne e]; exact q3
/-- The whole map. -/
def twN (a b : Int) : List (List UInt8 × Value) := (insN a b).map Prod.snd
theorem sel_all (a b : Int) : selD (fun k => decide (k < 33)) (insN a b) = twN a b := rfl
theorem twN_len (a b : Int) : (twN a b).length = 7 := rfl
theorem twN_mem {a b : Int} (ha : In64 a) (hb : In64 b) {ks : List UInt8} {v : Value} (h : assocS (twN a b) ks = some v) : ∃ want l, v = .int .i64 want ∧ evalF (envA a b) ks = ⟨want, 0, l⟩ ∧ ks.length ≤ 9 := by
  have hm := assocS_mem h
  have va : ∀ {A : Va} {x : Int}, A.v = x → A.e = 0 → ∃ l, A = ⟨x, 0, l⟩ := fun {A x} h1 h2 => by
    obtain ⟨v, e, l⟩ := A
    cases h1; cases h2
    exact ⟨l, rfl⟩
  simp only [twN, insN, List.map_cons, List.map_nil, List.mem_cons, List.not_mem_nil, or_false, Prod.mk.injEq] at hm
  rcases hm with ⟨rfl, rfl⟩ | ⟨rfl, rfl⟩ | ⟨rfl, rfl⟩ | ⟨rfl, rfl⟩ | ⟨rfl, rfl⟩ | ⟨rfl, rfl⟩ | ⟨rfl, rfl⟩
  · exact ⟨_, _, rfl, ah_law (g := [45]) (by decide) a b ha, by decide⟩
  · exact ⟨_, _, rfl, ah_law (g := [43]) (by decide) a b ha, by decide⟩
  · exact ⟨_, _, rfl, ah_law (g := [33]) (by decide) a b ha, by decide⟩
  · exact ⟨_, _, rfl, ah_law (g := [126]) (by decide) a b ha, by decide⟩
  · obtain ⟨h1, h2⟩ := sh_law (g := [60, 60]) (by decide) a b ha hb
    obtain ⟨l, hl⟩ := va h1 h2
    exact ⟨_, l, rfl, hl, by decide⟩
  · obtain ⟨h1, h2⟩ := sh_law (g := [62, 62]) (by decide) a b ha hb
    obtain ⟨l, hl⟩ := va h1 h2
    exact ⟨_, l, rfl, hl, by decide⟩
  · obtain ⟨h1, h2⟩ := ch_law a b ha hb
    obtain ⟨l, hl⟩ := va h1 h2
    exact ⟨_, l, rfl, hl, by decide⟩
end Go.Proofs.YtoedopgjonhemaaDoor
