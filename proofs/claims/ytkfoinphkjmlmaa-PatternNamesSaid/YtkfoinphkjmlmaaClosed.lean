/- package pattern: closed. -/
import Derived.Test.YtkfoinphkjmlmaaPatP
import Derived.Deep.DeepCutAuto
import Derived.Deep.CutBlock
import Derived.Deep.LoopGhost
namespace Go.Proofs.Ytkfoinphkjmlmaa
open Go Go.RowKit Go.Lw
set_option maxRecDepth 100000
set_option linter.unusedVariables false
attribute [local go_sem] BA_toList
def rngF (f : Nat → Bool) (a i : Nat) : Nat → Bool := fun q => f q || (decide (a ≤ q) && decide (q < i))
theorem rngF_start (f : Nat → Bool) (a : Nat) : rngF f a a = f := by
  funext q
  unfold rngF
  by_cases h : a ≤ q
  · simp [h, Nat.not_lt.2 h]
  · simp [h]
theorem rngF_next (f : Nat → Bool) (a i : Nat) (h : a ≤ i) : (fun q => if q = i then true else rngF f a i q) = rngF f a (i + 1) := by
  funext q
  unfold rngF
  by_cases e : q = i
  · subst e; simp [h]
  · rw [if_neg e]
    congr 2
    apply decide_eq_decide.2
    omega
theorem rngF_end (f : Nat → Bool) (a b i : Nat) (h : i = b + 1 ∧ a ≤ i ∨ i = a ∧ b < a) : rngF f a i = addR f a b := by
  funext q
  unfold rngF addR
  congr 1
  rw [← Bool.decide_and, ← Bool.decide_and]
  apply decide_eq_decide.2
  omega
/-- What closed leaves. -/
def ClosedPost (c : Option ((Nat → Bool) × List UInt8)) (w : World) (e : Ending) (w' : World) : Prop :=
  match c with
  | none => e = .returned (.tuple #[.agg #[.bool false, .pointer none, .bool false], .string (BA []), .bool false]) ∧ Kept (fun _ => False) w w'
  | some (f, r) => ∃ g, e = .returned (.tuple #[.agg #[.bool false, .pointer (some ⟨g, 0, none⟩), .bool false], .string (BA r), .bool true]) ∧ SetAt w' g f ∧ Kept (fun _ => False) w w' ∧ w.heap.size ≤ g
theorem piece_set {w : World} {g : Nat} {T : TypeId} {a b c : Value} (h : w.heap[g]? = some (.cells #[a, b, c] T (0, 0))) (x y z : Value) :
    (((w.setCell ⟨g, 0, none⟩ x).setCell ⟨g, 1, none⟩ y).setCell ⟨g, 2, none⟩ z).heap[g]? = some (.cells #[x, y, z] T (0, 0)) := heap_set (heap_set (heap_set h 0 x) 1 y) 2 z
theorem piece_kept {S : Nat → Prop} (w : World) (g : Nat) (hg : S g) (x y z : Value) : Kept S w (((w.setCell ⟨g, 0, none⟩ x).setCell ⟨g, 1, none⟩ y).setCell ⟨g, 2, none⟩ z) := (((Kept.refl S w).set g 0 (fun _ => hg) x).set g 1 (fun _ => hg) y).set g 2 (fun _ => hg) z
theorem SetAt.congr {w : World} {g : Nat} {f f' : Nat → Bool} (h : SetAt w g f) (e : ∀ i, i < 256 → f i = f' i) : SetAt w g f' := by
  obtain ⟨A, h1, h2, h3⟩ := h
  exact ⟨A, h1, h2, fun i hi => by rw [h3 i hi, e i hi]⟩
theorem inv_step {w : World} {g j : Nat} {f : Nat → Bool} (h : SetAt w g (fun i => if i = j then !f j else (fun q => if q < j then true != f q else f q) i)) : SetAt w g (fun q => if q < j + 1 then true != f q else f q) :=
  h.congr fun i _ => by
    by_cases e : i = j
    · subst e; simp
    · simp only [if_neg e]
      by_cases e2 : i < j
      · rw [if_pos e2, if_pos (by omega)]
      · rw [if_neg e2, if_neg (by omega)]
theorem inv_all {w : World} {g : Nat} {f : Nat → Bool} (h : SetAt w g (fun q => if q < 256 then true != f q else f q)) : SetAt w g (fun q => true != f q) :=
  h.congr fun i hi => if_pos hi
theorem kept_set1' (w : World) (g i : Nat) (u : Value) : Kept (fun q => q = g) w (w.setCell ⟨g, i, none⟩ u) := (Kept.refl (fun q => q = g) w).set g i (fun _ => rfl) u
/-- Does a range follow? -/
def tstF : List UInt8 → Bool
  | d :: e :: _ => decide (d.toNat = 45) && !decide (e.toNat = 93)
  | _ => false
theorem item_tst {c a b2 : UInt8} {l r1 r2 : List UInt8} {t : Bool} (h1 : takenF c l = (a, r1)) (h2 : itemF c l = (a, b2, r2)) (ht : tstF r1 = t) :
    (t = true → ∃ d e r', r1 = d :: e :: r' ∧ takenF e r' = (b2, r2)) ∧ (t = false → b2 = a ∧ r2 = r1) := by
  unfold itemF at h2
  rw [h1] at h2
  simp only at h2
  rcases r1 with _ | ⟨d, _ | ⟨e, r'⟩⟩
  · simp only [Prod.mk.injEq, true_and] at h2
    obtain ⟨rfl, rfl⟩ := h2
    exact ⟨fun h => by rw [← ht] at h; simp [tstF] at h, fun _ => ⟨rfl, rfl⟩⟩
  · simp only [Prod.mk.injEq, true_and] at h2
    obtain ⟨rfl, rfl⟩ := h2
    exact ⟨fun h => by rw [← ht] at h; simp [tstF] at h, fun _ => ⟨rfl, rfl⟩⟩
  · simp only at h2
    split at h2
    · rename_i hc
      simp only [Prod.mk.injEq, true_and] at h2
      refine ⟨fun _ => ⟨d, e, r', rfl, h2⟩, fun h => ?_⟩
      rw [← ht] at h
      simp [tstF, hc.1, hc.2] at h
    · rename_i hc
      simp only [Prod.mk.injEq, true_and] at h2
      obtain ⟨rfl, rfl⟩ := h2
      refine ⟨fun h => ?_, fun _ => ⟨rfl, rfl⟩⟩
      rw [← ht] at h
      simp [tstF] at h
      exact absurd ⟨h.1, h.2⟩ hc
set_option maxHeartbeats 4000000 in
theorem closed_any (w : World) (p : List UInt8) (hp : p.length ≤ 1000000) :
    Calls Try.prog 21 #[.string (BA p)] w (ClosedPost (closedF p) w) := by
  obtain ⟨Z, hz1, hz2, hz3⟩ := zero_set
  have hzo : ∀ v ∈ Z.toList, v.oneCell' = true := fun v hv => by
    obtain ⟨i, hi⟩ := List.mem_iff_getElem?.1 hv
    have hil : i < 256 := by
      rcases Nat.lt_or_ge i 256 with h | h
      · exact h
      · rw [List.getElem?_eq_none (by simpa [hz1] using h)] at hi; cases hi
    have := hz2 i hil
    rw [← Array.getElem?_toList, hi] at this
    cases this; rfl
  have hst := store_own_row (P := Try.prog) (w.alloc (.cells #[.bool false, .pointer none, .bool false] 44)) Z 45 (w.heap.size + 1) (by simp) hzo
  clear hzo
  have hzs := hz1
  have HZ1 := Lw.hid hz1; have HZ2 := Lw.hid hz2
  obtain ⟨r0, nt, hr0⟩ : ∃ r0 nt, cutpF p [33] = (r0, nt) := ⟨_, _, rfl⟩
  have hr0l : r0.length ≤ 1000000 := by
    have h : (cutpF p [33]).1.length ≤ p.length := by unfold cutpF; split <;> simp
    rw [hr0] at h; exact Nat.le_trans h hp
  obtain ⟨fE, rE, hE⟩ : ∃ fE rE, setF r0.length true r0 noneF = (fE, rE) := ⟨_, _, rfl⟩
  have HCF : Hid ((rE = [] → closedF p = none) ∧ ∀ c r, rE = c :: r → closedF p = some ((fun i => nt != fE i), r)) := Lw.hid (by
    unfold closedF
    simp only [hr0, hE]
    exact ⟨fun h => by rw [h], fun c r h => by rw [h]⟩)
  have HR0 := Lw.hid hr0; have HE := Lw.hid hE
  clear hz1 hz2 hr0 hE
  go_enter Try.func21, Try.ntmps21
  go_wp2_with fail
  refine (cutp_any _ p [33] (by omega) (by decide)).mono ?_
  rw [HR0.out]
  rintro e _ ⟨rfl, rfl⟩
  go_wp2_with fail
  obtain ⟨gs, hgs⟩ : ∃ gs, w.heap.size + 1 = gs := ⟨_, rfl⟩
  have hS0 : SetAt ((w.alloc (.cells #[.bool false, .pointer none, .bool false] 44)).alloc (.cells Z 45)) gs noneF := by
    have := SetAt.new (w := w.alloc (.cells #[.bool false, .pointer none, .bool false] 44)) (A := Z) (f := noneF) HZ1.out HZ2.out
    rw [World.size_alloc, hgs] at this
    exact this
  have hB0 : ((w.alloc (.cells #[.bool false, .pointer none, .bool false] 44)).alloc (.cells Z 45)).heap[w.heap.size]? = some (.cells #[.bool false, .pointer none, .bool false] 44 (0, 0)) :=
    ((Kept.refl (fun _ => False) _).alloc _).heap (heap_alloc _ _) (fun h => h)
  have hK0 : Kept (fun _ => False) w ((w.alloc (.cells #[.bool false, .pointer none, .bool false] 44)).alloc (.cells Z 45)) := ((Kept.refl _ w).alloc _).alloc _
  have hgs1 : w.heap.size < gs := by omega
  rw [hgs]
  generalize (w.alloc (.cells #[.bool false, .pointer none, .bool false] 44)).alloc (.cells Z 45) = W0 at *
  obtain ⟨gb, hgb⟩ : ∃ gb, w.heap.size = gb := ⟨_, rfl⟩
  have HGB := Lw.hid hgb
  rw [hgb] at hgs1 hB0 ⊢
  have HS0 := Lw.hid hS0; have HB0 := Lw.hid hB0; have HK0 := Lw.hid hK0
  have HZ3 := Lw.hid hz3
  clear hst hzs hz3 HZ1 HZ2 hS0 hB0 hK0 hgs hgb
  go_loopg [5, 8] r0.length (fun gk rest fst wx => ∃ (r : List UInt8) (b : Bool) (f : Nat → Bool), gk = r.length ∧ rest = .string (BA r) ∧ fst = .bool b ∧ r.length ≤ 1000000 ∧ setF r.length b r f = (fE, rE) ∧ SetAt wx gs f ∧ wx.heap[gb]? = some (.cells #[.bool false, .pointer none, .bool false] 44 (0, 0)) ∧ Kept (fun _ => False) w wx)
  case atStart => exact ⟨r0, true, noneF, rfl, rfl, rfl, hr0l, HE.out, HS0.out, HB0.out, HK0.out⟩
  case round =>
    obtain ⟨r, b, f, rfl, rfl, rfl, hrl, he, hs, hb, hk⟩ := hrel
    have HE1 := Lw.hid he; have HS1 := Lw.hid hs; have HB1 := Lw.hid hb; have HK1 := Lw.hid hk
    clear he hs hb hk HE HS0 HB0 HK0
    cases r with
    | nil =>
      have hn := BA_nil
      have c0 := heap_cell HB1.out 0; have c1 := heap_cell HB1.out 1; have c2 := heap_cell HB1.out 2
      have f0 := heap_free HB1.out 0; have f1 := heap_free HB1.out 1; have f2 := heap_free HB1.out 2
      have HB2 := Lw.hid (piece_set HB1.out (.bool false) (.pointer none) (.bool false))
      have HK2 := Lw.hid (HK1.out.trans (piece_kept (S := fun q => q = gb) wr gb rfl (.bool false) (.pointer none) (.bool false)) (fun i hi e => by have := HGB.out; omega))
      have hx0 := heap_cell HB2.out 0; have hx1 := heap_cell HB2.out 1; have hx2 := heap_cell HB2.out 2
      have HXS := Lw.hid (And.intro hx0 (And.intro hx1 hx2))
      have HCN : Hid (closedF p = none) := Lw.hid (HCF.out.1 (by have := HE1.out; unfold setF at this; exact (Prod.mk.inj this).2.symm))
      clear hx0 hx1 hx2
      go_wp2_with fail
      obtain ⟨hx0, hx1, hx2⟩ := HXS.out
      refine bodyPost_ret (v := .tuple #[.agg #[.bool false, .pointer none, .bool false], .string (BA []), .bool false]) (by simp [results, go_sem, hx0, hx1, hx2, BA_nil]) rfl ?_
      unfold ClosedPost
      rw [HCN.out]
      exact ⟨rfl, HK2.out⟩
    | cons c l =>
      have hne : (BA (c :: l) == (⟨#[]⟩ : ByteArray)) = false := BA_ne_nil (by simp)
      have hsz : (BA (c :: l)).size = l.length + 1 := BA_size _
      have g0 := BA_get (l := c :: l) (k := 0) rfl
      by_cases hcl : b = false ∧ c.toNat = 93
      · obtain ⟨rfl, hc⟩ := hcl
        have hcb : ((c.toNat : Int) == 93) = true := by rw [hc]; rfl
        have hcn : ((c.toNat : Int) != 93) = false := by rw [hc]; rfl
        have HX : Hid ((f, c :: l) = (fE, rE)) := Lw.hid (by rw [← HE1.out]; unfold setF; exact (if_pos ⟨rfl, hc⟩).symm)
        have e1 := BA_tail (c :: l) 1 (l.length + 1) rfl
        simp only [List.drop_succ_cons, List.drop_zero] at e1
        have c0 := heap_cell HB1.out 0; have c1 := heap_cell HB1.out 1; have c2 := heap_cell HB1.out 2
        have f0 := heap_free HB1.out 0; have f1 := heap_free HB1.out 1; have f2 := heap_free HB1.out 2
        have hz3 := HZ3.out
        cases nt with
        | false =>
          have HSN : Hid (SetAt wr gs (fun i => false != f i)) := Lw.hid (by simpa using HS1.out)
          go_wp2_with fail
          have HB2 := Lw.hid (piece_set HB1.out (.bool false) (.pointer (some ⟨gs, 0, none⟩)) (.bool false))
          have HK2 := Lw.hid (HK1.out.trans (piece_kept (S := fun q => q = gb) wr gb rfl (.bool false) (.pointer (some ⟨gs, 0, none⟩)) (.bool false)) (fun i hi e => by have := HGB.out; omega))
          have HSF := Lw.hid (HSN.out.kept (piece_kept (S := fun q => q = gb) wr gb rfl (.bool false) (.pointer (some ⟨gs, 0, none⟩)) (.bool false)) (fun e => by omega))
          have HCN : Hid (closedF p = some (fun i => false != f i, l)) := Lw.hid (by
            obtain ⟨rfl, rfl⟩ := Prod.mk.inj HX.out
            exact HCF.out.2 c l rfl)
          go_region
          go_wp2_with fail
          have hx0 := heap_cell HB2.out 0; have hx1 := heap_cell HB2.out 1; have hx2 := heap_cell HB2.out 2
          refine bodyPost_ret (v := .tuple #[.agg #[.bool false, .pointer (some ⟨gs, 0, none⟩), .bool false], .string (BA l), .bool true]) (by simp [results, go_sem, hx0, hx1, hx2]) rfl ?_
          unfold ClosedPost
          rw [HCN.out]
          exact ⟨gs, rfl, HSF.out.kept (S := fun _ => False) (Kept.refl _ _).drew (fun h => h), HK2.out.drew, by have := HGB.out; omega⟩
        | true =>
          go_wp2_with fail
          clear c0 c1 c2 f0 f1 f2
          go_loopw [68] (fun i wx => ∃ j : Nat, j ≤ 256 ∧ i = .int .i64 (j : Int) ∧ SetAt wx gs (fun q => if q < j then true != f q else f q) ∧ wx.heap[gb]? = some (.cells #[.bool false, .pointer none, .bool false] 44 (0, 0)) ∧ Kept (fun _ => False) w wx) (fun i _ => 256 - (intOf i).toNat)
          case atStart => exact ⟨0, by omega, rfl, by simpa using HS1.out, HB1.out, HK1.out⟩
          case round =>
            obtain ⟨j, hj, rfl, hs, hb, hk⟩ := hrel
            have HS3 := Lw.hid hs; have HB3 := Lw.hid hb; have HK3 := Lw.hid hk
            clear hs hb hk
            by_cases hlt : j < 256
            · have hc1 := HS3.out.cell j hlt
              simp only [if_neg (Nat.lt_irrefl j)] at hc1
              have hf1 := HS3.out.free j
              have HS4 := Lw.hid (HS3.out.stored j (!f j) hlt)
              have HK4 := Lw.hid (Kept.set (S := fun q => q = gs) (Kept.refl _ wr) gs j (fun _ => rfl) (.bool (!f j)))
              have hi0 : (0 : Int) ≤ (j : Int) := by omega
              have hi1 : (j : Int) < 256 := by omega
              go_wp2_with fail
              go_roundw
              case rel => exact ⟨j + 1, by omega, by go_num, inv_step HS4.out, HK4.out.heap HB3.out (by omega), HK3.out.trans HK4.out (fun i hi e => by have := HGB.out; omega)⟩
              case measure => simp [intOf]; omega
            · obtain rfl : j = 256 := by omega
              have HSN : Hid (SetAt wr gs (fun i => true != f i)) := Lw.hid (inv_all HS3.out)
              have c0 := heap_cell HB3.out 0; have c1 := heap_cell HB3.out 1; have c2 := heap_cell HB3.out 2
              have f0 := heap_free HB3.out 0; have f1 := heap_free HB3.out 1; have f2 := heap_free HB3.out 2
              go_wp2_with fail
              have HB2 := Lw.hid (piece_set HB3.out (.bool false) (.pointer (some ⟨gs, 0, none⟩)) (.bool false))
              have HK2 := Lw.hid (HK3.out.trans (piece_kept (S := fun q => q = gb) wr gb rfl (.bool false) (.pointer (some ⟨gs, 0, none⟩)) (.bool false)) (fun i hi e => by have := HGB.out; omega))
              have HSF := Lw.hid (HSN.out.kept (piece_kept (S := fun q => q = gb) wr gb rfl (.bool false) (.pointer (some ⟨gs, 0, none⟩)) (.bool false)) (fun e => by omega))
              have HCN : Hid (closedF p = some (fun i => true != f i, l)) := Lw.hid (by
                obtain ⟨rfl, rfl⟩ := Prod.mk.inj HX.out
                exact HCF.out.2 c l rfl)
              go_region
              go_wp2_with fail
              have hx0 := heap_cell HB2.out 0; have hx1 := heap_cell HB2.out 1; have hx2 := heap_cell HB2.out 2
              refine bodyPost_ret (v := .tuple #[.agg #[.bool false, .pointer (some ⟨gs, 0, none⟩), .bool false], .string (BA l), .bool true]) (by simp [results, go_sem, hx0, hx1, hx2]) rfl ?_
              unfold ClosedPost
              rw [HCN.out]
              exact ⟨gs, rfl, HSF.out.kept (S := fun _ => False) (Kept.refl _ _).drew (fun h => h), HK2.out.drew, by have := HGB.out; omega⟩
      · have hcn : b = false → ((c.toNat : Int) != 93) = true := fun h => by
          have : ¬ c.toNat = 93 := fun e => hcl ⟨h, e⟩
          simp; omega
        have HSTEP : Hid (setF (itemF c l).2.2.length false (itemF c l).2.2 (addR f (itemF c l).1.toNat (itemF c l).2.1.toNat) = (fE, rE)) := Lw.hid (by
          have h := HE1.out
          unfold setF at h
          simp only [List.length_cons] at h
          rw [if_neg hcl] at h
          rw [← h]
          exact (setF_fuel _ _ _ _ _ (Nat.le_refl _) (itemF_len c l)).symm)
        obtain ⟨⟨a, r1⟩, har⟩ : ∃ x, takenF c l = x := ⟨_, rfl⟩
        have HAR := Lw.hid har
        have hr1 : r1.length ≤ l.length := by have := takenF_len c l; rw [har] at this; exact this
        have hil := itemF_len c l
        obtain ⟨⟨a', b2, r2⟩, hit⟩ : ∃ x, itemF c l = x := ⟨_, rfl⟩
        obtain rfl : a = a' := by
          have : (itemF c l).1 = (takenF c l).1 := by unfold itemF; split <;> (try split) <;> rfl
          rw [hit, har] at this; exact this.symm
        have HIT := Lw.hid hit
        rw [hit] at HSTEP hil
        simp only at HSTEP hil
        clear har hit hcl HE1
        have hlc : l.length ≤ 1000000 := by simp at hrl; omega
        have hll : (c :: l).length = l.length + 1 := rfl
        have HLL := Lw.hid hll
        clear hll
        cases b with
        | true =>
          clear hcn
          go_wp2_with fail
          refine (taken_any wr c l hlc).mono ?_
          rw [HAR.out]
          rintro e w1 ⟨rfl, k1⟩
          have HS2 := Lw.hid (HS1.out.kept k1 (fun h => h)); have HB2 := Lw.hid (k1.heap HB1.out (fun h => h)); have HK2 := Lw.hid (HK1.out.trans k1 (fun _ _ h => h))
          clear k1
          obtain ⟨t, ht⟩ : ∃ t, tstF r1 = t := ⟨_, rfl⟩
          have HTS := Lw.hid ht
          have htf : Hid ((t = true → ∃ d e r', r1 = d :: e :: r' ∧ takenF e r' = (b2, r2)) ∧ (t = false → b2 = a ∧ r2 = r1)) := Lw.hid (item_tst HAR.out HIT.out ht)
          clear ht
          go_upto_region 9 with fail
          go_cut [47] (fun s47 wx => s47 = .bool t ∧ wx = w1)
          case first =>
            have hq : (r1 = [] ∧ t = false) ∨ (∃ d, r1 = [d] ∧ t = false) ∨ ∃ d e r', r1 = d :: e :: r' ∧ t = (decide (d.toNat = 45) && !decide (e.toNat = 93)) := by
              rcases r1 with _ | ⟨d, _ | ⟨e, r'⟩⟩
              · exact .inl ⟨rfl, HTS.out.symm⟩
              · exact .inr (.inl ⟨d, rfl, HTS.out.symm⟩)
              · exact .inr (.inr ⟨d, e, r', rfl, HTS.out.symm⟩)
            clear hne hsz g0
            rcases hq with ⟨rfl, rfl⟩ | ⟨d, rfl, rfl⟩ | ⟨d, e, r', rfl, rfl⟩
            · have hs1 : (BA []).size = 0 := BA_size _
              go_wp2_with fail
              go_meet
              case rel => exact ⟨rfl, rfl⟩
            · have hs1 : (BA [d]).size = 1 := BA_size _
              go_wp2_with fail
              go_meet
              case rel => exact ⟨rfl, rfl⟩
            · have hs1 : (BA (d :: e :: r')).size = r'.length + 2 := BA_size _
              have k0 := BA_get (l := d :: e :: r') (k := 0) rfl
              have k1 := BA_get (l := d :: e :: r') (k := 1) rfl
              have hpos : (1 : Int) < (r'.length : Int) + 2 := by omega
              by_cases hd : d.toNat = 45
              · have hdb : ((d.toNat : Int) == 45) = true := by rw [hd]; rfl
                by_cases he : e.toNat = 93
                · have heb : ((e.toNat : Int) != 93) = false := by rw [he]; rfl
                  have HT : Hid ((decide (d.toNat = 45) && !decide (e.toNat = 93)) = false) := Lw.hid (by simp [he])
                  clear hd he
                  go_wp2_with fail
                  go_meet
                  case rel => exact ⟨by rw [HT.out], rfl⟩
                · have heb : ((e.toNat : Int) != 93) = true := by simp; omega
                  have HT : Hid ((decide (d.toNat = 45) && !decide (e.toNat = 93)) = true) := Lw.hid (by simp [hd, he])
                  clear hd he
                  go_wp2_with fail
                  go_meet
                  case rel => exact ⟨by rw [HT.out], rfl⟩
              · have hdb : ((d.toNat : Int) == 45) = false := by simp; omega
                have HT : Hid ((decide (d.toNat = 45) && !decide (e.toNat = 93)) = false) := Lw.hid (by simp [hd])
                clear hd
                go_wp2_with fail
                go_meet
                case rel => exact ⟨by rw [HT.out], rfl⟩
          case rest =>
            obtain ⟨rfl, rfl⟩ := hcut
            go_upto_if 47 with fail
            go_cut [5, 10] (fun s5 s10 wx => s5 = .string (BA r2) ∧ s10 = .int .u8 (b2.toNat : Int) ∧ SetAt wx gs f ∧ wx.heap[gb]? = some (.cells #[.bool false, .pointer none, .bool false] 44 (0, 0)) ∧ Kept (fun _ => False) w wx)
            case first =>
              cases t with
              | false =>
                obtain ⟨rfl, rfl⟩ := htf.out.2 rfl
                go_wp2_with fail
                go_meet
                case rel => exact ⟨rfl, rfl, HS2.out, HB2.out, HK2.out⟩
              | true =>
                obtain ⟨d, e, r', rfl, htk⟩ := htf.out.1 rfl
                have HTK := Lw.hid htk
                have e1 := BA_tail (d :: e :: r') 1 (r'.length + 2) rfl
                simp only [List.drop_succ_cons, List.drop_zero] at e1
                have hs1 : (BA (d :: e :: r')).size = r'.length + 2 := BA_size _
                have hr9 : r'.length ≤ 1000000 := by simp at hr1; omega
                have hr8 : (1 : Int) ≤ (r'.length : Int) + 2 := by omega
                clear htk hne hsz g0 hr1
                go_wp2_with fail
                refine (taken_any _ e r' hr9).mono ?_
                rw [HTK.out]
                rintro e' w2 ⟨rfl, k2⟩
                have HS3 := Lw.hid (HS2.out.kept k2 (fun h => h)); have HB3 := Lw.hid (k2.heap HB2.out (fun h => h)); have HK3 := Lw.hid (HK2.out.trans k2 (fun _ _ h => h))
                clear k2
                go_wp2_with fail
                go_meet
                case rel => exact ⟨rfl, rfl, HS3.out, HB3.out, HK3.out⟩
            case rest =>
              obtain ⟨rfl, rfl, hs3, hb3, hk3⟩ := hcut
              have HS3 := Lw.hid hs3; have HB3 := Lw.hid hb3; have HK3 := Lw.hid hk3
              have ha9 := a.toNat_lt; have hb9 := b2.toNat_lt
              clear hs3 hb3 hk3
              go_wp2_with fail
              go_loopw [11] (fun i wx => ∃ j : Nat, i = .int .i64 (j : Int) ∧ (a.toNat ≤ j ∧ j ≤ b2.toNat + 1 ∨ j = a.toNat ∧ b2.toNat < j) ∧ SetAt wx gs (rngF f a.toNat j) ∧ wx.heap[gb]? = some (.cells #[.bool false, .pointer none, .bool false] 44 (0, 0)) ∧ Kept (fun _ => False) w wx) (fun i _ => 300 - (intOf i).toNat)
              case atStart => exact ⟨a.toNat, rfl, by omega, by rw [rngF_start]; exact HS3.out, HB3.out, HK3.out⟩
              case round =>
                obtain ⟨j, rfl, hj, hs, hb, hk⟩ := hrel
                have HS4 := Lw.hid hs; have HB4 := Lw.hid hb; have HK4 := Lw.hid hk
                clear hs hb hk
                by_cases hlt : j ≤ b2.toNat
                · have haj : a.toNat ≤ j := by omega
                  have hc1 := HS4.out.cell j (by omega)
                  have hf1 := HS4.out.free j
                  have HS5 := Lw.hid (HS4.out.stored j true (by omega))
                  have HK5 := Lw.hid (fun W : World => kept_set1' W gs j (.bool true))
                  have hi0 : (0 : Int) ≤ (j : Int) := by omega
                  have hi1 : (j : Int) < 256 := by omega
                  go_wp2_with fail
                  go_roundw
                  case rel => exact ⟨j + 1, by go_num, by omega, by rw [← rngF_next f a.toNat j haj]; exact HS5.out, (HK5.out _).heap HB4.out (by omega), HK4.out.trans (HK5.out _) (fun i hi e => by have := HGB.out; omega)⟩
                  case measure => simp [intOf]; omega
                · have HEN := Lw.hid (rngF_end f a.toNat b2.toNat j (by omega))
                  go_wp2_with fail
                  go_roundg r2.length
                  case measure => rw [HLL.out]; omega
                  case rel => exact ⟨r2, false, addR f a.toNat b2.toNat, rfl, rfl, rfl, by omega, HSTEP.out, by rw [← HEN.out]; exact HS4.out, HB4.out, HK4.out⟩
        | false =>
          have hcn := hcn rfl
          go_wp2_with fail
          refine (taken_any wr c l hlc).mono ?_
          rw [HAR.out]
          rintro e w1 ⟨rfl, k1⟩
          have HS2 := Lw.hid (HS1.out.kept k1 (fun h => h)); have HB2 := Lw.hid (k1.heap HB1.out (fun h => h)); have HK2 := Lw.hid (HK1.out.trans k1 (fun _ _ h => h))
          clear k1
          obtain ⟨t, ht⟩ : ∃ t, tstF r1 = t := ⟨_, rfl⟩
          have HTS := Lw.hid ht
          have htf : Hid ((t = true → ∃ d e r', r1 = d :: e :: r' ∧ takenF e r' = (b2, r2)) ∧ (t = false → b2 = a ∧ r2 = r1)) := Lw.hid (item_tst HAR.out HIT.out ht)
          clear ht
          go_upto_region 9 with fail
          go_cut [47] (fun s47 wx => s47 = .bool t ∧ wx = w1)
          case first =>
            have hq : (r1 = [] ∧ t = false) ∨ (∃ d, r1 = [d] ∧ t = false) ∨ ∃ d e r', r1 = d :: e :: r' ∧ t = (decide (d.toNat = 45) && !decide (e.toNat = 93)) := by
              rcases r1 with _ | ⟨d, _ | ⟨e, r'⟩⟩
              · exact .inl ⟨rfl, HTS.out.symm⟩
              · exact .inr (.inl ⟨d, rfl, HTS.out.symm⟩)
              · exact .inr (.inr ⟨d, e, r', rfl, HTS.out.symm⟩)
            clear hne hsz g0
            rcases hq with ⟨rfl, rfl⟩ | ⟨d, rfl, rfl⟩ | ⟨d, e, r', rfl, rfl⟩
            · have hs1 : (BA []).size = 0 := BA_size _
              go_wp2_with fail
              go_meet
              case rel => exact ⟨rfl, rfl⟩
            · have hs1 : (BA [d]).size = 1 := BA_size _
              go_wp2_with fail
              go_meet
              case rel => exact ⟨rfl, rfl⟩
            · have hs1 : (BA (d :: e :: r')).size = r'.length + 2 := BA_size _
              have k0 := BA_get (l := d :: e :: r') (k := 0) rfl
              have k1 := BA_get (l := d :: e :: r') (k := 1) rfl
              have hpos : (1 : Int) < (r'.length : Int) + 2 := by omega
              by_cases hd : d.toNat = 45
              · have hdb : ((d.toNat : Int) == 45) = true := by rw [hd]; rfl
                by_cases he : e.toNat = 93
                · have heb : ((e.toNat : Int) != 93) = false := by rw [he]; rfl
                  have HT : Hid ((decide (d.toNat = 45) && !decide (e.toNat = 93)) = false) := Lw.hid (by simp [he])
                  clear hd he
                  go_wp2_with fail
                  go_meet
                  case rel => exact ⟨by rw [HT.out], rfl⟩
                · have heb : ((e.toNat : Int) != 93) = true := by simp; omega
                  have HT : Hid ((decide (d.toNat = 45) && !decide (e.toNat = 93)) = true) := Lw.hid (by simp [hd, he])
                  clear hd he
                  go_wp2_with fail
                  go_meet
                  case rel => exact ⟨by rw [HT.out], rfl⟩
              · have hdb : ((d.toNat : Int) == 45) = false := by simp; omega
                have HT : Hid ((decide (d.toNat = 45) && !decide (e.toNat = 93)) = false) := Lw.hid (by simp [hd])
                clear hd
                go_wp2_with fail
                go_meet
                case rel => exact ⟨by rw [HT.out], rfl⟩
          case rest =>
            obtain ⟨rfl, rfl⟩ := hcut
            go_upto_if 47 with fail
            go_cut [5, 10] (fun s5 s10 wx => s5 = .string (BA r2) ∧ s10 = .int .u8 (b2.toNat : Int) ∧ SetAt wx gs f ∧ wx.heap[gb]? = some (.cells #[.bool false, .pointer none, .bool false] 44 (0, 0)) ∧ Kept (fun _ => False) w wx)
            case first =>
              cases t with
              | false =>
                obtain ⟨rfl, rfl⟩ := htf.out.2 rfl
                go_wp2_with fail
                go_meet
                case rel => exact ⟨rfl, rfl, HS2.out, HB2.out, HK2.out⟩
              | true =>
                obtain ⟨d, e, r', rfl, htk⟩ := htf.out.1 rfl
                have HTK := Lw.hid htk
                have e1 := BA_tail (d :: e :: r') 1 (r'.length + 2) rfl
                simp only [List.drop_succ_cons, List.drop_zero] at e1
                have hs1 : (BA (d :: e :: r')).size = r'.length + 2 := BA_size _
                have hr9 : r'.length ≤ 1000000 := by simp at hr1; omega
                have hr8 : (1 : Int) ≤ (r'.length : Int) + 2 := by omega
                clear htk hne hsz g0 hr1
                go_wp2_with fail
                refine (taken_any _ e r' hr9).mono ?_
                rw [HTK.out]
                rintro e' w2 ⟨rfl, k2⟩
                have HS3 := Lw.hid (HS2.out.kept k2 (fun h => h)); have HB3 := Lw.hid (k2.heap HB2.out (fun h => h)); have HK3 := Lw.hid (HK2.out.trans k2 (fun _ _ h => h))
                clear k2
                go_wp2_with fail
                go_meet
                case rel => exact ⟨rfl, rfl, HS3.out, HB3.out, HK3.out⟩
            case rest =>
              obtain ⟨rfl, rfl, hs3, hb3, hk3⟩ := hcut
              have HS3 := Lw.hid hs3; have HB3 := Lw.hid hb3; have HK3 := Lw.hid hk3
              have ha9 := a.toNat_lt; have hb9 := b2.toNat_lt
              clear hs3 hb3 hk3
              go_wp2_with fail
              go_loopw [11] (fun i wx => ∃ j : Nat, i = .int .i64 (j : Int) ∧ (a.toNat ≤ j ∧ j ≤ b2.toNat + 1 ∨ j = a.toNat ∧ b2.toNat < j) ∧ SetAt wx gs (rngF f a.toNat j) ∧ wx.heap[gb]? = some (.cells #[.bool false, .pointer none, .bool false] 44 (0, 0)) ∧ Kept (fun _ => False) w wx) (fun i _ => 300 - (intOf i).toNat)
              case atStart => exact ⟨a.toNat, rfl, by omega, by rw [rngF_start]; exact HS3.out, HB3.out, HK3.out⟩
              case round =>
                obtain ⟨j, rfl, hj, hs, hb, hk⟩ := hrel
                have HS4 := Lw.hid hs; have HB4 := Lw.hid hb; have HK4 := Lw.hid hk
                clear hs hb hk
                by_cases hlt : j ≤ b2.toNat
                · have haj : a.toNat ≤ j := by omega
                  have hc1 := HS4.out.cell j (by omega)
                  have hf1 := HS4.out.free j
                  have HS5 := Lw.hid (HS4.out.stored j true (by omega))
                  have HK5 := Lw.hid (fun W : World => kept_set1' W gs j (.bool true))
                  have hi0 : (0 : Int) ≤ (j : Int) := by omega
                  have hi1 : (j : Int) < 256 := by omega
                  go_wp2_with fail
                  go_roundw
                  case rel => exact ⟨j + 1, by go_num, by omega, by rw [← rngF_next f a.toNat j haj]; exact HS5.out, (HK5.out _).heap HB4.out (by omega), HK4.out.trans (HK5.out _) (fun i hi e => by have := HGB.out; omega)⟩
                  case measure => simp [intOf]; omega
                · have HEN := Lw.hid (rngF_end f a.toNat b2.toNat j (by omega))
                  go_wp2_with fail
                  go_roundg r2.length
                  case measure => rw [HLL.out]; omega
                  case rel => exact ⟨r2, false, addR f a.toNat b2.toNat, rfl, rfl, rfl, by omega, HSTEP.out, by rw [← HEN.out]; exact HS4.out, HB4.out, HK4.out⟩
end Go.Proofs.Ytkfoinphkjmlmaa
