/- longwirelaw15.same: are payloads the same? -/
import Derived.Test.YtfmebmaklakckaaDoorLogW
import Derived.Test.YtfmebmaklakckaaDoorBEq
import Derived.Deep.LoopGhost
namespace Go.Proofs.YtfmebmaklakckaaDoor
open Go Go.RowKit Go.Lw
set_option maxRecDepth 100000
set_option linter.unusedVariables false
set_option linter.unusedSimpArgs false
/-- Values that read as bytes. -/
def RdBB (w : World) (v : Value) (ls : List (List UInt8)) : Prop := ∃ vs, Rd w 1 v ls.length vs ∧ vs.length = ls.length ∧ ∀ (i : Nat) (u : Value) (l : List UInt8), vs[i]? = some u → ls[i]? = some l → RdB w u l
theorem RdBB.of_rows {w : World} {r : Value} {vs : List Value} {ls : List (List UInt8)} {Q : Nat → Prop} (h : w.ownsRow 0 38 1 r ls.length vs) (hp : Pays w Q vs ls) : RdBB w r ls :=
  ⟨vs, Rd.own h, hp.1, fun i u l h1 h2 => (hp.2 i u l h1 h2).1⟩
theorem RdBB.kept {w w' : World} {v : Value} {ls : List (List UInt8)} (h : RdBB w v ls) (k : Kept (fun _ => False) w w') : RdBB w' v ls := by
  obtain ⟨vs, h1, h2, h3⟩ := h
  exact ⟨vs, h1.kept k (fun _ _ h => h), h2, fun i u l hu hl => (h3 i u l hu hl).kept k (fun _ _ h => h)⟩
theorem RdBB.shape {w : World} {v : Value} {ls : List (List UInt8)} (h : RdBB w v ls) : ∃ ad cap, v = .slice ad ls.length cap ∧ ls.length ≤ cap ∧ cap ≤ maxLen := by
  obtain ⟨vs, ⟨_, ad, cap, e, h1, h2, _⟩, _⟩ := h
  exact ⟨ad, cap, e, h1, h2⟩
theorem RdBB.at {w : World} {ad : Option Addr} {n cap : Nat} {ls : List (List UInt8)} (h : RdBB w (.slice ad n cap) ls) {k : Nat} {l : List UInt8} (hk : ls[k]? = some l) :
    ∃ g off u, ad = some ⟨g, off, none⟩ ∧ w.cell? ⟨g, off + k, none⟩ = some u ∧ RdB w u l := by
  obtain ⟨vs, ⟨_, ad', cap', e, _, _, hc⟩, h2, h3⟩ := h
  cases e
  have hlt := (List.getElem?_eq_some_iff.1 hk).1
  obtain ⟨u, hu⟩ : ∃ u, vs[k]? = some u := ⟨_, List.getElem?_eq_getElem (by rw [h2]; exact hlt)⟩
  obtain ⟨g, off, rfl, hcell⟩ := hc k u hu
  exact ⟨g, off, u, rfl, hcell, h3 k u l hu hk⟩
theorem takeAt {α : Type} {l : List α} {k : Nat} {c : α} (h : l[k]? = some c) : l.take (k + 1) = l.take k ++ [c] := by
  obtain ⟨h1, h2⟩ := List.getElem?_eq_some_iff.1 h
  rw [take_snoc l k h1, h2]
set_option maxHeartbeats 4000000 in
theorem eqf_any (w : World) (x y : Value) (l m : List (List UInt8)) (hx : RdBB w x l) (hy : RdBB w y m) (r : Bool) (hr : (l == m) = r) :
    Calls Tryd.prog 46 #[x, y, .func (.func 17) #[] #[]] w fun e w' => e = .returned (.bool r) ∧ w = w' := by
  obtain ⟨ad, cap, rfl, h1, h2⟩ := hx.shape
  obtain ⟨ad', cap', rfl, h1', h2'⟩ := hy.shape
  unfold maxLen at h2 h2'
  have HX := Lw.hid hx; have HY := Lw.hid hy; have HR := Lw.hid hr
  obtain ⟨L, hL⟩ : ∃ L, l.length = L := ⟨_, rfl⟩
  obtain ⟨M, hM⟩ : ∃ M, m.length = M := ⟨_, rfl⟩
  rw [hL] at h1 HX ⊢; rw [hM] at h1' HY ⊢
  have HL := Lw.hid hL; have HM := Lw.hid hM
  clear hx hy hr hL hM
  by_cases hne : L = M
  · subst hne
    go_enter Tryd.func46, Tryd.ntmps46
    go_wp2_with fail
    go_loopg [17] L (fun gk i wr => ∃ k : Nat, gk = L - k ∧ k ≤ L ∧ i = .int .i64 (k : Int) ∧ l.take k = m.take k ∧ wr = w)
    case atStart => exact ⟨0, rfl, Nat.zero_le _, rfl, rfl, rfl⟩
    case round =>
      obtain ⟨k, rfl, hk, rfl, he, rfl⟩ := hrel
      have HE := Lw.hid he
      clear he
      by_cases hlt : k < L
      · obtain ⟨c, hlc⟩ : ∃ c, l[k]? = some c := ⟨_, List.getElem?_eq_getElem (by rw [HL.out]; exact hlt)⟩
        obtain ⟨d, hmd⟩ : ∃ d, m[k]? = some d := ⟨_, List.getElem?_eq_getElem (by rw [HM.out]; exact hlt)⟩
        obtain ⟨g, off, u, rfl, c1, hu⟩ := HX.out.at hlc
        obtain ⟨g', off', u', rfl, c2, hu'⟩ := HY.out.at hmd
        have HLC := Lw.hid hlc; have HMD := Lw.hid hmd
        have i0 : (0 : Int) ≤ (k : Int) := by omega
        have i1 : (k : Int) < (L : Int) := by omega
        have HU := Lw.hid hu; have HU' := Lw.hid hu'
        obtain ⟨au, cu, rfl, _, _, _⟩ := hu.open
        obtain ⟨au', cu', rfl, _, _, _⟩ := hu'.open
        obtain ⟨n1, hn1⟩ : ∃ n, c.length = n := ⟨_, rfl⟩
        obtain ⟨n2, hn2⟩ : ∃ n, d.length = n := ⟨_, rfl⟩
        rw [hn1] at c1 HU; rw [hn2] at c2 HU'
        have hkn : k + 1 ≤ L := hlt
        clear hlc hmd hu hu' hn1 hn2
        go_wp2_with fail
        refine (bequal_any wr _ _ c d HU.out HU'.out (c == d) rfl).mono ?_
        rintro e _ ⟨rfl, rfl⟩
        cases hcd : c == d with
        | true =>
          have hcd' : c = d := by simpa using hcd
          have HT : Hid (l.take (k + 1) = m.take (k + 1)) := Lw.hid (by rw [takeAt HLC.out, takeAt HMD.out, HE.out, hcd'])
          clear hcd hcd'
          go_wp2_with fail
          go_roundg (L - (k + 1))
          case measure => omega
          case rel => exact ⟨k + 1, rfl, hkn, by go_num, HT.out, rfl⟩
        | false =>
          have hne : Hid (l ≠ m) := Lw.hid (fun e => by
            have h1 := HLC.out; have h2 := HMD.out
            rw [e, h2] at h1
            cases h1
            simp at hcd)
          clear hcd
          go_wp2_with fail
          go_ret
          refine ⟨?_, rfl⟩
          rw [← HR.out, beq_eq_false_iff_ne.2 hne.out]; rfl
      · obtain rfl : k = L := by omega
        have hq : l = m := by
          have := HE.out
          rwa [List.take_of_length_le (by rw [HL.out]; exact Nat.le_refl _), List.take_of_length_le (by rw [HM.out]; exact Nat.le_refl _)] at this
        have HQ := Lw.hid hq
        clear hq
        go_wp2_with fail
        go_ret
        refine ⟨?_, rfl⟩
        rw [← HR.out, HQ.out]; simp
  · have hq : Hid (l ≠ m) := Lw.hid (fun e => hne (by rw [← HL.out, ← HM.out, e]))
    have hz : ((L : Int) != (M : Int)) = true := by rw [bne_iff_ne]; omega
    go_enter Tryd.func46, Tryd.ntmps46
    go_wp2_with fail
    go_ret
    refine ⟨?_, rfl⟩
    rw [← HR.out, beq_eq_false_iff_ne.2 hq.out]; rfl
theorem same_any (w : World) (x y : Value) (l m : List (List UInt8)) (hx : RdBB w x l) (hy : RdBB w y m) (r : Bool) (hr : (l == m) = r) :
    Calls Tryd.prog 25 #[x, y] w fun e w' => e = .returned (.bool r) ∧ w = w' := by
  obtain ⟨ad, cap, rfl, h1, h2⟩ := hx.shape
  obtain ⟨ad', cap', rfl, h1', h2'⟩ := hy.shape
  obtain ⟨L, hL⟩ : ∃ L, l.length = L := ⟨_, rfl⟩
  obtain ⟨M, hM⟩ : ∃ M, m.length = M := ⟨_, rfl⟩
  have HC := Lw.hid (eqf_any w _ _ l m hx hy r hr)
  rw [hL, hM] at HC
  rw [hL, hM]
  clear hx hy hL hM h1 h2 h1' h2' hr
  go_enter Tryd.func25, Tryd.ntmps25
  go_wp2_with fail
  refine HC.out.mono ?_
  rintro e _ ⟨rfl, rfl⟩
  go_wp2_with fail
  go_ret
  exact ⟨rfl, rfl⟩
end Go.Proofs.YtfmebmaklakckaaDoor
