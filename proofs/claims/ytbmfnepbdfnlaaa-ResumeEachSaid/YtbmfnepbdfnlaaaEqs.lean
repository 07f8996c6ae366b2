/- slices.Equal: rows of numbers, rows of what is had. -/
import Derived.Test.YtbmfnepbdfnlaaaFirst
import Derived.BigQuiet
import Derived.Laws.StructEq
namespace Go.Proofs.Ytbmfnepbdfnlaaa
open Go Go.RowKit Go.Lw
set_option maxRecDepth 100000
set_option linter.unusedVariables false
set_option linter.unusedSimpArgs false
def RdU (w : World) (v : Value) (l : List Nat) : Prop := Rd w 1 v l.length (l.map u32v)
theorem RdU.kept {S : Nat → Prop} {a b : World} {v : Value} {l : List Nat} (h : RdU a v l) (k : Kept S a b) (hd : ∀ i, blk v i → ¬ S i) : RdU b v l := Rd.kept k h hd
theorem RdU.keptF {a b : World} {v : Value} {l : List Nat} (h : RdU a v l) (k : Kept (fun _ => False) a b) : RdU b v l := h.kept k (fun _ _ h => h)
theorem RdU.own {w : World} {v : Value} {l : List Nat} {e n : Nat} (h : w.ownsRow 0 e 1 v n (l.map u32v)) (hn : n = l.length) : RdU w v l := by subst hn; exact Rd.own h
theorem RdU.shape {w : World} {v : Value} {l : List Nat} (h : RdU w v l) : ∃ a cap, v = .slice a l.length cap ∧ l.length ≤ cap ∧ cap ≤ 9223372036854775807 ∧
    ∀ k (hk : k < l.length), ∃ g off, a = some ⟨g, off, none⟩ ∧ w.cell? ⟨g, off + k, none⟩ = some (u32v l[k]) := by
  obtain ⟨hlx, ad, cap, rfl, h1, h2, hc⟩ := id h
  unfold maxLen at h2
  exact ⟨ad, cap, rfl, h1, by omega, fun k hk => hc k _ (by rw [List.getElem?_map, List.getElem?_eq_getElem hk]; rfl)⟩
theorem take_eq {α : Type} {l m : List α} {k : Nat} (h1 : k < l.length) (h2 : k < m.length) (he : l.take k = m.take k) (hx : l[k] = m[k]) : l.take (k + 1) = m.take (k + 1) := by
  rw [take_snoc l k h1, take_snoc m k h2, he, hx]
theorem take_all {α : Type} {l m : List α} {k : Nat} (h1 : l.length = k) (h2 : m.length = k) (he : l.take k = m.take k) : l = m := by
  rwa [List.take_of_length_le (by omega), List.take_of_length_le (by omega)] at he
set_option maxHeartbeats 4000000 in
theorem equ_any (w : World) (x y : Value) (l m : List Nat) (hx : RdU w x l) (hy : RdU w y m) (b : Bool) (hb : decide (l = m) = b) :
    Calls Try.prog 23 #[x, y] w fun e w' => e = .returned (.bool b) ∧ Kept (fun _ => False) w w' := by
  have HB : Hid (decide (l = m) = b) := Lw.hid hb
  clear hb
  obtain ⟨ad, cap, rfl, h1, h2, hc⟩ := hx.shape
  obtain ⟨ad', cap', rfl, h1', h2', hc'⟩ := hy.shape
  have HC := Lw.hid hc; have HC' := Lw.hid hc'
  clear hx hy hc hc'
  obtain ⟨L, hL⟩ : ∃ L, l.length = L := ⟨_, rfl⟩
  obtain ⟨M, hM⟩ : ∃ M, m.length = M := ⟨_, rfl⟩
  rw [hL] at h1 ⊢
  rw [hM] at h1' ⊢
  have HL : Hid (l.length = L) := Lw.hid hL
  have HM : Hid (m.length = M) := Lw.hid hM
  clear hL hM
  by_cases hne : L = M
  · subst hne
    go_enter Try.func23, Try.ntmps23
    go_wp2_with fail
    go_loopg [13] L (fun gk i wr => ∃ k : Nat, gk = L - k ∧ k ≤ L ∧ i = .int .i64 (k : Int) ∧ l.take k = m.take k ∧ Kept (fun _ => False) w wr)
    case atStart => exact ⟨0, rfl, Nat.zero_le _, rfl, rfl, Kept.refl _ _⟩
    case round =>
      obtain ⟨k, rfl, hk, rfl, he, hkk⟩ := hrel
      have HE := Lw.hid he; have HK := Lw.hid hkk
      clear he hkk
      by_cases hlt : k < L
      · have l1 : k < l.length := by rw [HL.out]; exact hlt
        have l2 : k < m.length := by rw [HM.out]; exact hlt
        obtain ⟨g, off, rfl, q0⟩ := HC.out k l1
        obtain ⟨g', off', rfl, r0⟩ := HC'.out k l2
        replace q0 := HK.out.cell q0 (fun h => h)
        replace r0 := HK.out.cell r0 (fun h => h)
        have i0 : (0 : Int) ≤ (k : Int) := by omega
        have i1 : (k : Int) < (L : Int) := by omega
        have HT := Lw.hid (fun h => take_eq l1 l2 HE.out h)
        have HN : Hid (l[k] ≠ m[k] → b = false) := Lw.hid (fun h => by rw [← HB.out]; simp only [decide_eq_false_iff_not]; intro e; subst e; exact h rfl)
        obtain ⟨t, ht⟩ : ∃ t, l[k] = t := ⟨_, rfl⟩
        obtain ⟨u, hu⟩ : ∃ u, m[k] = u := ⟨_, rfl⟩
        rw [ht, hu] at HT HN
        rw [ht] at q0
        rw [hu] at r0
        clear ht hu l1 l2
        by_cases hq : t = u
        · subst hq
          skip
          go_wp2_with fail
          go_quiet (fail)
          go_wp2_with fail
          have HD : Hid (Kept (fun _ => False) w (wr.drewN nq)) := Lw.hid (HK.out.trans (kept_drewN' wr nq) (fun _ _ h => h))
          go_roundg (L - (k + 1))
          case measure => omega
          case rel => exact ⟨k + 1, rfl, hlt, by go_num, HT.out (by trivial), HD.out⟩
        · have hbf := Lw.hid (HN.out hq)
          have hnb : ((t : Int) != (u : Int)) = true := by rw [bne_iff_ne]; omega
          go_wp2_with fail
          go_quiet (fail)
          go_wp2_with fail
          have HD : Hid (Kept (fun _ => False) w (wr.drewN nq)) := Lw.hid (HK.out.trans (kept_drewN' wr nq) (fun _ _ h => h))
          go_ret
          exact ⟨by rw [hbf.out]; rfl, HD.out⟩
      · obtain rfl : k = L := by omega
        have hbt : b = true := by rw [← HB.out]; simpa using take_all HL.out HM.out HE.out
        have HBT := Lw.hid hbt
        clear hbt
        go_wp2_with fail
        go_ret
        exact ⟨by rw [HBT.out]; rfl, HK.out⟩
  · have hbf : b = false := by rw [← HB.out]; simp only [decide_eq_false_iff_not]; intro e; subst e; exact hne (HL.out.symm.trans HM.out)
    have HBF := Lw.hid hbf
    have hnd : ((L : Int) != (M : Int)) = true := by rw [bne_iff_ne]; omega
    clear hbf
    go_enter Try.func23, Try.ntmps23
    go_wp2_with fail
    go_ret
    exact ⟨by rw [HBF.out]; rfl, Kept.refl _ _⟩
set_option maxHeartbeats 4000000 in
theorem eqh_any (w : World) (x y : Value) (l m : List Hv) (hx : RdH w x l) (hy : RdH w y m) (b : Bool) (hb : decide (l = m) = b) :
    Calls Try.prog 44 #[x, y] w fun e w' => e = .returned (.bool b) ∧ Kept (fun _ => False) w w' := by
  have HB : Hid (decide (l = m) = b) := Lw.hid hb
  clear hb
  obtain ⟨ad, cap, rfl, h1, h2, hc⟩ := hx.shape
  obtain ⟨ad', cap', rfl, h1', h2', hc'⟩ := hy.shape
  have HC := Lw.hid hc; have HC' := Lw.hid hc'
  clear hx hy hc hc'
  obtain ⟨L, hL⟩ : ∃ L, l.length = L := ⟨_, rfl⟩
  obtain ⟨M, hM⟩ : ∃ M, m.length = M := ⟨_, rfl⟩
  rw [hL] at h1 ⊢
  rw [hM] at h1' ⊢
  have HL : Hid (l.length = L) := Lw.hid hL
  have HM : Hid (m.length = M) := Lw.hid hM
  clear hL hM
  by_cases hne : L = M
  · subst hne
    go_enter Try.func44, Try.ntmps44
    go_wp2_with fail
    go_loopg [13] L (fun gk i wr => ∃ k : Nat, gk = L - k ∧ k ≤ L ∧ i = .int .i64 (k : Int) ∧ l.take k = m.take k ∧ Kept (fun _ => False) w wr)
    case atStart => exact ⟨0, rfl, Nat.zero_le _, rfl, rfl, Kept.refl _ _⟩
    case round =>
      obtain ⟨k, rfl, hk, rfl, he, hkk⟩ := hrel
      have HE := Lw.hid he; have HK := Lw.hid hkk
      clear he hkk
      by_cases hlt : k < L
      · have l1 : k < l.length := by rw [HL.out]; exact hlt
        have l2 : k < m.length := by rw [HM.out]; exact hlt
        obtain ⟨g, off, rfl, q0, q1, q2, q3⟩ := HC.out k l1
        obtain ⟨g', off', rfl, r0, r1, r2, r3⟩ := HC'.out k l2
        replace q0 := HK.out.cell q0 (fun h => h); replace q1 := HK.out.cell q1 (fun h => h); replace q2 := HK.out.cell q2 (fun h => h); replace q3 := HK.out.cell q3 (fun h => h)
        replace r0 := HK.out.cell r0 (fun h => h); replace r1 := HK.out.cell r1 (fun h => h); replace r2 := HK.out.cell r2 (fun h => h); replace r3 := HK.out.cell r3 (fun h => h)
        have i0 : (0 : Int) ≤ (k : Int) := by omega
        have i1 : (k : Int) < (L : Int) := by omega
        have HT := Lw.hid (fun h => take_eq l1 l2 HE.out h)
        have HN : Hid (l[k] ≠ m[k] → b = false) := Lw.hid (fun h => by rw [← HB.out]; simp only [decide_eq_false_iff_not]; intro e; subst e; exact h rfl)
        obtain ⟨t, ht⟩ : ∃ t, l[k] = t := ⟨_, rfl⟩
        obtain ⟨u, hu⟩ : ∃ u, m[k] = u := ⟨_, rfl⟩
        rw [ht, hu] at HT HN
        rw [ht] at q0 q1 q2 q3
        rw [hu] at r0 r1 r2 r3
        clear ht hu l1 l2
        by_cases hq : t = u
        · subst hq
          obtain ⟨ti, to, te, ts⟩ := t
          simp only at q0 q1 q2 q3 r0 r1 r2 r3
          go_wp2_with fail
          go_quiet (fail)
          go_wp2_with fail
          have HD : Hid (Kept (fun _ => False) w (wr.drewN nq)) := Lw.hid (HK.out.trans (kept_drewN' wr nq) (fun _ _ h => h))
          go_roundg (L - (k + 1))
          case measure => omega
          case rel => exact ⟨k + 1, rfl, hlt, by go_num, HT.out (by trivial), HD.out⟩
        · have hbf := Lw.hid (HN.out hq)
          obtain ⟨ti, to, te, ts⟩ := t
          obtain ⟨ui, uo, ue, us⟩ := u
          simp only at q0 q1 q2 q3 r0 r1 r2 r3
          by_cases e1 : ti = ui
          · subst e1
            by_cases e2 : to = uo
            · subst e2
              by_cases e3 : te = ue
              · subst e3
                have e4 : (ts == us) = false := by
                  cases ts <;> cases us <;> first | rfl | exact absurd rfl hq
                clear hq
                go_wp2_with fail
                go_quiet (fail)
                go_wp2_with fail
                have HD : Hid (Kept (fun _ => False) w (wr.drewN nq)) := Lw.hid (HK.out.trans (kept_drewN' wr nq) (fun _ _ h => h))
                go_ret
                exact ⟨by rw [hbf.out]; rfl, HD.out⟩
              · have hnb : ((te : Int) == (ue : Int)) = false := by rw [beq_eq_false_iff_ne]; omega
                clear hq
                go_wp2_with fail
                go_quiet (fail)
                go_wp2_with fail
                have HD : Hid (Kept (fun _ => False) w (wr.drewN nq)) := Lw.hid (HK.out.trans (kept_drewN' wr nq) (fun _ _ h => h))
                go_ret
                exact ⟨by rw [hbf.out]; rfl, HD.out⟩
            · have hnb : ((to : Int) == (uo : Int)) = false := by rw [beq_eq_false_iff_ne]; omega
              clear hq
              go_wp2_with fail
              go_quiet (fail)
              go_wp2_with fail
              have HD : Hid (Kept (fun _ => False) w (wr.drewN nq)) := Lw.hid (HK.out.trans (kept_drewN' wr nq) (fun _ _ h => h))
              go_ret
              exact ⟨by rw [hbf.out]; rfl, HD.out⟩
          · have hnb : ((ti : Int) == (ui : Int)) = false := by rw [beq_eq_false_iff_ne]; omega
            clear hq
            go_wp2_with fail
            go_quiet (fail)
            go_wp2_with fail
            have HD : Hid (Kept (fun _ => False) w (wr.drewN nq)) := Lw.hid (HK.out.trans (kept_drewN' wr nq) (fun _ _ h => h))
            go_ret
            exact ⟨by rw [hbf.out]; rfl, HD.out⟩
      · obtain rfl : k = L := by omega
        have hbt : b = true := by rw [← HB.out]; simpa using take_all HL.out HM.out HE.out
        have HBT := Lw.hid hbt
        clear hbt
        go_wp2_with fail
        go_ret
        exact ⟨by rw [HBT.out]; rfl, HK.out⟩
  · have hbf : b = false := by rw [← HB.out]; simp only [decide_eq_false_iff_not]; intro e; subst e; exact hne (HL.out.symm.trans HM.out)
    have HBF := Lw.hid hbf
    have hnd : ((L : Int) != (M : Int)) = true := by rw [bne_iff_ne]; omega
    clear hbf
    go_enter Try.func44, Try.ntmps44
    go_wp2_with fail
    go_ret
    exact ⟨by rw [HBF.out]; rfl, Kept.refl _ _⟩
set_option maxHeartbeats 4000000 in
theorem eqr_any (w : World) (x y : Value) (l m : List Hv) (hx : RdH w x l) (hy : RdH w y m) (b : Bool) (hb : decide (l = m) = b) :
    Calls Try.prog 25 #[x, y] w fun e w' => e = .returned (.bool b) ∧ Kept (fun _ => False) w w' := by
  have HB : Hid (decide (l = m) = b) := Lw.hid hb
  clear hb
  obtain ⟨ad, cap, rfl, h1, h2, hc⟩ := hx.shape
  obtain ⟨ad', cap', rfl, h1', h2', hc'⟩ := hy.shape
  have HC := Lw.hid hc; have HC' := Lw.hid hc'
  clear hx hy hc hc'
  obtain ⟨L, hL⟩ : ∃ L, l.length = L := ⟨_, rfl⟩
  obtain ⟨M, hM⟩ : ∃ M, m.length = M := ⟨_, rfl⟩
  rw [hL] at h1 ⊢
  rw [hM] at h1' ⊢
  have HL : Hid (l.length = L) := Lw.hid hL
  have HM : Hid (m.length = M) := Lw.hid hM
  clear hL hM
  by_cases hne : L = M
  · subst hne
    go_enter Try.func25, Try.ntmps25
    go_wp2_with fail
    go_loopg [13] L (fun gk i wr => ∃ k : Nat, gk = L - k ∧ k ≤ L ∧ i = .int .i64 (k : Int) ∧ l.take k = m.take k ∧ Kept (fun _ => False) w wr)
    case atStart => exact ⟨0, rfl, Nat.zero_le _, rfl, rfl, Kept.refl _ _⟩
    case round =>
      obtain ⟨k, rfl, hk, rfl, he, hkk⟩ := hrel
      have HE := Lw.hid he; have HK := Lw.hid hkk
      clear he hkk
      by_cases hlt : k < L
      · have l1 : k < l.length := by rw [HL.out]; exact hlt
        have l2 : k < m.length := by rw [HM.out]; exact hlt
        obtain ⟨g, off, rfl, q0, q1, q2, q3⟩ := HC.out k l1
        obtain ⟨g', off', rfl, r0, r1, r2, r3⟩ := HC'.out k l2
        replace q0 := HK.out.cell q0 (fun h => h); replace q1 := HK.out.cell q1 (fun h => h); replace q2 := HK.out.cell q2 (fun h => h); replace q3 := HK.out.cell q3 (fun h => h)
        replace r0 := HK.out.cell r0 (fun h => h); replace r1 := HK.out.cell r1 (fun h => h); replace r2 := HK.out.cell r2 (fun h => h); replace r3 := HK.out.cell r3 (fun h => h)
        have i0 : (0 : Int) ≤ (k : Int) := by omega
        have i1 : (k : Int) < (L : Int) := by omega
        have HT := Lw.hid (fun h => take_eq l1 l2 HE.out h)
        have HN : Hid (l[k] ≠ m[k] → b = false) := Lw.hid (fun h => by rw [← HB.out]; simp only [decide_eq_false_iff_not]; intro e; subst e; exact h rfl)
        obtain ⟨t, ht⟩ : ∃ t, l[k] = t := ⟨_, rfl⟩
        obtain ⟨u, hu⟩ : ∃ u, m[k] = u := ⟨_, rfl⟩
        rw [ht, hu] at HT HN
        rw [ht] at q0 q1 q2 q3
        rw [hu] at r0 r1 r2 r3
        clear ht hu l1 l2
        by_cases hq : t = u
        · subst hq
          obtain ⟨ti, to, te, ts⟩ := t
          simp only at q0 q1 q2 q3 r0 r1 r2 r3
          go_wp2_with fail
          go_quiet (fail)
          go_wp2_with fail
          have HD : Hid (Kept (fun _ => False) w (wr.drewN nq)) := Lw.hid (HK.out.trans (kept_drewN' wr nq) (fun _ _ h => h))
          go_roundg (L - (k + 1))
          case measure => omega
          case rel => exact ⟨k + 1, rfl, hlt, by go_num, HT.out (by trivial), HD.out⟩
        · have hbf := Lw.hid (HN.out hq)
          obtain ⟨ti, to, te, ts⟩ := t
          obtain ⟨ui, uo, ue, us⟩ := u
          simp only at q0 q1 q2 q3 r0 r1 r2 r3
          by_cases e1 : ti = ui
          · subst e1
            by_cases e2 : to = uo
            · subst e2
              by_cases e3 : te = ue
              · subst e3
                have e4 : (ts == us) = false := by
                  cases ts <;> cases us <;> first | rfl | exact absurd rfl hq
                clear hq
                go_wp2_with fail
                go_quiet (fail)
                go_wp2_with fail
                have HD : Hid (Kept (fun _ => False) w (wr.drewN nq)) := Lw.hid (HK.out.trans (kept_drewN' wr nq) (fun _ _ h => h))
                go_ret
                exact ⟨by rw [hbf.out]; rfl, HD.out⟩
              · have hnb : ((te : Int) == (ue : Int)) = false := by rw [beq_eq_false_iff_ne]; omega
                clear hq
                go_wp2_with fail
                go_quiet (fail)
                go_wp2_with fail
                have HD : Hid (Kept (fun _ => False) w (wr.drewN nq)) := Lw.hid (HK.out.trans (kept_drewN' wr nq) (fun _ _ h => h))
                go_ret
                exact ⟨by rw [hbf.out]; rfl, HD.out⟩
            · have hnb : ((to : Int) == (uo : Int)) = false := by rw [beq_eq_false_iff_ne]; omega
              clear hq
              go_wp2_with fail
              go_quiet (fail)
              go_wp2_with fail
              have HD : Hid (Kept (fun _ => False) w (wr.drewN nq)) := Lw.hid (HK.out.trans (kept_drewN' wr nq) (fun _ _ h => h))
              go_ret
              exact ⟨by rw [hbf.out]; rfl, HD.out⟩
          · have hnb : ((ti : Int) == (ui : Int)) = false := by rw [beq_eq_false_iff_ne]; omega
            clear hq
            go_wp2_with fail
            go_quiet (fail)
            go_wp2_with fail
            have HD : Hid (Kept (fun _ => False) w (wr.drewN nq)) := Lw.hid (HK.out.trans (kept_drewN' wr nq) (fun _ _ h => h))
            go_ret
            exact ⟨by rw [hbf.out]; rfl, HD.out⟩
      · obtain rfl : k = L := by omega
        have hbt : b = true := by rw [← HB.out]; simpa using take_all HL.out HM.out HE.out
        have HBT := Lw.hid hbt
        clear hbt
        go_wp2_with fail
        go_ret
        exact ⟨by rw [HBT.out]; rfl, HK.out⟩
  · have hbf : b = false := by rw [← HB.out]; simp only [decide_eq_false_iff_not]; intro e; subst e; exact hne (HL.out.symm.trans HM.out)
    have HBF := Lw.hid hbf
    have hnd : ((L : Int) != (M : Int)) = true := by rw [bne_iff_ne]; omega
    clear hbf
    go_enter Try.func25, Try.ntmps25
    go_wp2_with fail
    go_ret
    exact ⟨by rw [HBF.out]; rfl, Kept.refl _ _⟩
end Go.Proofs.Ytbmfnepbdfnlaaa
