/- Chapter 13: the document's own answers, walked. -/
import Derived.Test.YtbmfnepbdfnlaaaRef13P
namespace Go.Proofs.Ytbmfnepbdfnlaaa
open Go Go.RowKit Go.Lw
set_option maxRecDepth 100000
set_option linter.unusedVariables false
set_option linter.unusedSimpArgs false
/-- What the ref's functions hold: the Ask's box; the row. -/
structure RfAt (w wx : World) (nx m cap : Nat) (ad : Option Addr) : Prop where
  k : Kept (fun _ => False) w wx
  box : wx.heap[w.heap.size]? = some (.cells #[u32v nx, .slice ad m cap] 44 (0, 0))
theorem RfAt.start (w : World) (nx m cap : Nat) (ad : Option Addr) : RfAt w (w.alloc (.cells #[u32v nx, .slice ad m cap] 44)) nx m cap ad := ⟨(Kept.refl _ w).alloc _, heap_at _ _ rfl⟩
theorem RfAt.kept {w wx wy : World} {nx m cap : Nat} {ad : Option Addr} (h : RfAt w wx nx m cap ad) (k : Kept (fun _ => False) wx wy) : RfAt w wy nx m cap ad := ⟨h.k.trans k (fun _ _ h => h), k.heap h.box (fun h => h)⟩
theorem RfAt.rd {w wx : World} {nx m cap : Nat} {ad : Option Addr} (h : RfAt w wx nx m cap ad) {l : List Hv} (hl : RdH w (.slice ad m cap) l) : RdH wx (.slice ad m cap) l := hl.keptF h.k
theorem RfAt.cells {w wx : World} {nx m cap : Nat} {ad : Option Addr} (h : RfAt w wx nx m cap ad) : wx.cell? ⟨w.heap.size, 0, none⟩ = some (u32v nx) ∧ wx.cell? ⟨w.heap.size, 1, none⟩ = some (.slice ad m cap) := ⟨heap_cell h.box 0, heap_cell h.box 1⟩
theorem hv_at {w : World} {ad : Option Addr} {m cap : Nat} {l : List Hv} (h : RdH w (.slice ad m cap) l) {k : Nat} (hk : k < l.length) : ∃ g off, ad = some ⟨g, off, none⟩ ∧ w.cell? ⟨g, off + k * 4, none⟩ = some (u32v l[k].id) ∧ w.cell? ⟨g, off + k * 4 + 1, none⟩ = some (u32v l[k].out) ∧ w.cell? ⟨g, off + k * 4 + 2, none⟩ = some (u32v l[k].er) ∧ w.cell? ⟨g, off + k * 4 + 3, none⟩ = some (.bool l[k].st) := by
  obtain ⟨a, c, e, _, _, h3⟩ := h.shape
  cases e
  exact h3 k hk
set_option maxHeartbeats 4000000 in
theorem rhas_any (w : World) (v : Value) (l : List Hv) (hl : RdH w v l) (nx n : Nat) (hl9 : l.length ≤ 1000000) :
    Calls Try.prog 46 #[.agg #[u32v nx, v], u32v n] w fun x w' => x = .returned (.bool (hasF l n)) ∧ Kept (fun _ => False) w w' := by
  obtain ⟨ad, cap, rfl, h1, h2, _⟩ := hl.shape
  obtain ⟨b, hb⟩ : ∃ b, hasF l n = b := ⟨_, rfl⟩
  have HB := Lw.hid hb
  rw [hb]
  have HL := Lw.hid hl
  obtain ⟨m, hm⟩ : ∃ m, l.length = m := ⟨_, rfl⟩
  have HM := Lw.hid hm
  rw [hm] at h1 hl9 HL ⊢
  have HS := Lw.hid (RfAt.start w nx m cap ad)
  clear hl hm hb
  go_enter Try.func46, Try.ntmps46
  go_wp2_with fail
  go_loopg [5] m (fun gk i wr => ∃ k : Nat, gk = m - k ∧ k ≤ m ∧ i = .int .i64 k ∧ hasF (l.take k) n = false ∧ RfAt w wr nx m cap ad)
  case atStart => exact ⟨0, rfl, Nat.zero_le _, rfl, rfl, HS.out⟩
  case round =>
    obtain ⟨k, rfl, hk, rfl, hn, hr⟩ := hrel
    obtain ⟨b0, b1⟩ := hr.cells
    have HR := Lw.hid hr; have HN := Lw.hid hn
    clear hr hn
    by_cases hlt : k < m
    · have hlt' : k < l.length := by rw [HM.out]; exact hlt
      obtain ⟨g, off, rfl, q0, q1, q2, q3⟩ := hv_at (HR.out.rd HL.out) hlt'
      have HX := Lw.hid (fun e => hasF_none hlt' HN.out e)
      have HY : Hid (l[k].id = n → b = true) := Lw.hid (fun e => by rw [← HB.out]; exact hasF_some hlt' e)
      obtain ⟨t, ht⟩ : ∃ t, l[k] = t := ⟨_, rfl⟩
      rw [ht] at q0 q1 q2 q3 HX HY
      clear ht
      by_cases e : t.id = n
      · have hc : ((t.id : Int) == (n : Int)) = true := by rw [beq_iff_eq]; omega
        have hbt := Lw.hid (HY.out e)
        clear e
        go_wp2_with fail
        go_ret
        exact ⟨by rw [hbt.out]; rfl, HR.out.k⟩
      · have hc : ((t.id : Int) == (n : Int)) = false := by rw [beq_eq_false_iff_ne]; omega
        have hx := Lw.hid (HX.out e)
        clear e
        go_wp2_with fail
        go_roundg (m - (k + 1))
        case measure => omega
        case rel => exact ⟨k + 1, rfl, hlt, by go_num, hx.out, HR.out⟩
    · obtain rfl : k = m := by omega
      have hbf : b = false := by have := HN.out; rw [List.take_of_length_le (by rw [HM.out]; exact Nat.le_refl _), HB.out] at this; exact this
      have HBF := Lw.hid hbf
      clear hbf
      go_wp2_with fail
      go_ret
      exact ⟨by rw [HBF.out]; rfl, HR.out.k⟩
def leastAt (l : List Hv) (k : Nat) : Nat := match k with
  | 0 => 1
  | k + 1 => (l[k]?.map fun h => h.id + 1).getD 1
theorem least_succ {l : List Hv} {k : Nat} (hk : k < l.length) : leastAt l (k + 1) = l[k].id + 1 := by
  rw [show leastAt l (k + 1) = (l[k]?.map fun h => h.id + 1).getD 1 from rfl, List.getElem?_eq_getElem hk]; rfl
theorem least_step {nx : Nat} {l : List Hv} {k : Nat} (hk : k < l.length) (h : mayL nx (leastAt l k) (l.drop k) = mayL nx 1 l) (hc : ¬ (l[k].id < leastAt l k ∨ nx ≤ l[k].id)) :
    mayL nx (leastAt l (k + 1)) (l.drop (k + 1)) = mayL nx 1 l := by
  rw [← h, drop_cons hk]
  conv => rhs; unfold mayL
  rw [if_neg hc, least_succ hk]
theorem least_stop {nx : Nat} {l : List Hv} {k : Nat} (hk : k < l.length) (h : mayL nx (leastAt l k) (l.drop k) = mayL nx 1 l) (hc : l[k].id < leastAt l k ∨ nx ≤ l[k].id) : mayF nx l = false := by
  unfold mayF
  rw [← h, drop_cons hk]
  unfold mayL
  rw [if_pos hc]; rfl
set_option maxHeartbeats 8000000 in
theorem rmay_any (w : World) (v : Value) (l : List Hv) (hl : RdH w v l) (nx : Nat) (hnx : nx < 4294967296) (hl9 : l.length ≤ 1000000) :
    Calls Try.prog 32 #[.agg #[u32v nx, v]] w fun x w' => x = .returned (.bool (mayF nx l)) ∧ Kept (fun _ => False) w w' := by
  obtain ⟨ad, cap, rfl, h1, h2, _⟩ := hl.shape
  obtain ⟨b, hb⟩ : ∃ b, mayF nx l = b := ⟨_, rfl⟩
  have HB := Lw.hid hb
  rw [hb]
  have HL := Lw.hid hl
  obtain ⟨m, hm⟩ : ∃ m, l.length = m := ⟨_, rfl⟩
  have HM := Lw.hid hm
  rw [hm] at h1 hl9 HL ⊢
  have HS := Lw.hid (RfAt.start w nx m cap ad)
  clear hl hm hb
  go_enter Try.func32, Try.ntmps32
  go_wp2_with fail
  go_loopg [3] m (fun gk i wr => ∃ k : Nat, gk = m - k ∧ k ≤ m ∧ i = .int .i64 k ∧ mayL nx (leastAt l k) (l.drop k) = mayL nx 1 l ∧ RfAt w wr nx m cap ad)
  case atStart => exact ⟨0, rfl, Nat.zero_le _, rfl, rfl, HS.out⟩
  case round =>
    obtain ⟨k, rfl, hk, rfl, hn, hr⟩ := hrel
    obtain ⟨b0, b1⟩ := hr.cells
    have HR := Lw.hid hr; have HN := Lw.hid hn
    clear hr hn
    by_cases hlt : k < m
    · have hlt' : k < l.length := by rw [HM.out]; exact hlt
      have i0 : (0 : Int) ≤ (k : Int) := by omega
      have i1 : (k : Int) < (m : Int) := by omega
      obtain ⟨g, off, rfl, q0, q1, q2, q3⟩ := hv_at (HR.out.rd HL.out) hlt'
      have HX := Lw.hid (fun e => least_step hlt' HN.out e)
      have HY : Hid ((l[k].id < leastAt l k ∨ nx ≤ l[k].id) → b = false) := Lw.hid (fun e => by rw [← HB.out]; exact least_stop hlt' HN.out e)
      have hok := (HL.out.2 l[k] (List.getElem_mem hlt')).id
      cases k with
      | zero =>
        obtain ⟨t, ht⟩ : ∃ t, l[0] = t := ⟨_, rfl⟩
        rw [ht] at q0 q1 q2 q3 HX HY hok
        clear ht
        rw [show leastAt l 0 = 1 from rfl] at HX HY
        simp only [Nat.zero_mul, Nat.add_zero] at q0 q1 q2 q3
        by_cases e1 : t.id < 1
        · have hbf := Lw.hid (HY.out (.inl e1))
          have z1 : decide ((t.id : Int) < 1) = true := by simp; omega
          go_wp2_with fail
          go_quiet (fail)
          go_wp2_with fail
          have HD := Lw.hid (HR.out.kept (kept_drewN' wr nq))
          go_ret
          exact ⟨by rw [hbf.out]; rfl, HD.out.k⟩
        · have z1 : decide ((t.id : Int) < 1) = false := by simp; omega
          by_cases e2 : nx ≤ t.id
          · have hbf := Lw.hid (HY.out (.inr e2))
            have z2 : decide (nx ≤ t.id) = true := by simp; omega
            go_wp2_with fail
            go_quiet (fail)
            go_wp2_with fail
            have HD := Lw.hid (HR.out.kept (kept_drewN' wr nq))
            go_ret
            exact ⟨by rw [hbf.out]; rfl, HD.out.k⟩
          · have hx := Lw.hid (HX.out (by omega))
            have z2 : decide (nx ≤ t.id) = false := by simp; omega
            go_wp2_with fail
            go_quiet (fail)
            go_wp2_with fail
            have HD := Lw.hid (HR.out.kept (kept_drewN' wr nq))
            go_roundg (m - (0 + 1))
            case measure => omega
            case rel => exact ⟨0 + 1, rfl, hlt, by go_num, hx.out, HD.out⟩
      | succ j =>
        have hj' : j < l.length := by omega
        obtain ⟨g', off', he, p0, p1, p2, p3⟩ := hv_at (HR.out.rd HL.out) hj'
        cases he
        have hokj := (HL.out.2 l[j] (List.getElem_mem hj')).id
        have hle := least_succ hj'
        rw [hle] at HX HY
        obtain ⟨t, ht⟩ : ∃ t, l[j + 1] = t := ⟨_, rfl⟩
        rw [ht] at q0 q1 q2 q3 HX HY hok
        obtain ⟨u, hu⟩ : ∃ u, l[j] = u := ⟨_, rfl⟩
        rw [hu] at p0 p1 p2 p3 HX HY hokj
        clear ht hu hle
        have z0 : decide ((0 : Int) < ((j + 1 : Nat) : Int)) = true := by simp
        have j0 : (0 : Int) ≤ (j : Int) := by omega
        have j1 : (j : Int) < (m : Int) := by omega
        have hjj : (((j + 1 : Nat) : Int) - 1) = (j : Int) := by omega
        by_cases e1 : t.id < 1
        · have hbf := Lw.hid (HY.out (.inl (by omega)))
          have z1 : decide ((t.id : Int) < 1) = true := by simp; omega
          go_wp2_with fail
          go_quiet (fail)
          go_wp2_with fail
          have HD := Lw.hid (HR.out.kept (kept_drewN' wr nq))
          go_ret
          exact ⟨by rw [hbf.out]; rfl, HD.out.k⟩
        · have z1 : decide ((t.id : Int) < 1) = false := by simp; omega
          by_cases e2 : nx ≤ t.id
          · have hbf := Lw.hid (HY.out (.inr e2))
            have z2 : decide (nx ≤ t.id) = true := by simp; omega
            go_wp2_with fail
            go_quiet (fail)
            go_wp2_with fail
            have HD := Lw.hid (HR.out.kept (kept_drewN' wr nq))
            go_ret
            exact ⟨by rw [hbf.out]; rfl, HD.out.k⟩
          · have z2 : decide (nx ≤ t.id) = false := by simp; omega
            by_cases e3 : t.id ≤ u.id
            · have hbf := Lw.hid (HY.out (.inl (by omega)))
              have z3 : decide (t.id ≤ u.id) = true := by simp; omega
              go_wp2_with fail
              go_quiet (fail)
              go_wp2_with fail
              have HD := Lw.hid (HR.out.kept (kept_drewN' wr nq))
              go_ret
              exact ⟨by rw [hbf.out]; rfl, HD.out.k⟩
            · have hx := Lw.hid (HX.out (by omega))
              have z3 : decide (t.id ≤ u.id) = false := by simp; omega
              go_wp2_with fail
              go_quiet (fail)
              go_wp2_with fail
              have HD := Lw.hid (HR.out.kept (kept_drewN' wr nq))
              go_roundg (m - (j + 1 + 1))
              case measure => omega
              case rel => exact ⟨j + 1 + 1, rfl, hlt, by go_num, hx.out, HD.out⟩
    · obtain rfl : k = m := by omega
      have hml : mayL nx 1 l = true := by
        rw [← HN.out, List.drop_of_length_le (by rw [HM.out]; exact Nat.le_refl _)]; rfl
      have HBT : Hid (b = (decide (0 < nx) && decide (k ≤ 16))) := Lw.hid (by rw [← HB.out]; unfold mayF; rw [hml, HM.out]; rfl)
      clear hml
      by_cases e1 : 0 < nx
      · have z1 : decide ((1 : Int) ≤ (nx : Int)) = true := by simp; omega
        by_cases e2 : k ≤ 16
        · have hz : decide ((k : Int) ≤ 16) = true := by simp; omega
          go_wp2_with fail
          go_ret
          exact ⟨by rw [HBT.out]; simp [e1, e2], HR.out.k⟩
        · have hz : decide ((k : Int) ≤ 16) = false := by simp; omega
          go_wp2_with fail
          go_ret
          exact ⟨by rw [HBT.out]; simp [e1, e2], HR.out.k⟩
      · have z1 : decide ((1 : Int) ≤ (nx : Int)) = false := by simp; omega
        go_wp2_with fail
        go_ret
        exact ⟨by rw [HBT.out]; simp [e1], HR.out.k⟩
end Go.Proofs.Ytbmfnepbdfnlaaa
