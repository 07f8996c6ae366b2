/- resume.Ask: May, above, Fits; seq.Span: All, Missing; Safe. -/
import Derived.Test.YtbmfnepbdfnlaaaMissing
namespace Go.Proofs.Ytbmfnepbdfnlaaa
open Go Go.RowKit Go.Lw
set_option maxRecDepth 100000
set_option linter.unusedVariables false
set_option linter.unusedSimpArgs false
/-- May, plain. -/
def mayL (nx : Nat) : Nat → List Hv → Bool
  | _, [] => true
  | least, h :: l => if h.id < least ∨ nx ≤ h.id then false else mayL nx (h.id + 1) l
def mayF (nx : Nat) (l : List Hv) : Bool := mayL nx 1 l && decide (0 < nx) && decide (l.length ≤ 16)
theorem drop_cons {α : Type} {l : List α} {k : Nat} (hk : k < l.length) : l.drop k = l[k] :: l.drop (k + 1) := List.drop_eq_getElem_cons hk
set_option maxHeartbeats 4000000 in
theorem may_any (w : World) (v : Value) (l : List Hv) (hl : RdH w v l) (nx : Nat) (hnx : nx < 4294967296) (hl9 : l.length ≤ 1000000) :
    Calls Try.prog 15 #[.agg #[u32v nx, v]] w fun x w' => x = .returned (.bool (mayF nx l)) ∧ Kept (fun _ => False) w w' := by
  obtain ⟨ad, cap, rfl, h1, h2, hc⟩ := hl.shape
  have HC := Lw.hid hc; have HOK := Lw.hid hl.2
  obtain ⟨b, hb⟩ : ∃ b, mayF nx l = b := ⟨_, rfl⟩
  have HB := Lw.hid hb
  obtain ⟨m, hm⟩ : ∃ m, l.length = m := ⟨_, rfl⟩
  have HM := Lw.hid hm
  rw [hm] at h1 hl9 ⊢
  rw [hb]
  clear hc hl hm hb
  have KA : Hid (Kept (fun _ => False) w (w.alloc (.cells #[u32v nx, .slice ad m cap] 26))) := Lw.hid ((Kept.refl _ w).alloc _)
  have HA : Hid ((w.alloc (.cells #[u32v nx, .slice ad m cap] 26)).heap[w.heap.size]? = some (.cells #[u32v nx, .slice ad m cap] 26 (0, 0))) := Lw.hid (heap_alloc w _)
  have HAS : Hid ((w.alloc (.cells #[u32v nx, .slice ad m cap] 26)).heap.size = w.heap.size + 1) := Lw.hid (by simp)
  go_enter Try.func15, Try.ntmps15
  go_wp2_with fail
  go_loopg [3, 9] m (fun gk s3 s9 wr => ∃ (k least : Nat), gk = m - k ∧ k ≤ m ∧ s9 = .int .i64 k ∧ s3 = u32v least ∧ least < 4294967296 ∧ mayL nx least (l.drop k) = mayL nx 1 l ∧ Kept (fun _ => False) w wr ∧ wr.heap[w.heap.size]? = some (.cells #[u32v nx, .slice ad m cap] 26 (0, 0)))
  case atStart => exact ⟨0, 1, rfl, Nat.zero_le _, rfl, rfl, by decide, rfl, KA.out, HA.out⟩
  case round =>
    obtain ⟨k, least, rfl, hk, rfl, rfl, hle, hml, hkk, hA⟩ := hrel
    have HKK := Lw.hid hkk; have HML := Lw.hid hml
    have a0 := heap_cell hA 0; have a1 := heap_cell hA 1
    have HA' := Lw.hid hA
    clear hkk hml hA
    by_cases hlt : k < m
    · have hlt' : k < l.length := by rw [HM.out]; exact hlt
      obtain ⟨g, off, rfl, c0, c1, c2, c3⟩ := HC.out k hlt'
      have hok := HOK.out l[k] (List.getElem_mem hlt')
      have HD := Lw.hid (drop_cons hlt')
      obtain ⟨t, ht⟩ : ∃ t, l[k] = t := ⟨_, rfl⟩
      rw [ht] at c0 c1 c2 c3 hok HD
      have hid_ := hok.id
      have b0 := HKK.out.cell c0 (fun h => h); have b1 := HKK.out.cell c1 (fun h => h); have b2 := HKK.out.cell c2 (fun h => h); have b3 := HKK.out.cell c3 (fun h => h)
      have KX : Hid (Kept (fun _ => False) w (wr.alloc (.cells #[u32v t.id, u32v t.out, u32v t.er, .bool t.st] 35))) := Lw.hid (HKK.out.alloc _)
      have HX : Hid ((wr.alloc (.cells #[u32v t.id, u32v t.out, u32v t.er, .bool t.st] 35)).heap[w.heap.size]? = some (.cells #[u32v nx, .slice (some ⟨g, off, none⟩) m cap] 26 (0, 0))) := Lw.hid (((Kept.refl (fun _ => False) wr).alloc _).heap HA'.out (fun h => h))
      have a0' := heap_cell HX.out 0; have a1' := heap_cell HX.out 1
      clear c0 c1 c2 c3 ht hok
      by_cases e1 : t.id < least
      · have hbf : b = false := by
          rw [← HB.out]; unfold mayF
          have := HML.out
          rw [HD.out] at this
          rw [← this]; unfold mayL; rw [if_pos (.inl e1)]; rfl
        go_wp2_with fail
        go_ret
        exact ⟨by rw [hbf]; rfl, KX.out⟩
      · by_cases e2 : nx ≤ t.id
        · have hbf : b = false := by
            rw [← HB.out]; unfold mayF
            have := HML.out
            rw [HD.out] at this
            rw [← this]; unfold mayL; rw [if_pos (.inr e2)]; rfl
          go_wp2_with fail
          go_ret
          exact ⟨by rw [hbf]; rfl, KX.out⟩
        · go_wp2_with fail
          go_roundg (m - (k + 1))
          case measure => omega
          case rel => exact ⟨k + 1, t.id + 1, rfl, hlt, by go_num, by go_num, by omega, by
            rw [← HML.out, HD.out]
            conv => rhs; unfold mayL
            rw [if_neg (by omega)], KX.out, HX.out⟩
    · obtain rfl : k = m := by omega
      have hml : mayL nx 1 l = true := by
        rw [← HML.out, List.drop_of_length_le (by rw [HM.out]; exact Nat.le_refl _)]; rfl
      have hbt : b = (decide (0 < nx) && decide (k ≤ 16)) := by rw [← HB.out]; unfold mayF; rw [hml, HM.out]; rfl
      clear hml
      have HBT := Lw.hid hbt
      clear hbt
      by_cases e1 : 0 < nx
      · by_cases e2 : k ≤ 16
        · have hz : decide ((k : Int) ≤ 16) = true := by simp; omega
          go_wp2_with fail
          go_ret
          exact ⟨by rw [HBT.out]; simp [e1, e2], HKK.out⟩
        · have hz : decide ((k : Int) ≤ 16) = false := by simp; omega
          go_wp2_with fail
          go_ret
          exact ⟨by rw [HBT.out]; simp [e1, e2], HKK.out⟩
      · go_wp2_with fail
        go_ret
        exact ⟨by rw [HBT.out]; simp [e1], HKK.out⟩
theorem above_any (w : World) (ad : Option Addr) (n c nx last : Nat) (h : last + 1 < 4294967296) :
    Calls Try.prog 37 #[.agg #[u32v nx, .slice ad n c], u32v last] w fun x w' => x = .returned (.agg #[u32v (last + 1), u32v nx]) ∧ Kept (fun _ => False) w w' := by
  go_enter Try.func37, Try.ntmps37
  go_wp2_with fail
  refine bodyPost_ret (v := .agg #[u32v (last + 1), u32v nx]) (by simp [results, go_sem]) rfl ⟨rfl, ((Kept.refl _ w).alloc _).alloc _⟩
theorem all_any (w : World) (a b : Nat) :
    Calls Try.prog 38 #[.agg #[u32v a, u32v b]] w fun x w' => x = .returned (.func (.func 57) #[] #[.pointer (some ⟨w.heap.size, 0, none⟩)]) ∧ w' = w.alloc (.cells #[u32v a, u32v b] 76) := by
  go_enter Try.func38, Try.ntmps38
  go_wp2_with fail
  go_ret
  exact ⟨rfl, rfl⟩
theorem safe_any (w : World) (f : Nat) (pre lb : Array Value) :
    Calls Try.prog 9 #[.func (.func f) pre lb] w fun x w' => x = .returned (.func (.func f) pre lb) ∧ w' = w := by
  have he := run_func_nil (P := Try.prog) w 29 (.func f) pre lb Try.underlying29
  go_enter Try.func9, Try.ntmps9
  go_wp2_with fail
  go_ret
  exact ⟨rfl, rfl⟩
theorem safeH_any (w : World) (f : Nat) (pre lb : Array Value) :
    Calls Try.prog 11 #[.func (.func f) pre lb] w fun x w' => x = .returned (.func (.func f) pre lb) ∧ w' = w := by
  have he := run_func_nil (P := Try.prog) w 32 (.func f) pre lb Try.underlying32
  go_enter Try.func11, Try.ntmps11
  go_wp2_with fail
  go_ret
  exact ⟨rfl, rfl⟩
end Go.Proofs.Ytbmfnepbdfnlaaa
