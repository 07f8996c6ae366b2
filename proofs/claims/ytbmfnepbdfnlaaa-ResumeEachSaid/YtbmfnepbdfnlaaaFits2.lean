/- seq.Span.Missing, resume.Ask.Fits. -/
import Derived.Test.YtbmfnepbdfnlaaaFits
import Derived.Deep.RegionHeld3
import Derived.Deep.Cut
namespace Go.Proofs.Ytbmfnepbdfnlaaa
open Go Go.RowKit Go.Lw
set_option maxRecDepth 100000
set_option linter.unusedVariables false
set_option linter.unusedSimpArgs false
attribute [local go_sem] Oper.semAt_some
theorem those_any (w : World) (f g : Nat) (lf lg : Array Value) :
    Calls Try.prog 58 #[.func (.func f) #[] lf, .func (.func g) #[] lg] w fun x w' => x = .returned (.func (.func 65) #[] #[.pointer (some ⟨w.heap.size, 0, none⟩), .pointer (some ⟨w.heap.size + 1, 0, none⟩)]) ∧
      w' = (w.alloc (.cells #[.func (.func f) #[] lf] 29)).alloc (.cells #[.func (.func g) #[] lg] 74) := by
  go_enter Try.func58, Try.ntmps58
  go_wp2_with fail
  go_ret
  exact ⟨rfl, rfl⟩
theorem heap_alloc_lt {w : World} {k : Nat} {o o' : Obj} (h : w.heap[k]? = some o) : (w.alloc o').heap[k]? = some o := ((Kept.refl (fun _ => False) w).alloc o').heap h (fun h => h)
theorem heap_at (w : World) (o : Obj) {k : Nat} (h : k = w.heap.size) : (w.alloc o).heap[k]? = some o := by subst h; exact heap_alloc w o
set_option maxHeartbeats 2000000 in
theorem missing_any (w : World) (a n nx : Nat) (v : Value) (l : List Hv) (hl : RdH w v l) :
    Calls Try.prog 42 #[.agg #[u32v a, u32v (a + n)], hasV nx v] w fun x w' => ∃ BA BS B C, x = .returned (.func (.func 65) #[] #[.pointer (some ⟨BA, 0, none⟩), .pointer (some ⟨BS, 0, none⟩)]) ∧ MissAt w' BA BS B C a n nx v l ∧ Kept (fun _ => False) w w' ∧
      (w.heap.size ≤ BA ∧ w.heap.size ≤ BS ∧ w.heap.size ≤ B ∧ w.heap.size ≤ C) := by
  have HL := Lw.hid hl
  clear hl
  go_enter Try.func42, Try.ntmps42
  go_wp2_with fail
  refine (all_any _ a (a + n)).mono ?_
  rintro x w1 ⟨rfl, rfl⟩
  go_wp2_with fail
  refine (those_any _ _ _ _ _).mono ?_
  rintro x w2 ⟨rfl, rfl⟩
  go_wp2_with fail
  go_ret
  have k2 : Kept (fun _ => False) w (((w.alloc (.cells #[u32v a, u32v (a + n)] 76)).alloc (.cells #[hasV nx v] 74)).alloc (.cells #[u32v a, u32v (a + n)] 76)) := (((Kept.refl _ w).alloc _).alloc _).alloc _
  refine ⟨w.heap.size + 1 + 1 + 1, w.heap.size + 1 + 1 + 1 + 1, w.heap.size + 1 + 1, w.heap.size + 1, rfl, ⟨?_, ?_, ?_, ?_, ?_⟩, (k2.alloc _).alloc _, by omega, by omega, by omega, by omega⟩
  · exact heap_alloc_lt (heap_at _ _ (by simp))
  · exact heap_at _ _ (by simp)
  · exact heap_alloc_lt (heap_alloc_lt (heap_at _ _ (by simp)))
  · exact heap_alloc_lt (heap_alloc_lt (heap_alloc_lt (heap_at _ _ (by simp))))
  · exact HL.out.keptF ((k2.alloc _).alloc _)
/-- Fits, plain: an error's number. -/
def missF (nx last : Nat) (l : List Hv) : List Nat := (upto (last + 1) (nx - (last + 1))).filter fun x => !hasF l x
def fitsF (nx last : Nat) (l : List Hv) : Nat := if mayF nx l = false then 1 else if nx ≤ last then 5 else if missF nx last l = [] then 0 else 6
set_option maxHeartbeats 8000000 in
theorem fits_any (w : World) (v : Value) (l : List Hv) (hl : RdH w v l) (nx last : Nat) (hnx : nx < 4294967296) (hla : last < 4294967296) (hl9 : l.length ≤ 1000000) (hv : ∀ k, blk v k → k < w.heap.size) :
    Calls Try.prog 14 #[.agg #[u32v nx, v], u32v last] w fun x w' => x = .returned (.int .i64 (fitsF nx last l : Int)) ∧ Kept (fun _ => False) w w' := by
  obtain ⟨ad, cap, rfl, h1, h2, _⟩ := hl.shape
  have HL := Lw.hid hl
  have HV := Lw.hid hv
  obtain ⟨r, hr⟩ : ∃ r, fitsF nx last l = r := ⟨_, rfl⟩
  have HR := Lw.hid hr
  rw [hr]
  obtain ⟨m, hm⟩ : ∃ m, l.length = m := ⟨_, rfl⟩
  have HM := Lw.hid hm
  rw [hm] at h1 hl9 HL HV ⊢
  clear hl hv hr hm
  refine calls_of_wp_marks Try.func14 rfl ?_
  simp only [Try.ntmps14, List.size_toArray, List.length_cons, List.length_nil, Nat.reduceAdd, Nat.reduceSub, Array.replicate_succ, Array.replicate_zero, List.push_toArray, List.append_toArray, List.nil_append, List.cons_append]
  obtain ⟨wa, hwa⟩ : ∃ wa, (w.alloc (.cells #[u32v nx, .slice ad m cap] 26)).alloc (.cells #[.int .i64 0] 37) = wa := ⟨_, rfl⟩
  have KA : Hid (Kept (fun _ => False) w wa) := Lw.hid (by rw [← hwa]; exact ((Kept.refl _ w).alloc _).alloc _)
  have hA : wa.heap[w.heap.size]? = some (.cells #[u32v nx, .slice ad m cap] 26 (0, 0)) := by rw [← hwa]; exact heap_alloc_lt (heap_at _ _ rfl)
  have hE : wa.heap[w.heap.size + 1]? = some (.cells #[.int .i64 0] 37 (0, 0)) := by rw [← hwa]; exact heap_at _ _ (by simp)
  have HWA := Lw.hid hwa
  clear hwa
  go_upto_region 1 with fail
  rw [HWA.out]
  have a0 := heap_cell hA 0; have a1 := heap_cell hA 1; have e0 := heap_cell hE 0
  go_wp2_with fail
  refine (may_any wa _ l (HL.out.keptF KA.out) nx hnx (by rw [HM.out]; exact hl9)).mono ?_
  rintro x w1 ⟨rfl, k1⟩
  have K1 := Lw.hid (KA.out.trans k1 (fun _ _ h => h))
  have hA1 := k1.heap hA (fun h => h); have hE1 := k1.heap hE (fun h => h)
  clear k1 a0 a1 e0 hA hE
  have a0 := heap_cell hA1 0; have a1 := heap_cell hA1 1; have e0 := heap_cell hE1 0
  have f0 := heap_free hE1 0
  cases hmay : mayF nx l with
  | false =>
    have hr1 : r = 1 := by rw [← HR.out]; unfold fitsF; rw [if_pos hmay]
    go_wp2_with fail
    refine leaves_marks [] _ (by simp) (by simp) (fun V' hk => ⟨.int .i64 1, ?_, ?_, ?_⟩)
    · have hc : V'.cell? ⟨w.heap.size + 1, 0, none⟩ = some (.int .i64 1) := hk.cell (World.cell?_setCell_same' _ _ _ (by rw [e0]; rfl)) (by simp)
      simp [results, go_sem, hc]
    · rw [hr1]; rfl
    · exact (K1.out.set _ _ (fun h => by omega) _).trans hk (fun i _ h => by simp at h)
  | true =>
    by_cases hnl : nx ≤ last
    · have hr1 : r = 5 := by rw [← HR.out]; unfold fitsF; rw [if_neg (by rw [hmay]; simp), if_pos hnl]
      go_wp2_with fail
      refine leaves_marks [] _ (by simp) (by simp) (fun V' hk => ⟨.int .i64 5, ?_, ?_, ?_⟩)
      · have hc : V'.cell? ⟨w.heap.size + 1, 0, none⟩ = some (.int .i64 5) := hk.cell (World.cell?_setCell_same' _ _ _ (by rw [e0]; rfl)) (by simp)
        simp [results, go_sem, hc]
      · rw [hr1]; rfl
      · exact (K1.out.set _ _ (fun h => by omega) _).trans hk (fun i _ h => by simp at h)
    · have HNX : Hid (nx = last + 1 + (nx - (last + 1))) := Lw.hid (by omega)
      have HML : Hid (r = if missF nx last l = [] then 0 else 6) := Lw.hid (by rw [← HR.out]; unfold fitsF; rw [if_neg (by rw [hmay]; simp), if_neg hnl])
      have HMS : Hid (∀ wx, Kept (fun _ => False) w wx → Calls Try.prog 42 #[.agg #[u32v (last + 1), u32v nx], hasV nx (.slice ad m cap)] wx (fun x w' => ∃ BA BS B C, x = .returned (.func (.func 65) #[] #[.pointer (some ⟨BA, 0, none⟩), .pointer (some ⟨BS, 0, none⟩)]) ∧ MissAt w' BA BS B C (last + 1) (nx - (last + 1)) nx (.slice ad m cap) l ∧ Kept (fun _ => False) wx w' ∧
      (wx.heap.size ≤ BA ∧ wx.heap.size ≤ BS ∧ wx.heap.size ≤ B ∧ wx.heap.size ≤ C))) := Lw.hid (fun wx kx => by
        have := missing_any wx (last + 1) (nx - (last + 1)) nx _ l (HL.out.keptF kx)
        rw [← HNX.out] at this
        exact this)
      have HDR : Hid (∀ k, Kept (fun _ => False) w (w1.drewN k)) := Lw.hid (fun k => K1.out.trans (kept_drewN' w1 k) (fun _ _ h => h))
      have hs1 : Hid (w.heap.size + 2 ≤ w1.heap.size) := Lw.hid (by have := (Array.getElem?_eq_some_iff.1 hE1).1; omega)
      go_wp2_with fail
      go_region_held3 (fun w' => w'.cell? ⟨w.heap.size, 0, none⟩ = some (u32v nx) ∧ w'.cell? ⟨w.heap.size, 1, none⟩ = some (.slice ad m cap)) (go_keep)
        (first
          | (go_at_call 37; refine (above_any _ ad m cap nx last (by omega)).mono ?_; rintro e w2 ⟨rfl, k2⟩; have g0 := k2.cell a0 (fun h => h); have g1 := k2.cell a1 (fun h => h); have hE2 := k2.heap hE1 (fun h => h); have K2 := Lw.hid (K1.out.drew.trans k2 (fun _ _ h => h)); have hs2 := Lw.hid (Nat.le_trans hs1.out k2.size); clear k2)
          | (go_at_call 42; refine (HMS.out _ K2.out).mono ?_; rintro e w3 ⟨BA, BS, B, C, rfl, hma, k3, hba⟩; have p0 := k3.cell g0 (fun h => h); have p1 := k3.cell g1 (fun h => h); have hE3 := k3.heap hE2 (fun h => h); have HMA := Lw.hid hma; have K3 := Lw.hid (K2.out.trans k3 (fun _ _ h => h)); have hs3 := Lw.hid (Nat.le_trans hs2.out k3.size); have HBA := Lw.hid hba; clear hma k3 hba))
      all_goals
        have HD0 : Hid (MissR BA BS B C (.slice ad m cap) (w.heap.size + 1) → False) := Lw.hid (fun h => by
          have := HBA.out; have := hs2.out
          rcases h with h | h | h | h | h
          · omega
          · omega
          · omega
          · omega
          · have := HV.out _ h; omega)
        have HVL : Hid (∀ k, blk (.slice ad m cap) k → k < w3.heap.size) := Lw.hid (fun k hk => by have := HV.out k hk; have := hs3.out; omega)
        go_wp2_with fail
        refine wp_range (gf := 65) (lb := #[.pointer (some ⟨BA, 0, none⟩), .pointer (some ⟨BS, 0, none⟩)]) rfl (Go.Proofs.enters_of Try.func65 (by kernel_rfl) rfl)
          (miss_iter w3 BA BS B C (last + 1) (nx - (last + 1)) nx _ l HMA.out HVL.out (by omega) (by rw [HM.out]; exact hl9)) (HMA.out.lt HVL.out) (fun _ => rfl)
          (fun X pre V => pre = [] ∧ V.heap[w.heap.size + 1]? = some (.cells #[.int .i64 0] 37 (0, 0)) ∧ Own1 w (w.heap.size + 2) X V)
          (fun c X pre V => c = .ret ∧ V.heap[w.heap.size + 1]? = some (.cells #[.int .i64 6] 37 (0, 0)) ∧ Own1 w (w.heap.size + 2) X V)
          ?_ ?_ ?_ (fun X q V => q.2.2 = { tmps := #[.agg #[u32v nx, .slice ad m cap], u32v last, .pointer (some ⟨w.heap.size, 0, none⟩), undef, .pointer (some ⟨w.heap.size + 1, 0, none⟩), .bool false, .agg #[u32v nx, .slice ad m cap], .bool true, .bool false, .bool false, u32v last, .pointer (some ⟨w.heap.size, 0, none⟩), u32v nx, .bool false, .agg #[u32v nx, .slice ad m cap], u32v last, .agg #[u32v (last + 1), u32v nx], .agg #[u32v nx, .slice ad m cap], .func (.func 43) #[.agg #[u32v nx, .slice ad m cap]] #[], .func (.func 65) #[] #[.pointer (some ⟨BA, 0, none⟩), .pointer (some ⟨BS, 0, none⟩)], u32v q.2.1], defers := [] }) (fun _ _ _ _ _ h _ _ => h) ?assign ?body ?done ?stop
        · rintro X X' s V V' ⟨h1, h2, h3⟩ hk hx
          exact ⟨h1, h3.heap hk h2 (by omega), h3.ab hk hx⟩
        · rintro c X X' s V V' ⟨h1, h2, h3⟩ hk hx
          exact ⟨h1, h3.heap hk h2 (by omega), h3.ab hk hx⟩
        · exact ⟨rfl, hE3, K3.out, fun k h => h.elim, by omega, hs3.out⟩
        case assign =>
          rintro y X pre x V K hi _ _ _ hK
          gi_wp2
          exact hK _ _ (Keeps.refl _ _) hi rfl
        case body =>
          rintro y X pre x a' V ⟨h1, h2, h3⟩ hax hX hpx hsz
          dsimp only at hax
          subst hax
          have e1 := heap_cell h2 0; have f1 := heap_free h2 0
          have H3 := Lw.hid h3
          gi_wp2
          refine ⟨?_, rfl, ?_, ?_⟩
          · refine ((Kept.refl (fun k => k = w.heap.size + 1) V).set _ _ (fun _ => rfl) _).keeps (fun k hk hr he => ?_)
            subst he
            rcases hr with h | h
            · exact HD0.out h
            · have := H3.out.x _ h; omega
          · exact Boxed.set (.int .i64 6) h2
          · exact H3.out.step ((Kept.refl (fun k => k = w.heap.size + 1) V).set _ _ (fun _ => rfl) _) (fun i hi => by omega)
        case done =>
          rintro X D V hD hXD hXb ⟨h1, h2, h3⟩ hdf
          have hr0 : r = 0 := by rw [HML.out]; rw [if_pos (show missF nx last l = [] from h1)]
          have e1 := heap_cell h2 0; have f1 := heap_free h2 0
          have H3 := Lw.hid h3
          have hdl := (Array.getElem?_eq_some_iff.1 hdf).1
          go_wp2_with fail
          have hne : D ≠ w.heap.size + 1 := by have := hs3.out; omega
          refine leaves_marks [D] _ (by simp) (fun r hr => by rw [List.mem_singleton.1 hr]; exact (Below.heap_setCell _ _ _ _ hne).trans hdf) (fun V' hk => ⟨.int .i64 0, ?_, ?_, ?_⟩)
          · have hc : V'.cell? ⟨w.heap.size + 1, 0, none⟩ = some (.int .i64 0) := hk.cell (World.cell?_setCell_same' _ _ _ (by rw [e1]; rfl)) (by simpa using hne.symm)
            simp [results, go_sem, hc]
          · rw [hr0]; rfl
          · exact (H3.out.k.set _ _ (fun h => by omega) _).trans hk (fun i hi h => by rw [List.mem_singleton.1 h] at hi; have := hs3.out; omega)
        case stop =>
          rintro X c pre D V hD hXD hXb hpre hne0 ⟨rfl, h2, h3⟩ hdf
          have hr6 : r = 6 := by
            rw [HML.out]
            rw [if_neg (fun h => by rw [show List.filter (fun x => !hasF l x) (upto (last + 1) (nx - (last + 1))) = missF nx last l from rfl, h] at hpre; exact hne0 (List.prefix_nil.1 hpre))]
          have e1 := heap_cell h2 0
          have H3 := Lw.hid h3
          go_wp2_with fail
          have hne : D ≠ w.heap.size + 1 := by have := hs3.out; omega
          refine leaves_marks [D] _ (by simp) (fun r hr => by rw [List.mem_singleton.1 hr]; exact hdf) (fun V' hk => ⟨.int .i64 6, ?_, ?_, ?_⟩)
          · have hc : V'.cell? ⟨w.heap.size + 1, 0, none⟩ = some (.int .i64 6) := hk.cell e1 (by simpa using hne.symm)
            simp [results, go_sem, hc]
          · rw [hr6]; rfl
          · exact H3.out.k.trans hk (fun i hi h => by rw [List.mem_singleton.1 h] at hi; have := hs3.out; omega)
end Go.Proofs.Ytbmfnepbdfnlaaa
