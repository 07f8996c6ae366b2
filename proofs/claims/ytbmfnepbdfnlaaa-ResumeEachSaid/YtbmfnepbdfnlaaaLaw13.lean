/- Chapter 13, the laws' own: few, of, like. -/
import Derived.Test.YtbmfnepbdfnlaaaRef13d
import Derived.Test.YtbmfnepbdfnlaaaSoftTail
namespace Go.Proofs.Ytbmfnepbdfnlaaa
open Go Go.RowKit Go.Lw
set_option maxRecDepth 100000
set_option linter.unusedVariables false
set_option linter.unusedSimpArgs false
theorem hvs_one (l : List Hv) : ∀ u ∈ l.flatMap Hv.cells, u.oneCell' = true := by
  intro u hu
  obtain ⟨h, _, hh⟩ := List.mem_flatMap.1 hu
  exact Hv.one h u hh
set_option maxHeartbeats 400000 in
theorem cloneh_any (w : World) (src : Value) (l : List Hv) (hs : RdH w src l) (hlen : l.length ≤ 100000) :
    Calls Try.prog 45 #[src] w fun e w' => ∃ v, e = .returned v ∧ w'.ownsRow 0 35 4 v l.length (l.flatMap Hv.cells) ∧ Kept (fun _ => False) w w' ∧ (∀ k, blk v k → w.heap.size ≤ k) := by
  have HS := Lw.hid hs.1
  obtain ⟨⟨_, ad, cap, rfl, h1, h2, hc⟩, _⟩ := hs
  cases ad with
  | none =>
    obtain rfl : l = [] := by
      cases l with
      | nil => rfl
      | cons c l => obtain ⟨g, off, e, _⟩ := hc 0 _ rfl; cases e
    have heq := fun w => Lib.run_eql_slice_nil (P := Try.prog) w 23 35 none 0 cap 0 0 Try.underlying23
    go_enter Try.func45, Try.ntmps45
    go_wp2_with fail
    go_ret
    exact ⟨_, rfl, World.ownsRow_nil w 0 _ 4, Kept.refl _ _, fun k hk => by cases hk⟩
  | some ad =>
    clear hc
    have heq := fun w => Lib.run_eql_slice_nil (P := Try.prog) w 23 35 (some ad) l.length cap 0 0 Try.underlying23
    have ho : (w.alloc (.cells #[] 35)).ownsRow 0 35 4 (.slice (some ⟨w.heap.size, 0, none⟩) 0 0) 0 [] := World.ownsRow_lit w #[] 0 (Nat.zero_le _) (by unfold maxLen; omega) rfl
    go_enter Try.func45, Try.ntmps45
    go_wp2_with (at_builtin; refine wpList_app rfl _ _ _ rfl EHv _ 0 _ rfl ho _ l.length _ rfl (Rd.alloc HS.out _) (hvs_one l) (by unfold maxLen; omega) (by omega) ?_; intro ad' cap' w1 ho' hg hf)
    go_ret
    rw [Nat.zero_add] at ho' hf
    refine ⟨.slice ad' l.length cap', rfl, ho', ((Kept.refl _ w).alloc _).grown hg (fun k hk hl => ?_), fun k hk => ?_⟩
    · have e : k = w.heap.size := blk_some hk
      omega
    · rcases hf k hk with h | h
      · have e : k = w.heap.size := blk_some h
        omega
      · simp at h; omega
/-- A row of the call's own. -/
def OwnH (lo : Nat) (l : List Hv) (v : Value) (w : World) : Prop := RdH w v l ∧ ∀ k, blk v k → lo ≤ k ∧ k < w.heap.size
theorem OwnH.keptF {lo : Nat} {l : List Hv} {v : Value} {a b : World} (h : OwnH lo l v a) (k : Kept (fun _ => False) a b) : OwnH lo l v b := ⟨h.1.keptF k, fun i hi => ⟨(h.2 i hi).1, Nat.lt_of_lt_of_le (h.2 i hi).2 k.size⟩⟩
def stO (lo : Nat) (l : List Hv) : Stable := ⟨fun v w => OwnH lo l v w, fun _ _ _ hk h => h.keptF hk⟩
def stA (nx lo : Nat) (l : List Hv) : Stable := ⟨fun v w => ∃ u, v = .agg #[u32v nx, u] ∧ OwnH lo l u w, fun _ _ _ hk ⟨u, e, h⟩ => ⟨u, e, h.keptF hk⟩⟩
theorem own_ownH {w0 w : World} {e : TypeId} {n : Nat} {v : Value} {l : List Hv} (h : w.ownsRow 0 e 4 v n (l.flatMap Hv.cells)) (hn : n = l.length) (hok : ∀ h ∈ l, h.ok) {lo : Nat} (hlo : ∀ k, blk v k → lo ≤ k) : OwnH lo l v w :=
  ⟨rdh_own h hn hok, fun k hk => ⟨hlo k hk, own_lt h k hk⟩⟩
theorem RdH.sl {w : World} {v : Value} {l : List Hv} (h : RdH w v l) : ∃ a n c, v = .slice a n c := by
  obtain ⟨a, c, e, _⟩ := h.shape
  exact ⟨a, _, c, e⟩
/-- What few and of give. -/
def AskPost (nx : Nat) (l : List Hv) (w : World) (x : Ending) (w' : World) : Prop := ∃ v', x = .returned (askV nx v') ∧ OwnH w.heap.size l v' w' ∧ Kept (fun _ => False) w w'
theorem few_end {w w' : World} {nx : Nat} {l : List Hv} {au : Option Addr} {mu cu : Nat} {T : TypeId} {c : Array Value} (hB : w'.heap[w.heap.size + 1]? = some (.cells c T (0, 0))) (k : Kept (fun _ => False) w w') (hu : OwnH w.heap.size l (.slice au mu cu) w')
    (hne : ∀ g, blk (.slice au mu cu) g → g ≠ w.heap.size + 1) :
    AskPost nx l w (.returned (.agg #[u32v nx, .slice au mu cu])) ((w'.setCell ⟨w.heap.size + 1, 0, none⟩ (u32v nx)).setCell ⟨w.heap.size + 1, 1, none⟩ (.slice au mu cu)) := by
  have k2 : Kept (fun k => k = w.heap.size + 1) w' ((w'.setCell ⟨w.heap.size + 1, 0, none⟩ (u32v nx)).setCell ⟨w.heap.size + 1, 1, none⟩ (.slice au mu cu)) := ((Kept.refl (fun k => k = w.heap.size + 1) w').set _ _ (fun _ => rfl) _).set _ _ (fun _ => rfl) _
  exact ⟨_, rfl, ⟨hu.1.kept k2 (fun i hi => hne i hi), fun i hi => ⟨(hu.2 i hi).1, Nat.lt_of_lt_of_le (hu.2 i hi).2 k2.size⟩⟩, k.trans k2 (fun i hi e => by omega)⟩
theorem cell2 {w' : World} {B : Nat} {T : TypeId} {x y a b : Value} (hB : w'.heap[B]? = some (.cells #[x, y] T (0, 0))) :
    (w'.setCell ⟨B, 0, none⟩ a).cell? ⟨B, 0, none⟩ = some a ∧ ((w'.setCell ⟨B, 0, none⟩ a).setCell ⟨B, 1, none⟩ b).cell? ⟨B, 0, none⟩ = some a ∧ ((w'.setCell ⟨B, 0, none⟩ a).setCell ⟨B, 1, none⟩ b).cell? ⟨B, 1, none⟩ = some b := by
  have h1 := heap_set hB 0 a
  have h2 := heap_set h1 1 b
  exact ⟨(heap_cell h1 0).trans rfl, (heap_cell h2 0).trans rfl, (heap_cell h2 1).trans rfl⟩
theorem ok_take {l : List Hv} (h : ∀ x ∈ l, x.ok) (n : Nat) : ∀ x ∈ l.take n, x.ok := fun x hx => h x (List.mem_of_mem_take hx)
theorem flat_take (l : List Hv) (k : Nat) : (l.flatMap Hv.cells).take (k * 4) = (l.take k).flatMap Hv.cells := by
  induction l generalizing k with
  | nil => simp
  | cons h t ih =>
    cases k with
    | zero => simp
    | succ k =>
      rw [List.take_succ_cons, List.flatMap_cons, List.flatMap_cons, ← ih k, List.take_append]
      have : h.cells.length = 4 := rfl
      rw [List.take_of_length_le (by omega), this]
      congr 2
      omega
set_option maxHeartbeats 8000000 in
theorem few_any (w : World) (nx : Nat) (v : Value) (l : List Hv) (hl : RdH w v l) : Calls Try.prog 17 #[askV nx v] w (AskPost nx (l.take 20) w) := by
  obtain ⟨ad, cap, rfl, h1, h2, _⟩ := hl.shape
  have HL := Lw.hid hl
  obtain ⟨m, hm⟩ : ∃ m, l.length = m := ⟨_, rfl⟩
  have HM := Lw.hid hm
  rw [hm] at h1 HL ⊢
  clear hl hm
  obtain ⟨wa, hwa⟩ : ∃ wa, (w.alloc (.cells #[u32v nx, .slice ad m cap] 26)).alloc (.cells #[u32v 0, .slice none 0 0] 26) = wa := ⟨_, rfl⟩
  have KA : Hid (Kept (fun _ => False) w wa) := Lw.hid (by rw [← hwa]; exact ((Kept.refl _ w).alloc _).alloc _)
  have hA : wa.heap[w.heap.size]? = some (.cells #[u32v nx, .slice ad m cap] 26 (0, 0)) := by rw [← hwa]; exact heap_alloc_lt (heap_at _ _ rfl)
  have hB : wa.heap[w.heap.size + 1]? = some (.cells #[u32v 0, .slice none 0 0] 26 (0, 0)) := by rw [← hwa]; exact heap_at _ _ (by simp)
  have HA := Lw.hid hA; have HB := Lw.hid hB
  have HWA := Lw.hid hwa
  have a0 := heap_cell hA 0; have a1 := heap_cell hA 1
  have HSZ : Hid (w.heap.size + 1 < wa.heap.size) := Lw.hid (Array.getElem?_eq_some_iff.1 hB).1
  clear hwa hA hB
  go_enter Try.func17, Try.ntmps17
  go_upto_region 1 with fail
  have HWB := HWA.out
  simp only [u32v] at HWB
  rw [show ((0 : Nat) : Int) = 0 from rfl] at HWB
  rw [HWB]
  clear HWB
  by_cases hc : 20 < m
  · have HLEN : Hid ((l.take 20).length = 20) := Lw.hid (by rw [List.length_take, HM.out]; omega)
    have HTK : Hid ((l.flatMap Hv.cells).take (20 * 4) = (l.take 20).flatMap Hv.cells) := Lw.hid (flat_take l 20)
    have HRD : Hid (∀ w', Kept (fun _ => False) w w' → Rd w' 4 (.slice ad 20 cap) (l.take 20).length ((l.take 20).flatMap Hv.cells)) := Lw.hid (fun w' k => by
      have h0 := (HL.out.keptF k).1
      rw [HM.out] at h0
      have := Rd.take h0 20 (by omega)
      rw [HLEN.out, ← HTK.out]; exact this)
    refine wp_region_tail 11 [stV (.pointer (some ⟨w.heap.size, 0, none⟩)), stV (u32v nx), stV (.pointer (some ⟨w.heap.size, 1, none⟩)), stV (.slice ad m cap), stV (.pointer (some ⟨w.heap.size, 1, none⟩)), stV (.slice ad m cap), stV (.int .i64 (m : Int)), stV (.int .i64 20), stV (.slice ad 20 cap), stO wa.heap.size (l.take 20), stA nx wa.heap.size (l.take 20)] (by kernel_rfl) (by kernel_rfl) ?_ ?_
    · -- each operation by itself
      refine ssteps_cons (fun a' w' hI hag hf K hK => ?_) ?_
      · have s1 := hag.same 1 (by decide)
        clear hag
        go_wp2_with fail
        exact hK _ _ hI (Kept.refl _ _) rfl
      refine ssteps_cons (fun a' w' hI hag hf K hK => ?_) ?_
      · obtain ⟨⟨_, h0, rfl⟩, -⟩ : SFacts _ _ a' w' [0] := hf
        clear hag
        have c0 := hI.cell a0 (fun h => h)
        have c1 := hI.cell a1 (fun h => h)
        go_wp2_with fail
        exact hK _ _ hI (Kept.refl _ _) rfl
      refine ssteps_cons (fun a' w' hI hag hf K hK => ?_) ?_
      · have s1 := hag.same 1 (by decide)
        clear hag
        go_wp2_with fail
        exact hK _ _ hI (Kept.refl _ _) rfl
      refine ssteps_cons (fun a' w' hI hag hf K hK => ?_) ?_
      · obtain ⟨⟨_, h2, rfl⟩, -⟩ : SFacts _ _ a' w' [2] := hf
        clear hag
        have c0 := hI.cell a0 (fun h => h)
        have c1 := hI.cell a1 (fun h => h)
        go_wp2_with fail
        exact hK _ _ hI (Kept.refl _ _) rfl
      refine ssteps_cons (fun a' w' hI hag hf K hK => ?_) ?_
      · have s1 := hag.same 1 (by decide)
        clear hag
        go_wp2_with fail
        exact hK _ _ hI (Kept.refl _ _) rfl
      refine ssteps_cons (fun a' w' hI hag hf K hK => ?_) ?_
      · obtain ⟨⟨_, h4, rfl⟩, -⟩ : SFacts _ _ a' w' [4] := hf
        clear hag
        have c0 := hI.cell a0 (fun h => h)
        have c1 := hI.cell a1 (fun h => h)
        go_wp2_with fail
        exact hK _ _ hI (Kept.refl _ _) rfl
      refine ssteps_cons (fun a' w' hI hag hf K hK => ?_) ?_
      · obtain ⟨⟨_, h5, rfl⟩, -⟩ : SFacts _ _ a' w' [5] := hf
        clear hag
        go_wp2_with fail
        exact hK _ _ hI (Kept.refl _ _) rfl
      refine ssteps_cons (fun a' w' hI hag hf K hK => ?_) ?_
      · obtain ⟨⟨_, h6, rfl⟩, -⟩ : SFacts _ _ a' w' [6] := hf
        clear hag
        go_wp2_with fail
        exact hK _ _ hI (Kept.refl _ _) rfl
      refine ssteps_cons (fun a' w' hI hag hf K hK => ?_) ?_
      · obtain ⟨⟨_, h3, rfl⟩, ⟨_, h7, rfl⟩, -⟩ : SFacts _ _ a' w' [3, 7] := hf
        clear hag
        go_wp2_with fail
        exact hK _ _ hI (Kept.refl _ _) rfl
      refine ssteps_cons (fun a' w' hI hag hf K hK => ?_) ?_
      · obtain ⟨⟨_, h8, rfl⟩, -⟩ : SFacts _ _ a' w' [8] := hf
        clear hag
        go_wp2_with fail
        refine (cloneh_any w' _ (l.take 20) ⟨HRD.out _ (KA.out.trans hI (fun _ _ h => h)), ok_take HL.out.2 20⟩ (by have := List.length_take_le 20 l; omega)).mono ?_
        rintro e w4 ⟨v4, rfl, ho, k4, hlo⟩
        have HO := Lw.hid ho; have HLO := Lw.hid hlo
        clear ho hlo
        go_wp2_with fail
        exact hK _ _ (hI.trans k4 (fun _ _ h => h)) k4 (own_ownH (w0 := w) HO.out rfl (ok_take HL.out.2 20) (fun k hk => Nat.le_trans hI.size (HLO.out k hk)))
      refine ssteps_cons (fun a' w' hI hag hf K hK => ?_) ?_
      · obtain ⟨⟨_, h1, rfl⟩, ⟨v9, h9, e9⟩, -⟩ : SFacts _ _ a' w' [1, 9] := hf
        clear hag
        obtain ⟨ax, mx, cx, rfl⟩ := e9.1.sl
        have E9 : Hid (OwnH wa.heap.size (l.take 20) _ _) := Lw.hid e9
        clear e9
        go_wp2_with fail
        exact hK _ _ hI (Kept.refl _ _) ⟨_, rfl, E9.out⟩
      exact trivial
    · intro vs w' hI hvs
      have q0 : vs 0 = (.pointer (some ⟨w.heap.size, 0, none⟩)) := hvs 0 _ _ rfl rfl
      have q1 : vs 1 = (u32v nx) := hvs 1 _ _ rfl rfl
      have q2 : vs 2 = (.pointer (some ⟨w.heap.size, 1, none⟩)) := hvs 2 _ _ rfl rfl
      have q3 : vs 3 = (.slice ad m cap) := hvs 3 _ _ rfl rfl
      have q4 : vs 4 = (.pointer (some ⟨w.heap.size, 1, none⟩)) := hvs 4 _ _ rfl rfl
      have q5 : vs 5 = (.slice ad m cap) := hvs 5 _ _ rfl rfl
      have q6 : vs 6 = (.int .i64 (m : Int)) := hvs 6 _ _ rfl rfl
      have q7 : vs 7 = (.int .i64 20) := hvs 7 _ _ rfl rfl
      have q8 : vs 8 = (.slice ad 20 cap) := hvs 8 _ _ rfl rfl
      have q9 := hvs 9 _ _ rfl rfl
      have q10 := hvs 10 _ _ rfl rfl
      clear hvs
      simp only [List.take_succ_cons, List.take_zero, List.drop_succ_cons, List.drop_zero, putAll, Act.put, List.setIfInBounds_toArray, List.set_cons_zero, List.set_cons_succ, Nat.reduceAdd, q0, q1, q2, q3, q4, q5, q6, q7, q8]
      clear q0 q1 q2 q3 q4 q5 q6 q7 q8
      generalize vs 9 = x9 at *
      generalize vs 10 = x10 at *
      obtain ⟨u, rfl, hu⟩ := q10
      obtain ⟨au, mu, cu, rfl⟩ := hu.1.sl
      have hB' := hI.heap HB.out (fun h => h)
      have g0 := heap_cell hB' 0; have g1 := heap_cell hB' 1; have f0 := heap_free hB' 0; have f1 := heap_free hB' 1
      have HFIN := Lw.hid (few_end (nx := nx) hB' (KA.out.trans hI (fun _ _ h => h)) ⟨hu.1, fun i hi => ⟨Nat.le_trans KA.out.size (hu.2 i hi).1, (hu.2 i hi).2⟩⟩ (fun i hi e => by have := (hu.2 i hi).1; have := HSZ.out; omega))
      obtain ⟨z0, z1, z2⟩ := cell2 (a := u32v nx) (b := .slice au mu cu) hB'
      have HZ0 := Lw.hid z0; have HZ1 := Lw.hid z1; have HZ2 := Lw.hid z2
      clear hu q9 hB' z0 z1 z2
      go_wp2_with fail
      exact bodyPost_ret (v := .agg #[u32v nx, .slice au mu cu]) (by simp [results, Try.results17, go_sem, HZ0.out, HZ1.out, HZ2.out]) rfl HFIN.out
  · have HLEN : Hid ((l.take 20).length = m) := Lw.hid (by rw [List.length_take, HM.out]; omega)
    have HTK : Hid ((l.flatMap Hv.cells).take (m * 4) = (l.take 20).flatMap Hv.cells) := Lw.hid (by rw [flat_take l m, List.take_of_length_le (by rw [HM.out]; exact Nat.le_refl _), List.take_of_length_le (by rw [HM.out]; omega)])
    have HRD : Hid (∀ w', Kept (fun _ => False) w w' → Rd w' 4 (.slice ad m cap) (l.take 20).length ((l.take 20).flatMap Hv.cells)) := Lw.hid (fun w' k => by
      have h0 := (HL.out.keptF k).1
      rw [HM.out] at h0
      have := Rd.take h0 m (by omega)
      rw [HLEN.out, ← HTK.out]; exact this)
    refine wp_region_tail 11 [stV (.pointer (some ⟨w.heap.size, 0, none⟩)), stV (u32v nx), stV (.pointer (some ⟨w.heap.size, 1, none⟩)), stV (.slice ad m cap), stV (.pointer (some ⟨w.heap.size, 1, none⟩)), stV (.slice ad m cap), stV (.int .i64 (m : Int)), stV (.int .i64 (m : Int)), stV (.slice ad m cap), stO wa.heap.size (l.take 20), stA nx wa.heap.size (l.take 20)] (by kernel_rfl) (by kernel_rfl) ?_ ?_
    · -- each operation by itself
      refine ssteps_cons (fun a' w' hI hag hf K hK => ?_) ?_
      · have s1 := hag.same 1 (by decide)
        clear hag
        go_wp2_with fail
        exact hK _ _ hI (Kept.refl _ _) rfl
      refine ssteps_cons (fun a' w' hI hag hf K hK => ?_) ?_
      · obtain ⟨⟨_, h0, rfl⟩, -⟩ : SFacts _ _ a' w' [0] := hf
        clear hag
        have c0 := hI.cell a0 (fun h => h)
        have c1 := hI.cell a1 (fun h => h)
        go_wp2_with fail
        exact hK _ _ hI (Kept.refl _ _) rfl
      refine ssteps_cons (fun a' w' hI hag hf K hK => ?_) ?_
      · have s1 := hag.same 1 (by decide)
        clear hag
        go_wp2_with fail
        exact hK _ _ hI (Kept.refl _ _) rfl
      refine ssteps_cons (fun a' w' hI hag hf K hK => ?_) ?_
      · obtain ⟨⟨_, h2, rfl⟩, -⟩ : SFacts _ _ a' w' [2] := hf
        clear hag
        have c0 := hI.cell a0 (fun h => h)
        have c1 := hI.cell a1 (fun h => h)
        go_wp2_with fail
        exact hK _ _ hI (Kept.refl _ _) rfl
      refine ssteps_cons (fun a' w' hI hag hf K hK => ?_) ?_
      · have s1 := hag.same 1 (by decide)
        clear hag
        go_wp2_with fail
        exact hK _ _ hI (Kept.refl _ _) rfl
      refine ssteps_cons (fun a' w' hI hag hf K hK => ?_) ?_
      · obtain ⟨⟨_, h4, rfl⟩, -⟩ : SFacts _ _ a' w' [4] := hf
        clear hag
        have c0 := hI.cell a0 (fun h => h)
        have c1 := hI.cell a1 (fun h => h)
        go_wp2_with fail
        exact hK _ _ hI (Kept.refl _ _) rfl
      refine ssteps_cons (fun a' w' hI hag hf K hK => ?_) ?_
      · obtain ⟨⟨_, h5, rfl⟩, -⟩ : SFacts _ _ a' w' [5] := hf
        clear hag
        go_wp2_with fail
        exact hK _ _ hI (Kept.refl _ _) rfl
      refine ssteps_cons (fun a' w' hI hag hf K hK => ?_) ?_
      · obtain ⟨⟨_, h6, rfl⟩, -⟩ : SFacts _ _ a' w' [6] := hf
        clear hag
        go_wp2_with fail
        exact hK _ _ hI (Kept.refl _ _) rfl
      refine ssteps_cons (fun a' w' hI hag hf K hK => ?_) ?_
      · obtain ⟨⟨_, h3, rfl⟩, ⟨_, h7, rfl⟩, -⟩ : SFacts _ _ a' w' [3, 7] := hf
        clear hag
        go_wp2_with fail
        exact hK _ _ hI (Kept.refl _ _) rfl
      refine ssteps_cons (fun a' w' hI hag hf K hK => ?_) ?_
      · obtain ⟨⟨_, h8, rfl⟩, -⟩ : SFacts _ _ a' w' [8] := hf
        clear hag
        go_wp2_with fail
        refine (cloneh_any w' _ (l.take 20) ⟨HRD.out _ (KA.out.trans hI (fun _ _ h => h)), ok_take HL.out.2 20⟩ (by have := List.length_take_le 20 l; omega)).mono ?_
        rintro e w4 ⟨v4, rfl, ho, k4, hlo⟩
        have HO := Lw.hid ho; have HLO := Lw.hid hlo
        clear ho hlo
        go_wp2_with fail
        exact hK _ _ (hI.trans k4 (fun _ _ h => h)) k4 (own_ownH (w0 := w) HO.out rfl (ok_take HL.out.2 20) (fun k hk => Nat.le_trans hI.size (HLO.out k hk)))
      refine ssteps_cons (fun a' w' hI hag hf K hK => ?_) ?_
      · obtain ⟨⟨_, h1, rfl⟩, ⟨v9, h9, e9⟩, -⟩ : SFacts _ _ a' w' [1, 9] := hf
        clear hag
        obtain ⟨ax, mx, cx, rfl⟩ := e9.1.sl
        have E9 : Hid (OwnH wa.heap.size (l.take 20) _ _) := Lw.hid e9
        clear e9
        go_wp2_with fail
        exact hK _ _ hI (Kept.refl _ _) ⟨_, rfl, E9.out⟩
      exact trivial
    · intro vs w' hI hvs
      have q0 : vs 0 = (.pointer (some ⟨w.heap.size, 0, none⟩)) := hvs 0 _ _ rfl rfl
      have q1 : vs 1 = (u32v nx) := hvs 1 _ _ rfl rfl
      have q2 : vs 2 = (.pointer (some ⟨w.heap.size, 1, none⟩)) := hvs 2 _ _ rfl rfl
      have q3 : vs 3 = (.slice ad m cap) := hvs 3 _ _ rfl rfl
      have q4 : vs 4 = (.pointer (some ⟨w.heap.size, 1, none⟩)) := hvs 4 _ _ rfl rfl
      have q5 : vs 5 = (.slice ad m cap) := hvs 5 _ _ rfl rfl
      have q6 : vs 6 = (.int .i64 (m : Int)) := hvs 6 _ _ rfl rfl
      have q7 : vs 7 = (.int .i64 (m : Int)) := hvs 7 _ _ rfl rfl
      have q8 : vs 8 = (.slice ad m cap) := hvs 8 _ _ rfl rfl
      have q9 := hvs 9 _ _ rfl rfl
      have q10 := hvs 10 _ _ rfl rfl
      clear hvs
      simp only [List.take_succ_cons, List.take_zero, List.drop_succ_cons, List.drop_zero, putAll, Act.put, List.setIfInBounds_toArray, List.set_cons_zero, List.set_cons_succ, Nat.reduceAdd, q0, q1, q2, q3, q4, q5, q6, q7, q8]
      clear q0 q1 q2 q3 q4 q5 q6 q7 q8
      generalize vs 9 = x9 at *
      generalize vs 10 = x10 at *
      obtain ⟨u, rfl, hu⟩ := q10
      obtain ⟨au, mu, cu, rfl⟩ := hu.1.sl
      have hB' := hI.heap HB.out (fun h => h)
      have g0 := heap_cell hB' 0; have g1 := heap_cell hB' 1; have f0 := heap_free hB' 0; have f1 := heap_free hB' 1
      have HFIN := Lw.hid (few_end (nx := nx) hB' (KA.out.trans hI (fun _ _ h => h)) ⟨hu.1, fun i hi => ⟨Nat.le_trans KA.out.size (hu.2 i hi).1, (hu.2 i hi).2⟩⟩ (fun i hi e => by have := (hu.2 i hi).1; have := HSZ.out; omega))
      obtain ⟨z0, z1, z2⟩ := cell2 (a := u32v nx) (b := .slice au mu cu) hB'
      have HZ0 := Lw.hid z0; have HZ1 := Lw.hid z1; have HZ2 := Lw.hid z2
      clear hu q9 hB' z0 z1 z2
      go_wp2_with fail
      exact bodyPost_ret (v := .agg #[u32v nx, .slice au mu cu]) (by simp [results, Try.results17, go_sem, HZ0.out, HZ1.out, HZ2.out]) rfl HFIN.out
structure OfAt (w : World) (nx : Nat) (l : List Hv) (wr : World) : Prop where
  k : Kept (fun _ => False) w wr
  res : wr.heap[w.heap.size + 1]? = some (.cells #[u32v 0, .slice none 0 0] 44 (0, 0))
  box : ∃ v, wr.heap[w.heap.size + 2]? = some (.cells #[u32v nx, v] 44 (0, 0)) ∧ wr.ownsRow 0 50 4 v l.length (l.flatMap Hv.cells) ∧ ∀ g, blk v g → w.heap.size + 2 < g
theorem OfAt.step {w wr w5 : World} {nx : Nat} {l : List Hv} {t : Hv} {v v' : Value} {n' : Nat} {o1 o2 : Obj} (h : OfAt w nx l wr) (hb : wr.heap[w.heap.size + 2]? = some (.cells #[u32v nx, v] 44 (0, 0))) (hv : ∀ g, blk v g → w.heap.size + 2 < g)
    (ho : w5.ownsRow 0 50 4 v' n' ((l ++ [t]).flatMap Hv.cells)) (hn : n' = (l ++ [t]).length) (hg : ((wr.alloc o1).alloc o2).grownBy w5 v.ownBlock) (hf : Fresh ((wr.alloc o1).alloc o2) v v') :
    w5.heap[w.heap.size + 2]? = some (.cells #[u32v nx, v] 44 (0, 0)) ∧ OfAt w nx (l ++ [t]) (w5.setCell ⟨w.heap.size + 2, 1, none⟩ v') := by
  subst hn
  have k1 : Kept (blk v) wr w5 := (((Kept.refl _ wr).alloc o1).alloc o2).grown hg (fun k e _ => e)
  have g2 := k1.heap hb (fun e => by have := hv _ e; omega)
  have g1 := k1.heap h.res (fun e => by have := hv _ e; omega)
  have k2 : Kept (fun k => k = w.heap.size + 2) w5 (w5.setCell ⟨w.heap.size + 2, 1, none⟩ v') := (Kept.refl (fun k => k = w.heap.size + 2) w5).set _ _ (fun _ => rfl) _
  have hlt := (Array.getElem?_eq_some_iff.1 hb).1
  have hv' : ∀ g, blk v' g → w.heap.size + 2 < g := fun g hg' => by
    rcases hf g hg' with e | e
    · exact hv g e
    · simp at e; omega
  refine ⟨g2, (h.k.trans k1 (fun i hi e => by have := hv i e; omega)).trans k2 (fun i hi e => by omega), k2.heap g1 (by omega), v', ?_, own_kept k2 ho (fun g e e' => by have := hv' g e; omega), hv'⟩
  exact heap_set g2 1 v'
set_option maxHeartbeats 8000000 in
theorem of_any (w : World) (nx : Nat) (v : Value) (l : List Hv) (hl : RdH w v l) (hl9 : l.length ≤ 1000000) : Calls Try.prog 18 #[askV nx v] w (AskPost nx l w) := by
  obtain ⟨ad, cap, rfl, h1, h2, _⟩ := hl.shape
  have HL := Lw.hid hl
  obtain ⟨m, hm⟩ : ∃ m, l.length = m := ⟨_, rfl⟩
  have HM := Lw.hid hm
  rw [hm] at h1 hl9 HL ⊢
  clear hl hm
  go_enter Try.func18, Try.ntmps18
  go_wp2_with fail
  go_loopg [12] m (fun gk i wr => ∃ k : Nat, gk = m - k ∧ k ≤ m ∧ i = .int .i64 k ∧ OfAt w nx (l.take k) wr)
  case atStart => exact ⟨0, rfl, Nat.zero_le _, rfl, ⟨(((Kept.refl _ w).alloc _).alloc _).alloc _, heap_alloc_lt (heap_at _ _ (by simp)), _, heap_at _ _ (by simp), World.ownsRow_nil _ _ _ _, fun g h => (blk_none h).elim⟩⟩
  case round =>
    obtain ⟨k, rfl, hk, rfl, hr⟩ := hrel
    obtain ⟨v1, hv1, hv2, hv3⟩ := hr.box
    obtain ⟨ad1, cap1, rfl, hc1, hc2, _⟩ := own_slice hv2
    unfold maxLen at hc2
    have HR := Lw.hid hr; have HV1 := Lw.hid hv1; have HV2 := Lw.hid hv2; have HV3 := Lw.hid hv3
    have b0 := heap_cell hv1 0; have b1 := heap_cell hv1 1; have fb := heap_free hv1 1; have fb0 := heap_free hv1 0
    have r0 := heap_cell hr.res 0; have r1 := heap_cell hr.res 1; have fr0 := heap_free hr.res 0; have fr1 := heap_free hr.res 1
    have hsz : w.heap.size + 2 < wr.heap.size := (Array.getElem?_eq_some_iff.1 hv1).1
    clear hr hv1 hv2 hv3
    by_cases hlt : k < m
    · have hlt' : k < l.length := by rw [HM.out]; exact hlt
      obtain ⟨g, off, rfl, q0, q1, q2, q3⟩ := hv_at (HL.out.keptF HR.out.k) hlt'
      have HT := Lw.hid (take_snoc l k hlt')
      obtain ⟨t, ht⟩ : ∃ t, l[k] = t := ⟨_, rfl⟩
      rw [ht] at q0 q1 q2 q3 HT
      obtain ⟨L, hL⟩ : ∃ L, l.take k = L := ⟨_, rfl⟩
      have HK : Hid (L.length = k) := Lw.hid (by rw [← hL, List.length_take]; omega)
      rw [hL] at HT HR HV2 HV1 HV3 hc1 b1
      obtain ⟨c, hc⟩ : ∃ c, L.length = c := ⟨_, rfl⟩
      have HC := Lw.hid hc
      have hcm : c ≤ 1000000 := by have := HK.out; omega
      rw [hc] at HV1 HV2 HV3 hc1 b1
      clear ht hL hc
      have e1 : Hid (((wr.alloc (.cells ([u32v t.id, u32v t.out, u32v t.er, .bool t.st] : List Value).toArray 35)).alloc (.cells ([u32v t.id, u32v t.out, u32v t.er, .bool t.st] : List Value).toArray 50)).ownsRow 0 50 4 (.slice ad1 c cap1) c (L.flatMap Hv.cells)) := Lw.hid (own_kept (((Kept.refl (fun _ => False) wr).alloc _).alloc _) HV2.out (fun _ _ h => h))
      go_wp2_with (at_builtin; refine wpList_app rfl _ _ _ rfl ERv _ c _ rfl e1.out _ 1 _ rfl (Rd.lit (wr.alloc (.cells ([u32v t.id, u32v t.out, u32v t.er, .bool t.st] : List Value).toArray 35)) [u32v t.id, u32v t.out, u32v t.er, .bool t.st] 50 4 _ 1 (by simp) rfl (by decide)) (Hv.one t) (by unfold maxLen; omega) (by omega) ?_; intro ad' cap' w5 ho' hg hf; obtain ⟨hb5, hr5⟩ := HR.out.step (t := t) HV1.out HV3.out (by rw [List.flatMap_append]; exact ho') (by rw [List.length_append, HC.out]; rfl) hg hf; have HR5 := Lw.hid hr5; have j0 := heap_cell hb5 0; have j1 := heap_cell hb5 1; have fj := heap_free hb5 1; clear ho' hg hf hr5 hb5)
      go_roundg (m - (k + 1))
      case measure => omega
      case rel => exact ⟨k + 1, rfl, hlt, by go_num, by rw [HT.out]; exact HR5.out⟩
    · obtain rfl : k = m := by omega
      have HTK : Hid (l.take k = l) := Lw.hid (List.take_of_length_le (by rw [HM.out]; exact Nat.le_refl _))
      have HFIN : Hid (AskPost nx l w (.returned (.agg #[u32v nx, .slice ad1 (l.take k).length cap1])) ((wr.setCell ⟨w.heap.size + 1, 0, none⟩ (u32v nx)).setCell ⟨w.heap.size + 1, 1, none⟩ (.slice ad1 (l.take k).length cap1))) := Lw.hid (by
        have h0 := HV2.out
        rw [HTK.out] at h0 ⊢
        exact few_end HR.out.res HR.out.k (own_ownH (w0 := w) h0 rfl HL.out.2 (fun g hg => by have := HV3.out g (by rw [HTK.out]; exact hg); omega)) (fun g hg e => by have := HV3.out g (by rw [HTK.out]; exact hg); omega))
      obtain ⟨c, hc⟩ : ∃ c, (l.take k).length = c := ⟨_, rfl⟩
      rw [hc] at HFIN b1 hc1 HV1
      obtain ⟨z0, z1, z2⟩ := cell2 (a := u32v nx) (b := .slice ad1 c cap1) HR.out.res
      have HZ0 := Lw.hid z0; have HZ1 := Lw.hid z1; have HZ2 := Lw.hid z2
      clear hc HV2 HV3 HR z0 z1 z2
      go_wp2_with fail
      exact bodyPost_ret (v := .agg #[u32v nx, .slice ad1 c cap1]) (by simp [results, Try.results18, go_sem, HZ0.out, HZ1.out, HZ2.out]) rfl HFIN.out
end Go.Proofs.Ytbmfnepbdfnlaaa
