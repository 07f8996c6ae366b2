/- Chapter 13: the document's own Again, Replay, Past, walked. -/
import Derived.Test.YtbmfnepbdfnlaaaRef13b
namespace Go.Proofs.Ytbmfnepbdfnlaaa
open Go Go.RowKit Go.Lw
set_option maxRecDepth 100000
set_option linter.unusedVariables false
set_option linter.unusedSimpArgs false
theorem ERv : ElemT Try.prog 42 50 4 16 := ElemT.of (z := .agg #[.int .u32 0, .int .u32 0, .int .u32 0, .bool false]) Try.underlying42 (by kernel_rfl) rfl (by decide)
/-- What has been collected; its row is the call's own. -/
def RfOut (w wr : World) (el sz : Nat) (v : Value) (n : Nat) (xs : List Value) : Prop := wr.ownsRow 0 el sz v n xs ∧ ∀ k, blk v k → w.heap.size < k
theorem RfAt.grow {w wr w5 : World} {nx m cap : Nat} {ad : Option Addr} (h : RfAt w wr nx m cap ad) {el sz n n' : Nat} {xs xs' : List Value} {v v' : Value} {ob : Obj} (ho : RfOut w wr el sz v n xs)
    (ho' : w5.ownsRow 0 el sz v' n' xs') (hg : (wr.alloc ob).grownBy w5 v.ownBlock) (hf : Fresh (wr.alloc ob) v v') : RfAt w w5 nx m cap ad ∧ RfOut w w5 el sz v' n' xs' := by
  have hb := ho.2
  refine ⟨⟨(h.k.alloc ob).grown hg (fun k e hlt => absurd (hb k e) (by omega)), ?_⟩, ho', fun k hk => ?_⟩
  · exact grown_heap hg (heap_alloc_lt h.box) (fun e => by have := hb _ e; omega)
  · rcases hf k hk with h1 | h1
    · exact hb k h1
    · have := (Array.getElem?_eq_some_iff.1 h.box).1; simp at h1; omega
theorem RfOut.kept {w wr wy : World} {el sz n : Nat} {xs : List Value} {v : Value} (h : RfOut w wr el sz v n xs) (k : Kept (fun _ => False) wr wy) : RfOut w wy el sz v n xs := ⟨own_kept k h.1 (fun _ _ h => h), h.2⟩
theorem RfOut.nil (w wr : World) (el sz : Nat) : RfOut w wr el sz (.slice none 0 0) 0 [] := ⟨World.ownsRow_nil _ _ _ _, fun k h => (blk_none h).elim⟩
def RsPost (el sz : Nat) (w : World) (n : Nat) (xs : List Value) (x : Ending) (w' : World) : Prop := ∃ v', x = .returned v' ∧ w'.ownsRow 0 el sz v' n xs ∧ (∀ k, blk v' k → w.heap.size ≤ k) ∧ Kept (fun _ => False) w w'
theorem RsPost.of {el sz n : Nat} {w w' : World} {xs : List Value} {v' : Value} {nx m cap : Nat} {ad : Option Addr} (h : RfAt w w' nx m cap ad) (ho : RfOut w w' el sz v' n xs) : RsPost el sz w n xs (.returned v') w' :=
  ⟨v', rfl, ho.1, fun k hk => Nat.le_of_lt (ho.2 k hk), h.k⟩
theorem replay_true {last : Nat} {l : List Hv} {k : Nat} (hk : k < l.length) (h : l[k].id ≤ last) : (l.take (k + 1)).filter (fun h => decide (h.id ≤ last)) = (l.take k).filter (fun h => decide (h.id ≤ last)) ++ [l[k]] := take_true hk (by simp [h])
theorem replay_false {last : Nat} {l : List Hv} {k : Nat} (hk : k < l.length) (h : ¬ l[k].id ≤ last) : (l.take (k + 1)).filter (fun h => decide (h.id ≤ last)) = (l.take k).filter (fun h => decide (h.id ≤ last)) := take_false hk (by simp [h])
def lowL (last : Nat) (l : List Hv) : List Hv := l.filter fun h => decide (h.id ≤ last)
theorem low_true {last : Nat} {l : List Hv} {k : Nat} (hk : k < l.length) (h : l[k].id ≤ last) : lowL last (l.take (k + 1)) = lowL last (l.take k) ++ [l[k]] := replay_true hk h
theorem low_false {last : Nat} {l : List Hv} {k : Nat} (hk : k < l.length) (h : ¬ l[k].id ≤ last) : lowL last (l.take (k + 1)) = lowL last (l.take k) := replay_false hk h
theorem low_le (last : Nat) (l : List Hv) (k : Nat) : (lowL last (l.take k)).length ≤ k := Nat.le_trans (List.length_filter_le _ _) (List.length_take_le _ _)
theorem flat_len (l : List Hv) : (l.flatMap Hv.cells).length = l.length * 4 := by
  induction l with
  | nil => rfl
  | cons h t ih => rw [List.flatMap_cons, List.length_append, ih]; simp [Hv.cells]; omega
set_option maxHeartbeats 8000000 in
theorem ragain_any (w : World) (v : Value) (l : List Hv) (hl : RdH w v l) (nx last : Nat) (hnx : nx < 4294967296) (hla : last < 4294967296) (hl9 : l.length ≤ 1000000) :
    Calls Try.prog 19 #[.agg #[u32v nx, v], u32v last] w (RsPost 24 1 w (againF nx last l).length ((againF nx last l).map u32v)) := by
  obtain ⟨ad, cap, rfl, h1, h2, _⟩ := hl.shape
  obtain ⟨r, hr⟩ : ∃ r, fitsF nx last l = r := ⟨_, rfl⟩
  obtain ⟨xs, hxs⟩ : ∃ xs, ((againF nx last l).map u32v) = xs := ⟨_, rfl⟩
  obtain ⟨n, hn⟩ : ∃ n, (againF nx last l).length = n := ⟨_, rfl⟩
  have HN0 : Hid (¬ r = 0 → n = 0 ∧ xs = []) := Lw.hid (fun h => by rw [← hn, ← hxs]; unfold againF; rw [if_neg (by rw [hr]; exact h)]; exact ⟨rfl, rfl⟩)
  have HN1 : Hid (r = 0 → n = (aboveL last l).length ∧ xs = ((aboveL last l).map fun h => u32v h.id)) := Lw.hid (fun h => by
    rw [← hn, ← hxs]
    rw [show againF nx last l = (aboveL last l).map Hv.id from (again_ref (by rw [hr]; exact h)).symm, List.length_map, List.map_map]; exact ⟨rfl, rfl⟩)
  rw [hn, hxs]
  have HL := Lw.hid hl
  obtain ⟨m, hm⟩ : ∃ m, l.length = m := ⟨_, rfl⟩
  have HM := Lw.hid hm
  rw [hm] at h1 hl9 HL ⊢
  have HS := Lw.hid (RfAt.start w nx m cap ad)
  have HR0 := Lw.hid hr
  clear hl hm hr hn hxs
  go_enter Try.func19, Try.ntmps19
  go_wp2_with fail
  refine (rfits_any _ _ l (HS.out.rd HL.out) nx last hnx hla (by rw [HM.out]; exact hl9)).mono ?_
  rintro x w1 ⟨rfl, k1⟩
  rw [HR0.out]
  have HS1 := Lw.hid (HS.out.kept k1)
  obtain ⟨b0, b1⟩ := HS1.out.cells
  clear k1
  by_cases hr0 : r = 0
  · have z0 : ((r : Int) != 0) = false := by rw [fits_ne]; simp [hr0]
    obtain ⟨hn1, hx1⟩ := HN1.out hr0
    have HN2 := Lw.hid hn1; have HX2 := Lw.hid hx1
    clear hr0 hn1 hx1
    go_wp2_with fail
    go_loopg [5, 6] m (fun gk c i wr => ∃ k : Nat, gk = m - k ∧ k ≤ m ∧ i = .int .i64 k ∧ RfAt w wr nx m cap ad ∧ RfOut w wr 24 1 c (aboveL last (l.take k)).length ((aboveL last (l.take k)).map fun h => u32v h.id))
    case atStart => exact ⟨0, rfl, Nat.zero_le _, rfl, HS1.out, RfOut.nil _ _ _ _⟩
    case round =>
      obtain ⟨k, rfl, hk, rfl, hr, ho⟩ := hrel
      obtain ⟨c0, c1⟩ := hr.cells
      have HR := Lw.hid hr
      obtain ⟨ad1, cap1, rfl, hc1, hc2, _⟩ := own_slice ho.1
      unfold maxLen at hc2
      have HO := Lw.hid ho
      clear hr ho
      have hal := above_le last l k
      by_cases hlt : k < m
      · have hlt' : k < l.length := by rw [HM.out]; exact hlt
        obtain ⟨g, off, rfl, q0, q1, q2, q3⟩ := hv_at (HR.out.rd HL.out) hlt'
        have HA := Lw.hid (fun h => above_true (last := last) hlt' h)
        have HB := Lw.hid (fun h => above_false (last := last) hlt' h)
        obtain ⟨t, ht⟩ : ∃ t, l[k] = t := ⟨_, rfl⟩
        rw [ht] at q0 q1 q2 q3 HA HB
        obtain ⟨L, hL⟩ : ∃ L, aboveL last (l.take k) = L := ⟨_, rfl⟩
        rw [hL] at HA HB HO hal hc1 ⊢
        have HL1 := Lw.hid hL
        obtain ⟨c, hc⟩ : ∃ c, L.length = c := ⟨_, rfl⟩
        have HC := Lw.hid hc
        rw [hc] at hal HO hc1 ⊢
        clear ht hc hL
        by_cases e : last < t.id
        · have z2 : decide (last < t.id) = true := by simp; omega
          have hx := Lw.hid (HA.out e)
          have e1 : Hid ((wr.alloc (.cells ([u32v t.id] : List Value).toArray 24)).ownsRow 0 24 1 (.slice ad1 c cap1) c (L.map fun h => u32v h.id)) := Lw.hid (own_kept ((Kept.refl (fun _ => False) wr).alloc _) HO.out.1 (fun _ _ h => h))
          go_wp2_with (at_builtin; refine wpList_app rfl _ _ _ rfl EU32 _ c _ rfl e1.out _ 1 _ rfl (Rd.lit wr [u32v t.id] 24 1 wr.heap.size 1 rfl rfl (by decide)) (fun u hu => by rw [List.mem_singleton.1 hu]; rfl) (by unfold maxLen; omega) (by omega) ?_; intro ad' cap' w5 ho' hg hf; obtain ⟨hr5, ho5⟩ := HR.out.grow HO.out ho' hg hf; have HR5 := Lw.hid hr5; have HO5 := Lw.hid ho5; clear ho' hg hf hr5 ho5)
          go_roundg (m - (k + 1))
          case measure => omega
          case rel => exact ⟨k + 1, rfl, hlt, by go_num, HR5.out, by rw [hx.out, List.length_append, HC.out, List.map_append]; exact HO5.out⟩
        · have z2 : decide (last < t.id) = false := by simp; omega
          have hx := Lw.hid (HB.out e)
          go_wp2_with fail
          go_roundg (m - (k + 1))
          case measure => omega
          case rel => exact ⟨k + 1, rfl, hlt, by go_num, HR.out, by rw [hx.out, HC.out]; exact HO.out⟩
      · obtain rfl : k = m := by omega
        have HE : Hid (RfOut w wr 24 1 (.slice ad1 (aboveL last (l.take k)).length cap1) n xs) := Lw.hid (by
          have := HO.out
          rw [List.take_of_length_le (by rw [HM.out]; exact Nat.le_refl _)] at this ⊢
          rw [HN2.out, HX2.out]; exact this)
        obtain ⟨c, hc⟩ : ∃ c, (aboveL last (l.take k)).length = c := ⟨_, rfl⟩
        rw [hc] at hc1 HE ⊢
        clear hc hal HO
        go_wp2_with fail
        go_ret
        exact RsPost.of HR.out HE.out
  · have z0 : ((r : Int) != 0) = true := by rw [fits_ne]; simp [hr0]
    obtain ⟨hn1, hx1⟩ := HN0.out hr0
    have HN2 := Lw.hid hn1; have HX2 := Lw.hid hx1
    clear hr0 hn1 hx1
    go_wp2_with fail
    go_ret
    rw [HN2.out, HX2.out]
    exact RsPost.of HS1.out (RfOut.nil _ _ _ _)
set_option maxHeartbeats 8000000 in
theorem rreplay_any (w : World) (v : Value) (l : List Hv) (hl : RdH w v l) (nx last : Nat) (hnx : nx < 4294967296) (hla : last < 4294967296) (hl9 : l.length ≤ 1000000) :
    Calls Try.prog 26 #[.agg #[u32v nx, v], u32v last] w (RsPost 50 4 w (replayF nx last l).length ((replayF nx last l).flatMap Hv.cells)) := by
  obtain ⟨ad, cap, rfl, h1, h2, _⟩ := hl.shape
  obtain ⟨r, hr⟩ : ∃ r, fitsF nx last l = r := ⟨_, rfl⟩
  obtain ⟨xs, hxs⟩ : ∃ xs, ((replayF nx last l).flatMap Hv.cells) = xs := ⟨_, rfl⟩
  obtain ⟨n, hn⟩ : ∃ n, (replayF nx last l).length = n := ⟨_, rfl⟩
  have HN0 : Hid (¬ r = 0 → n = 0 ∧ xs = []) := Lw.hid (fun h => by rw [← hn, ← hxs]; unfold replayF; rw [if_neg (by rw [hr]; exact h)]; exact ⟨rfl, rfl⟩)
  have HN1 : Hid (r = 0 → n = (lowL last l).length ∧ xs = ((lowL last l).flatMap Hv.cells)) := Lw.hid (fun h => by
    rw [← hn, ← hxs]
    unfold replayF; rw [if_pos (by rw [hr]; exact h)]; exact ⟨rfl, rfl⟩)
  rw [hn, hxs]
  have HL := Lw.hid hl
  obtain ⟨m, hm⟩ : ∃ m, l.length = m := ⟨_, rfl⟩
  have HM := Lw.hid hm
  rw [hm] at h1 hl9 HL ⊢
  have HS := Lw.hid (RfAt.start w nx m cap ad)
  have HR0 := Lw.hid hr
  clear hl hm hr hn hxs
  go_enter Try.func26, Try.ntmps26
  go_wp2_with fail
  refine (rfits_any _ _ l (HS.out.rd HL.out) nx last hnx hla (by rw [HM.out]; exact hl9)).mono ?_
  rintro x w1 ⟨rfl, k1⟩
  rw [HR0.out]
  have HS1 := Lw.hid (HS.out.kept k1)
  obtain ⟨b0, b1⟩ := HS1.out.cells
  clear k1
  by_cases hr0 : r = 0
  · have z0 : ((r : Int) != 0) = false := by rw [fits_ne]; simp [hr0]
    obtain ⟨hn1, hx1⟩ := HN1.out hr0
    have HN2 := Lw.hid hn1; have HX2 := Lw.hid hx1
    clear hr0 hn1 hx1
    go_wp2_with fail
    go_loopg [5, 6] m (fun gk c i wr => ∃ k : Nat, gk = m - k ∧ k ≤ m ∧ i = .int .i64 k ∧ RfAt w wr nx m cap ad ∧ RfOut w wr 50 4 c (lowL last (l.take k)).length ((lowL last (l.take k)).flatMap Hv.cells))
    case atStart => exact ⟨0, rfl, Nat.zero_le _, rfl, HS1.out, RfOut.nil _ _ _ _⟩
    case round =>
      obtain ⟨k, rfl, hk, rfl, hr, ho⟩ := hrel
      obtain ⟨c0, c1⟩ := hr.cells
      have HR := Lw.hid hr
      obtain ⟨ad1, cap1, rfl, hc1, hc2, _⟩ := own_slice ho.1
      unfold maxLen at hc2
      have HO := Lw.hid ho
      clear hr ho
      have hal := low_le last l k
      by_cases hlt : k < m
      · have hlt' : k < l.length := by rw [HM.out]; exact hlt
        obtain ⟨g, off, rfl, q0, q1, q2, q3⟩ := hv_at (HR.out.rd HL.out) hlt'
        have HA := Lw.hid (fun h => low_true (last := last) hlt' h)
        have HB := Lw.hid (fun h => low_false (last := last) hlt' h)
        obtain ⟨t, ht⟩ : ∃ t, l[k] = t := ⟨_, rfl⟩
        rw [ht] at q0 q1 q2 q3 HA HB
        obtain ⟨L, hL⟩ : ∃ L, lowL last (l.take k) = L := ⟨_, rfl⟩
        rw [hL] at HA HB HO hal hc1 ⊢
        have HL1 := Lw.hid hL
        obtain ⟨c, hc⟩ : ∃ c, L.length = c := ⟨_, rfl⟩
        have HC := Lw.hid hc
        rw [hc] at hal HO hc1 ⊢
        clear ht hc hL
        by_cases e : t.id ≤ last
        · have z2 : decide (t.id ≤ last) = true := by simp; omega
          have hx := Lw.hid (HA.out e)
          have e1 : Hid ((wr.alloc (.cells ([u32v t.id, u32v t.out, u32v t.er, .bool t.st] : List Value).toArray 50)).ownsRow 0 50 4 (.slice ad1 c cap1) c (L.flatMap Hv.cells)) := Lw.hid (own_kept ((Kept.refl (fun _ => False) wr).alloc _) HO.out.1 (fun _ _ h => h))
          go_wp2_with (at_builtin; refine wpList_app rfl _ _ _ rfl ERv _ c _ rfl e1.out _ 1 _ rfl (Rd.lit wr [u32v t.id, u32v t.out, u32v t.er, .bool t.st] 50 4 wr.heap.size 1 rfl rfl (by decide)) (Hv.one t) (by unfold maxLen; omega) (by omega) ?_; intro ad' cap' w5 ho' hg hf; obtain ⟨hr5, ho5⟩ := HR.out.grow HO.out ho' hg hf; have HR5 := Lw.hid hr5; have HO5 := Lw.hid ho5; clear ho' hg hf hr5 ho5)
          go_roundg (m - (k + 1))
          case measure => omega
          case rel => exact ⟨k + 1, rfl, hlt, by go_num, HR5.out, by rw [hx.out, List.length_append, HC.out, List.flatMap_append]; exact HO5.out⟩
        · have z2 : decide (t.id ≤ last) = false := by simp; omega
          have hx := Lw.hid (HB.out e)
          go_wp2_with fail
          go_roundg (m - (k + 1))
          case measure => omega
          case rel => exact ⟨k + 1, rfl, hlt, by go_num, HR.out, by rw [hx.out, HC.out]; exact HO.out⟩
      · obtain rfl : k = m := by omega
        have HE : Hid (RfOut w wr 50 4 (.slice ad1 (lowL last (l.take k)).length cap1) n xs) := Lw.hid (by
          have := HO.out
          rw [List.take_of_length_le (by rw [HM.out]; exact Nat.le_refl _)] at this ⊢
          rw [HN2.out, HX2.out]; exact this)
        obtain ⟨c, hc⟩ : ∃ c, (lowL last (l.take k)).length = c := ⟨_, rfl⟩
        rw [hc] at hc1 HE ⊢
        clear hc hal HO
        go_wp2_with fail
        go_ret
        exact RsPost.of HR.out HE.out
  · have z0 : ((r : Int) != 0) = true := by rw [fits_ne]; simp [hr0]
    obtain ⟨hn1, hx1⟩ := HN0.out hr0
    have HN2 := Lw.hid hn1; have HX2 := Lw.hid hx1
    clear hr0 hn1 hx1
    go_wp2_with fail
    go_ret
    rw [HN2.out, HX2.out]
    exact RsPost.of HS1.out (RfOut.nil _ _ _ _)
end Go.Proofs.Ytbmfnepbdfnlaaa
