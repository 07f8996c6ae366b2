/- Chapter 13: a form, read; the document's. -/
import Derived.Test.YtbmfnepbdfnlaaaRParse
namespace Go.Proofs.Ytbmfnepbdfnlaaa
open Go Go.RowKit Go.Lw
set_option maxRecDepth 100000
set_option linter.unusedVariables false
set_option linter.unusedSimpArgs false
theorem be_step {b : List UInt8} {k : Nat} (h : k < b.length) : beVal (b.take (k + 1)) = beVal (b.take k) * 256 + (b[k]).toNat := by rw [take_snoc b k h, beVal_snoc]
theorem be_bd {b : List UInt8} {k : Nat} (h : k < 4) : beVal (b.take k) < 16777216 := by
  have h1 := beVal_lt (b.take k)
  have h2 : 256 ^ (b.take k).length ≤ 256 ^ 3 := Nat.pow_le_pow_right (by decide) (by rw [List.length_take]; omega)
  have : (256 : Nat) ^ 3 = 16777216 := by decide
  omega
set_option maxHeartbeats 2000000 in
theorem rnum_any (w : World) (v : Value) (b : List UInt8) (hb : RdB w v b) (h4 : 4 ≤ b.length) (n : Nat) (hn : beVal (b.take 4) = n) :
    Calls Try.prog 56 #[v] w fun e w' => e = .returned (.int .u32 (n : Int)) ∧ w = w' := by
  obtain ⟨ad, cap, rfl, h1, h2, hc⟩ := hb.open
  have HC := Lw.hid hc; have HN := Lw.hid hn
  clear hc hb hn
  unfold maxLen at h2
  go_enter Try.func56, Try.ntmps56
  go_wp2_with fail
  go_loop [3, 4] (fun x i => ∃ k : Nat, k ≤ 4 ∧ i = .int .i64 k ∧ x = .int .u32 ((beVal (b.take k) : Nat) : Int)) (fun _ i => 4 - (intOf i).toNat)
  case atStart => exact ⟨0, by omega, rfl, rfl⟩
  case round =>
    obtain ⟨k, hk, rfl, rfl⟩ := hrel
    by_cases hlt : k < 4
    · have hkb : k < b.length := by omega
      obtain ⟨g, off, rfl, c0⟩ := HC.out k hkb
      have hbd := be_bd (b := b) hlt
      have HS := Lw.hid (be_step hkb)
      have hc := (b[k]).toNat_lt
      obtain ⟨x, hx⟩ : ∃ x, (b[k]).toNat = x := ⟨_, rfl⟩
      rw [hx] at c0 HS hc
      obtain ⟨m, hm⟩ : ∃ m, b.length = m := ⟨_, rfl⟩
      obtain ⟨y, hy⟩ : ∃ y, beVal (b.take k) = y := ⟨_, rfl⟩
      have HY := Lw.hid hy
      rw [hm] at h1 h4 hkb
      rw [hm] at *
      rw [hy] at hbd
      rw [hy]
      have i0 : (0 : Int) ≤ (k : Int) := by omega
      have i1 : (k : Int) < (m : Int) := by omega
      clear hm hx hy
      go_wp2_with fail
      go_round
      case rel => exact ⟨k + 1, by omega, by go_num, by rw [HS.out, HY.out]; congr 1; push_cast; omega⟩
      case measure => simp [intOf]; omega
    · obtain rfl : k = 4 := by omega
      go_wp2_with fail
      go_ret
      exact ⟨by rw [← HN.out]; rfl, rfl⟩
structure PfAt (w : World) (A : Nat) (nx : Nat) (v : Value) (L : List Hv) (wr : World) : Prop where
  k : Kept (fun _ => False) w wr
  res : wr.heap[w.heap.size]? = some (.cells #[u32v 0, .slice none 0 0] 44 (0, 0))
  lo : w.heap.size < A
  box : wr.heap[A]? = some (.cells #[u32v nx, v] 44 (0, 0))
  row : wr.ownsRow 0 50 4 v L.length (L.flatMap Hv.cells)
  fr : ∀ k, blk v k → A < k
theorem PfAt.kept {w wr w' : World} {A : Nat} {nx : Nat} {v : Value} {L : List Hv} (h : PfAt w A nx v L wr) (k : Kept (fun _ => False) wr w') : PfAt w A nx v L w' :=
  ⟨h.k.trans k (fun _ _ h => h), k.heap h.res (fun h => h), h.lo, k.heap h.box (fun h => h), own_kept k h.row (fun _ _ h => h), h.fr⟩
theorem PfAt.grow {w wr w5 : World} {A : Nat} {nx n' : Nat} {v v' : Value} {L M : List Hv} (h : PfAt w A nx v L wr)
    (ho : w5.ownsRow 0 50 4 v' n' (L.flatMap Hv.cells ++ M.flatMap Hv.cells)) (hn : n' = L.length + M.length) (hg : wr.grownBy w5 v.ownBlock) (hf : Fresh wr v v') :
    w5.heap[A]? = some (.cells #[u32v nx, v] 44 (0, 0)) ∧ PfAt w A nx v' (L ++ M) (w5.setCell ⟨A, 1, none⟩ v') := by
  subst hn
  have q1 := h.lo
  have kx : Kept (blk v) wr w5 := (Kept.refl (blk v) wr).grown hg (fun k e _ => e)
  have hA := kx.heap h.box (fun e => by have := h.fr _ e; omega)
  have k2 : Kept (fun k => k = A) w5 (w5.setCell ⟨A, 1, none⟩ v') := (Kept.refl (fun k => k = A) w5).set _ _ (fun _ => rfl) _
  have hlA := (Array.getElem?_eq_some_iff.1 h.box).1
  have hv' : ∀ k, blk v' k → A < k := fun k hk' => by
    rcases hf k hk' with e | e
    · exact h.fr k e
    · omega
  refine ⟨hA, (h.k.trans kx (fun i hi e => by have := h.fr i e; have := h.k.size; omega)).trans k2 (fun i hi e => by have := h.k.size; have := (Array.getElem?_eq_some_iff.1 h.res).1; omega), k2.heap (kx.heap h.res (fun e => by have := h.fr _ e; omega)) (by omega), h.lo, heap_set hA 1 v', ?_, hv'⟩
  rw [List.length_append, List.flatMap_append]
  exact own_kept k2 ho (fun g hg e => by have := hv' g hg; omega)
theorem pf_fail {w wr : World} {T : TypeId} (k : Kept (fun _ => False) w wr) (er : Nat) {p : Nat × List Hv × Nat} (hp : p = (0, [], er)) :
    PsPost w p (.returned (.tuple #[.agg #[u32v 0, .slice none 0 0], .int .i64 (er : Int)])) ((wr.setCell ⟨w.heap.size, 0, none⟩ (u32v 0)).setCell ⟨w.heap.size, 1, none⟩ (.slice none 0 0)) := by
  subst hp
  have k2 : Kept (fun k => k = w.heap.size) wr ((wr.setCell ⟨w.heap.size, 0, none⟩ (u32v 0)).setCell ⟨w.heap.size, 1, none⟩ (.slice none 0 0)) := ((Kept.refl (fun k => k = w.heap.size) wr).set _ _ (fun _ => rfl) _).set _ _ (fun _ => rfl) _
  exact ⟨_, rfl, ⟨⟨Rd.nil _ _, fun _ h => by cases h⟩, fun k hk => (blk_none hk).elim⟩, k.trans k2 (fun i hi e => by omega)⟩
theorem pf_fail0 {w wr : World} (k : Kept (fun _ => False) w wr) (er : Nat) {p : Nat × List Hv × Nat} (hp : p = (0, [], er)) :
    PsPost w p (.returned (.tuple #[.agg #[u32v 0, .slice none 0 0], .int .i64 (er : Int)])) wr := by
  subst hp
  exact ⟨_, rfl, ⟨⟨Rd.nil _ _, fun _ h => by cases h⟩, fun k hk => (blk_none hk).elim⟩, k⟩
theorem PfAt.done {w wr : World} {A : Nat} {nx : Nat} {ad : Option Addr} {n cap : Nat} {L : List Hv} (h : PfAt w A nx (.slice ad n cap) L wr) (hok : ∀ x ∈ L, x.ok) {p : Nat × List Hv × Nat} (hp : p = (nx, L, 0)) :
    PsPost w p (.returned (.tuple #[.agg #[u32v nx, .slice ad n cap], .int .i64 0])) ((wr.setCell ⟨w.heap.size, 0, none⟩ (u32v nx)).setCell ⟨w.heap.size, 1, none⟩ (.slice ad n cap)) := by
  subst hp
  have q1 := h.lo
  have k2 : Kept (fun k => k = w.heap.size) wr ((wr.setCell ⟨w.heap.size, 0, none⟩ (u32v nx)).setCell ⟨w.heap.size, 1, none⟩ (.slice ad n cap)) := ((Kept.refl (fun k => k = w.heap.size) wr).set _ _ (fun _ => rfl) _).set _ _ (fun _ => rfl) _
  refine ⟨_, rfl, ⟨(rdh_own h.row rfl hok).kept k2 (fun i hi e => by have := h.fr i hi; omega), fun k hk => ⟨by have := h.fr k hk; omega, Nat.lt_of_lt_of_le (own_lt h.row k hk) k2.size⟩⟩, h.k.trans k2 (fun i hi e => by omega)⟩
def stRow (cs : List Value) : Stable := ⟨fun v w => Rd w 4 v 1 cs, fun _ _ _ hk h => Rd.kept hk h (fun _ _ h => h)⟩
theorem decs_snoc (b : List UInt8) (k : Nat) : decs b (k + 1) = decs b k ++ [decH (b.drop (5 + 13 * k))] := by unfold decs; rw [List.range_succ]; simp
theorem odds_snoc (b : List UInt8) (k : Nat) : odds b (k + 1) = (odds b k || oddH (b.drop (5 + 13 * k))) := by unfold odds; rw [List.range_succ]; simp
theorem odds_hit {b : List UInt8} {k m : Nat} (hk : k < m) (h : oddH (b.drop (5 + 13 * k)) = true) : odds b m = true := by
  unfold odds; rw [List.any_eq_true]; exact ⟨k, List.mem_range.2 hk, h⟩
theorem decs_ok (b : List UInt8) (k : Nat) : ∀ h ∈ decs b k, h.ok := by
  intro h hh
  unfold decs at hh
  obtain ⟨i, _, rfl⟩ := List.mem_map.1 hh
  have key : ∀ c : List UInt8, beVal (c.take 4) < 4294967296 := fun c => by
    have h1 := beVal_lt (c.take 4)
    have h2 : 256 ^ (c.take 4).length ≤ 256 ^ 4 := Nat.pow_le_pow_right (by decide) (List.length_take_le _ _)
    have : (256 : Nat) ^ 4 = 4294967296 := by decide
    omega
  exact ⟨key _, key _, key _⟩
theorem rdb_drop {w : World} {n cap k : Nat} {g off : Nat} {l : List UInt8} (h : RdB w (.slice (some ⟨g, off, none⟩) n cap) l) (hk : k ≤ n) (hkc : k < cap) : RdB w (.slice (some ⟨g, off + k, none⟩) (n - k) (cap - k)) (l.drop k) := by
  obtain ⟨a, c, hv, h1, h2, h3⟩ := h.open
  simp only [Value.slice.injEq] at hv
  obtain ⟨rfl, rfl, rfl⟩ := hv
  refine ⟨by simp, _, _, by rw [List.length_drop], by simp; omega, by unfold maxLen at *; omega, fun j u hj => ?_⟩
  rw [List.getElem?_map, List.getElem?_drop] at hj
  have hjl : k + j < l.length := by
    rcases Nat.lt_or_ge (k + j) l.length with h | h
    · exact h
    · rw [List.getElem?_eq_none h] at hj; cases hj
  obtain ⟨g', off', e, hc⟩ := h3 (k + j) hjl
  cases e
  rw [List.getElem?_eq_getElem hjl] at hj
  simp only [Option.map_some, Option.some.injEq] at hj
  exact ⟨_, _, rfl, by rw [← hj, show off + k + j = off + (k + j) by omega]; exact hc⟩
theorem rp_len {b : List UInt8} {k : Nat} (h : 5 + 13 * (k + 1) ≤ b.length) : 13 ≤ (b.drop (5 + 13 * k)).length := by rw [List.length_drop]; omega
set_option maxHeartbeats 16000000 in
theorem rparse_any (w : World) (src : Value) (b : List UInt8) (hb : RdB w src b) (hb9 : b.length ≤ 100000) :
    Calls Try.prog 30 #[src] w (PsPost w (parseF b)) := by
  obtain ⟨p, hp⟩ : ∃ p, parseF b = p := ⟨_, rfl⟩
  have HP := Lw.hid hp
  rw [hp]
  have HB := Lw.hid hb
  obtain ⟨ad, cap, rfl, h1, h2, hc⟩ := hb.open
  have HC := Lw.hid hc
  unfold maxLen at h2
  have HRW : Hid (w.heap.size = w.heap.size) := Lw.hid rfl
  have HK0 : Hid (Kept (fun _ => False) w (w.alloc (.cells #[u32v 0, .slice none 0 0] 44))) := Lw.hid ((Kept.refl _ w).alloc _)
  have HZ : Hid ((w.alloc (.cells #[u32v 0, .slice none 0 0] 44)).heap[w.heap.size]? = some (.cells #[u32v 0, .slice none 0 0] 44 (0, 0))) := Lw.hid (heap_at _ _ rfl)
  obtain ⟨M, hM⟩ : ∃ M, b.length = M := ⟨_, rfl⟩
  have HM := Lw.hid hM
  rw [hM] at h1 hb9 HB ⊢
  clear hb hp hc hM HRW
  by_cases h5 : M < 5
  · have HX : Hid (p = (0, [], 4)) := Lw.hid (by rw [← HP.out]; unfold parseF; rw [if_pos (.inl (by rw [HM.out]; exact h5))])
    have hd : decide ((M : Int) < 5) = true := by simp; omega
    obtain ⟨z0, z1, z2⟩ := cell2 (a := .int .u32 0) (b := .slice none 0 0) HZ.out
    have HZ0 := Lw.hid z0; have HZ1 := Lw.hid z1; have HZ2 := Lw.hid z2
    have HF := Lw.hid (pf_fail0 HK0.out 4 HX.out)
    clear z0 z1 z2
    go_enter Try.func30, Try.ntmps30
    go_wp2_with fail
    exact bodyPost_ret (v := .tuple #[.agg #[u32v 0, .slice none 0 0], .int .i64 4]) (by simp [results, Try.results30, go_sem]) rfl HF.out
  · obtain ⟨g, off, rfl, hc4⟩ := HC.out 4 (by rw [HM.out]; omega)
    obtain ⟨x, hx⟩ : ∃ x, manyB b = x := ⟨_, rfl⟩
    have hx4 : (b[4]'(by rw [HM.out]; omega)).toNat = x := by rw [← hx]; unfold manyB; rw [List.getD_eq_getElem?_getD, List.getElem?_eq_getElem (by rw [HM.out]; omega)]; rfl
    rw [hx4] at hc4
    have hx9 : x < 256 := by rw [← hx]; exact (b.getD 4 0).toNat_lt
    have hd5 : decide ((M : Int) < 5) = false := by simp; omega
    have c4 : (w.alloc (.cells #[u32v 0, .slice none 0 0] 44)).cell? ⟨g, off + 4, none⟩ = some (.int .u8 (x : Int)) := HK0.out.cell hc4 (fun h => h)
    have HX0 := Lw.hid hx
    clear hx hx4 hc4
    obtain ⟨wa, hwa⟩ : ∃ wa, w.alloc (.cells #[.int .u32 0, .slice none 0 0] 44) = wa := ⟨_, rfl⟩
    have HK1 : Hid (Kept (fun _ => False) w wa) := Lw.hid (by rw [← hwa]; exact HK0.out)
    have HZ1 : Hid (wa.heap[w.heap.size]? = some (.cells #[u32v 0, .slice none 0 0] 44 (0, 0))) := Lw.hid (by rw [← hwa]; exact HZ.out)
    have c4' : wa.cell? ⟨g, off + 4, none⟩ = some (.int .u8 (x : Int)) := by rw [← hwa]; exact c4
    have HWA := Lw.hid hwa
    have t0 := heap_cell HZ1.out 0; have t1 := heap_cell HZ1.out 1; have ft0 := heap_free HZ1.out 0; have ft1 := heap_free HZ1.out 1
    clear c4 hwa HK0 HZ
    go_enter Try.func30, Try.ntmps30
    go_upto_region 1 with fail
    rw [HWA.out]
    by_cases hs : M < 5 + 13 * x
    · have HX : Hid (p = (0, [], 4)) := Lw.hid (by rw [← HP.out]; unfold parseF; rw [HX0.out, HM.out, if_pos (.inr hs)])
      have hd : decide ((M : Int) < 5 + 13 * (x : Int)) = true := by simp; omega
      obtain ⟨z0, z1, z2⟩ := cell2 (a := .int .u32 0) (b := .slice none 0 0) HZ1.out
      have HY0 := Lw.hid z0; have HY1 := Lw.hid z1; have HY2 := Lw.hid z2
      have HF := Lw.hid (pf_fail (T := 0) HK1.out 4 HX.out)
      clear z0 z1 z2
      go_wp2_with fail
      exact bodyPost_ret (v := .tuple #[.agg #[u32v 0, .slice none 0 0], .int .i64 4]) (by simp [results, Try.results30, go_sem, HY0.out, HY1.out, HY2.out]) rfl HF.out
    · have hd : decide ((M : Int) < 5 + 13 * (x : Int)) = false := by simp; omega
      obtain ⟨nx, hnx⟩ : ∃ nx, beVal (b.take 4) = nx := ⟨_, rfl⟩
      have hnx9 : nx < 4294967296 := by
        have h1 := beVal_lt (b.take 4)
        have h2 : 256 ^ (b.take 4).length ≤ 256 ^ 4 := Nat.pow_le_pow_right (by decide) (List.length_take_le _ _)
        have : (256 : Nat) ^ 4 = 4294967296 := by decide
        omega
      have HPF : Hid (p = if 5 + 13 * x < M ∨ odds b x = true ∨ mayF nx (decs b x) = false then (0, [], 5) else (nx, decs b x, 0)) := Lw.hid (by rw [← HP.out]; unfold parseF; rw [HX0.out, HM.out, if_neg (by omega), hnx])
      have HNX := Lw.hid hnx
      have HBa : Hid (RdB wa (.slice (some ⟨g, off, none⟩) M cap) b) := Lw.hid (HB.out.kept HK1.out (fun _ _ h => h))
      clear hnx
      go_wp2_with fail
      refine (rnum_any wa _ b HBa.out (by rw [HM.out]; omega) nx HNX.out).mono ?_
      rintro e w3 ⟨rfl, rfl⟩
      have h3 : PfAt w wa.heap.size nx (.slice none 0 0) [] (wa.alloc (.cells #[.int .u32 (nx : Int), .slice none 0 0] 44)) :=
        ⟨HK1.out.alloc _, heap_alloc_lt HZ1.out, (Array.getElem?_eq_some_iff.1 HZ1.out).1, heap_at _ _ rfl, World.ownsRow_nil _ _ _ _, fun k h => (blk_none h).elim⟩
      obtain ⟨A, hA⟩ : ∃ A, wa.heap.size = A := ⟨_, rfl⟩
      obtain ⟨wy, hwy⟩ : ∃ wy, wa.alloc (.cells #[.int .u32 (nx : Int), .slice none 0 0] 44) = wy := ⟨_, rfl⟩
      have c4y : wy.cell? ⟨g, off + 4, none⟩ = some (.int .u8 (x : Int)) := by rw [← hwy]; exact ((Kept.refl (fun _ => False) wa).alloc _).cell c4' (fun h => h)
      rw [hA, hwy] at h3
      have H3 := Lw.hid h3; have HA := Lw.hid hA; have HWY := Lw.hid hwy
      clear h3 hA hwy c4' t0 t1 ft0 ft1 HZ1
      go_upto_region 4 with fail
      rw [HWY.out, HA.out]
      by_cases hl : 5 + 13 * x < M
      · have HX : Hid (p = (0, [], 5)) := Lw.hid (by rw [HPF.out, if_pos (.inl hl)])
        have hdl : decide (5 + 13 * (x : Int) < (M : Int)) = true := by simp; omega
        obtain ⟨z0, z1, z2⟩ := cell2 (a := .int .u32 0) (b := .slice none 0 0) H3.out.res
        have HY0 := Lw.hid z0; have HY1 := Lw.hid z1; have HY2 := Lw.hid z2
        have HF := Lw.hid (pf_fail (T := 0) H3.out.k 5 HX.out)
        have t0 := heap_cell H3.out.res 0; have t1 := heap_cell H3.out.res 1; have ft0 := heap_free H3.out.res 0; have ft1 := heap_free H3.out.res 1
        clear z0 z1 z2
        go_wp2_with fail
        exact bodyPost_ret (v := .tuple #[.agg #[u32v 0, .slice none 0 0], .int .i64 5]) (by simp [results, Try.results30, go_sem, HY0.out, HY1.out, HY2.out]) rfl HF.out
      · have hdl : decide (5 + 13 * (x : Int) < (M : Int)) = false := by simp; omega
        have hMx : M = 5 + 13 * x := by omega
        have HPF2 : Hid (p = if odds b x = true ∨ mayF nx (decs b x) = false then (0, [], 5) else (nx, decs b x, 0)) := Lw.hid (by
          rw [HPF.out]
          by_cases h : odds b x = true ∨ mayF nx (decs b x) = false
          · rw [if_pos (.inr h), if_pos h]
          · rw [if_neg (fun h' => by rcases h' with h' | h'; exact hl h'; exact h h'), if_neg h])
        have HMX := Lw.hid hMx
        clear hMx
        go_wp2_with fail
        go_loopg [6] x (fun gk i wr => ∃ (k : Nat) (v : Value), gk = x - k ∧ k ≤ x ∧ i = .int .i64 k ∧ odds b k = false ∧ PfAt w A nx v (decs b k) wr)
        case atStart => exact ⟨0, _, rfl, Nat.zero_le _, rfl, rfl, H3.out⟩
        case round =>
          obtain ⟨k, v, rfl, hk, rfl, hod, hr⟩ := hrel
          clear c4y
          obtain ⟨ad1, cap1, rfl, hc1, hc2, _⟩ := own_slice hr.row
          unfold maxLen at hc2
          have hdk : (decs b k).length = k := by unfold decs; simp
          rw [hdk] at hc1
          have HR := Lw.hid hr; have HOD := Lw.hid hod
          clear hr hod
          by_cases hlt : k < x
          · have HDS := Lw.hid (decs_snoc b k); have HOS := Lw.hid (odds_snoc b k)
            have HHIT := Lw.hid (odds_hit (b := b) hlt)
            obtain ⟨L, hL⟩ : ∃ L, decs b k = L := ⟨_, rfl⟩
            rw [hL] at HR HDS hdk
            have HLK := Lw.hid hdk
            rw [hdk] at HR
            have HBr : Hid (RdB wr (.slice (some ⟨g, off, none⟩) M cap) b) := Lw.hid (HB.out.kept HR.out.k (fun _ _ h => h))
            obtain ⟨C, hC⟩ : ∃ C, b.drop (5 + 13 * k) = C := ⟨_, rfl⟩
            have HC0 := Lw.hid hC
            rw [hC] at HDS HOS HHIT
            have HCL : Hid (C.length = M - (5 + 13 * k)) := Lw.hid (by rw [← hC, List.length_drop, HM.out])
            have HBm : Hid (Rd wr 1 (.slice (some ⟨g, off, none⟩) M cap) M (b.map bv)) := Lw.hid (by have := HBr.out; unfold RdB at this; rwa [HM.out] at this)
            clear hL hC hdk
            go_upto_region 11 with (refine wpList_slice_l rfl _ _ _ rfl EB _ M _ _ _ (5 + 13 * k) rfl rfl HBm.out (by omega) (by omega) ?_; intro ad7 cap7 hr7 _)
            have h7 : RdB wr (.slice ad7 (M - (5 + 13 * k)) cap7) C := by
              have := RdB.of_drop (n := 5 + 13 * k) (l := b) (by rw [HM.out]; exact hr7)
              rwa [HC0.out] at this
            have H7 := Lw.hid h7
            obtain ⟨n7, hn7⟩ : ∃ n7, M - (5 + 13 * k) = n7 := ⟨_, rfl⟩
            have hn13 : 13 ≤ n7 := by have := HMX.out; omega
            obtain ⟨a', c', ev, hq1, hq2, hq3⟩ := h7.open
            rw [hn7] at H7 HCL ev ⊢
            have hCn : C.length = n7 := HCL.out
            rw [hCn] at ev hq1
            cases ev
            unfold maxLen at hq2
            obtain ⟨g7, o7, rfl, d12⟩ := hq3 12 (by rw [hCn]; omega)
            have hst : C.getD 12 0 = C[12]'(by rw [hCn]; omega) := by rw [List.getD_eq_getElem?_getD, List.getElem?_eq_getElem (by rw [hCn]; omega)]; rfl
            obtain ⟨s, hs'⟩ : ∃ s, (C[12]'(by rw [hCn]; omega)).toNat = s := ⟨_, rfl⟩
            have HSV : Hid ((C.getD 12 0).toNat = s) := Lw.hid (by rw [hst]; exact hs')
            have hs9 : s < 256 := by rw [← hs']; exact UInt8.toNat_lt _
            rw [hs'] at d12
            clear hr7 h7 hn7 hq3 hst hs' hCn
            by_cases hs1 : 1 < s
            · have HX : Hid (p = (0, [], 5)) := Lw.hid (by rw [HPF2.out, if_pos (.inl (HHIT.out (by unfold oddH; rw [HSV.out]; simp; omega)))])
              have hd1 : decide ((1 : Int) < (s : Int)) = true := by simp; omega
              obtain ⟨z0, z1, z2⟩ := cell2 (a := .int .u32 0) (b := .slice none 0 0) HR.out.res
              have HY0 := Lw.hid z0; have HY1 := Lw.hid z1; have HY2 := Lw.hid z2
              have HF := Lw.hid (pf_fail (T := 0) HR.out.k 5 HX.out)
              have t0 := heap_cell HR.out.res 0; have t1 := heap_cell HR.out.res 1; have ft0 := heap_free HR.out.res 0; have ft1 := heap_free HR.out.res 1
              clear z0 z1 z2
              go_wp2_with fail
              exact bodyPost_ret (v := .tuple #[.agg #[u32v 0, .slice none 0 0], .int .i64 5]) (by simp [results, Try.results30, go_sem, HY0.out, HY1.out, HY2.out]) rfl HF.out
            · have hd1 : decide ((1 : Int) < (s : Int)) = false := by simp; omega
              have HODK : Hid (odds b (k + 1) = false) := Lw.hid (by rw [HOS.out, HOD.out]; unfold oddH; rw [HSV.out]; simp; omega)
              obtain ⟨x1, hx1⟩ : ∃ x1, beVal (C.take 4) = x1 := ⟨_, rfl⟩
              obtain ⟨x2, hx2⟩ : ∃ x2, beVal ((C.drop 4).take 4) = x2 := ⟨_, rfl⟩
              obtain ⟨x3, hx3⟩ : ∃ x3, beVal ((C.drop 8).take 4) = x3 := ⟨_, rfl⟩
              obtain ⟨st, hst⟩ : ∃ st, decide (s = 1) = st := ⟨_, rfl⟩
              have HDE : Hid (decH C = ⟨x1, x2, x3, st⟩) := Lw.hid (by unfold decH; rw [hx1, hx2, hx3, HSV.out, hst])
              have hq1 : ((s : Int) == 1) = st := by rw [← hst]; by_cases e : s = 1 <;> simp [e]; omega
              have HX1 := Lw.hid hx1; have HX2 := Lw.hid hx2; have HX3 := Lw.hid hx3
              rw [HDE.out] at HDS
              have HC7 : Hid (Rd wr 1 (.slice (some ⟨g7, o7, none⟩) n7 cap7) n7 (C.map bv)) := Lw.hid (by have := H7.out; unfold RdB at this; rwa [HCL.out] at this)
              clear hx1 hx2 hx3 hst HDE HOS
              go_upto_region 13 with fail
              refine wp_region_tail 16 [stV (.pointer (some ⟨A, 1, none⟩)), stV (.slice ad1 k cap1), stV (.slice (some ⟨g7, o7, none⟩) n7 cap7), stV (.int .u32 (x1 : Int)), stV (.slice (some ⟨g7, o7, none⟩) n7 cap7), stB (C.drop 4), stV (.int .u32 (x2 : Int)), stV (.slice (some ⟨g7, o7, none⟩) n7 cap7), stB (C.drop 8), stV (.int .u32 (x3 : Int)), stV (.slice (some ⟨g7, o7, none⟩) n7 cap7), stV (.pointer (some ⟨g7, o7 + 12, none⟩)), stV (.int .u8 (s : Int)), stV (.bool st), stV (.agg #[.int .u32 (x1 : Int), .int .u32 (x2 : Int), .int .u32 (x3 : Int), .bool st]), stRow [.int .u32 (x1 : Int), .int .u32 (x2 : Int), .int .u32 (x3 : Int), .bool st]] (by kernel_rfl) (by kernel_rfl) ?_ ?_
              · -- each operation by itself
                refine ssteps_cons (fun a' w' hI hag hf K hK => ?_) ?_
                · have s4 := hag.same 4 (by decide)
                  clear hag
                  go_wp2_with fail
                  exact hK _ _ hI (Kept.refl _ _) rfl
                refine ssteps_cons (fun a' w' hI hag hf K hK => ?_) ?_
                · obtain ⟨⟨_, h0, rfl⟩, -⟩ : SFacts _ _ a' w' [0] := hf
                  clear hag
                  have hh := hI.heap HR.out.box (fun h => h)
                  have c1 := heap_cell hh 1
                  clear hh
                  go_wp2_with fail
                  exact hK _ _ hI (Kept.refl _ _) rfl
                refine ssteps_cons (fun a' w' hI hag hf K hK => ?_) ?_
                · have s7 := hag.same 7 (by decide)
                  clear hag
                  go_wp2_with fail
                  exact hK _ _ hI (Kept.refl _ _) rfl
                refine ssteps_cons (fun a' w' hI hag hf K hK => ?_) ?_
                · obtain ⟨⟨_, h2, rfl⟩, -⟩ : SFacts _ _ a' w' [2] := hf
                  clear hag
                  go_wp2_with fail
                  refine (rnum_any w' _ C (H7.out.kept hI (fun _ _ h => h)) (by rw [HCL.out]; omega) x1 HX1.out).mono ?_
                  rintro e w4 ⟨rfl, rfl⟩
                  go_wp2_with fail
                  exact hK _ _ hI (Kept.refl _ _) rfl
                refine ssteps_cons (fun a' w' hI hag hf K hK => ?_) ?_
                · have s7 := hag.same 7 (by decide)
                  clear hag
                  go_wp2_with fail
                  exact hK _ _ hI (Kept.refl _ _) rfl
                refine ssteps_cons (fun a' w' hI hag hf K hK => ?_) ?_
                · obtain ⟨⟨_, h4, rfl⟩, -⟩ : SFacts _ _ a' w' [4] := hf
                  clear hag
                  have hcc : 4 < cap7 := by omega
                  go_wp2_with fail
                  exact hK _ _ hI (Kept.refl _ _) (rdb_drop (H7.out.kept hI (fun _ _ h => h)) (by omega) (by omega))
                refine ssteps_cons (fun a' w' hI hag hf K hK => ?_) ?_
                · obtain ⟨⟨v5, h5, e5⟩, -⟩ : SFacts _ _ a' w' [5, 3] := hf
                  clear hag
                  have E := Lw.hid e5
                  clear e5
                  go_wp2_with fail
                  refine (rnum_any w' _ (C.drop 4) E.out (by rw [List.length_drop, HCL.out]; omega) x2 HX2.out).mono ?_
                  rintro e w4 ⟨rfl, rfl⟩
                  go_wp2_with fail
                  exact hK _ _ hI (Kept.refl _ _) rfl
                refine ssteps_cons (fun a' w' hI hag hf K hK => ?_) ?_
                · have s7 := hag.same 7 (by decide)
                  clear hag
                  go_wp2_with fail
                  exact hK _ _ hI (Kept.refl _ _) rfl
                refine ssteps_cons (fun a' w' hI hag hf K hK => ?_) ?_
                · obtain ⟨⟨_, h7, rfl⟩, -⟩ : SFacts _ _ a' w' [7] := hf
                  clear hag
                  have hcc : 8 < cap7 := by omega
                  go_wp2_with fail
                  exact hK _ _ hI (Kept.refl _ _) (rdb_drop (H7.out.kept hI (fun _ _ h => h)) (by omega) (by omega))
                refine ssteps_cons (fun a' w' hI hag hf K hK => ?_) ?_
                · obtain ⟨⟨v8, h8, e8⟩, -⟩ : SFacts _ _ a' w' [8, 6] := hf
                  clear hag
                  have E := Lw.hid e8
                  clear e8
                  go_wp2_with fail
                  refine (rnum_any w' _ (C.drop 8) E.out (by rw [List.length_drop, HCL.out]; omega) x3 HX3.out).mono ?_
                  rintro e w4 ⟨rfl, rfl⟩
                  go_wp2_with fail
                  exact hK _ _ hI (Kept.refl _ _) rfl
                refine ssteps_cons (fun a' w' hI hag hf K hK => ?_) ?_
                · have s7 := hag.same 7 (by decide)
                  clear hag
                  go_wp2_with fail
                  exact hK _ _ hI (Kept.refl _ _) rfl
                refine ssteps_cons (fun a' w' hI hag hf K hK => ?_) ?_
                · obtain ⟨⟨_, h10, rfl⟩, -⟩ : SFacts _ _ a' w' [10] := hf
                  clear hag
                  go_wp2_with fail
                  exact hK _ _ hI (Kept.refl _ _) rfl
                refine ssteps_cons (fun a' w' hI hag hf K hK => ?_) ?_
                · obtain ⟨⟨_, h11, rfl⟩, -⟩ : SFacts _ _ a' w' [11] := hf
                  clear hag
                  have cc := hI.cell d12 (fun h => h)
                  go_wp2_with fail
                  exact hK _ _ hI (Kept.refl _ _) rfl
                refine ssteps_cons (fun a' w' hI hag hf K hK => ?_) ?_
                · obtain ⟨⟨_, h12, rfl⟩, -⟩ : SFacts _ _ a' w' [12] := hf
                  clear hag
                  go_wp2_with fail
                  exact hK _ _ hI (Kept.refl _ _) rfl
                refine ssteps_cons (fun a' w' hI hag hf K hK => ?_) ?_
                · obtain ⟨⟨_, h3, rfl⟩, ⟨_, h6, rfl⟩, ⟨_, h9, rfl⟩, ⟨_, h13, rfl⟩, -⟩ : SFacts _ _ a' w' [3, 6, 9, 13] := hf
                  clear hag
                  go_wp2_with fail
                  exact hK _ _ hI (Kept.refl _ _) rfl
                refine ssteps_cons (fun a' w' hI hag hf K hK => ?_) ?_
                · obtain ⟨⟨_, h14, rfl⟩, -⟩ : SFacts _ _ a' w' [14] := hf
                  clear hag
                  go_wp2_with fail
                  exact hK _ _ (hI.alloc _) ((Kept.refl _ w').alloc _) (Rd.lit w' [.int .u32 (x1 : Int), .int .u32 (x2 : Int), .int .u32 (x3 : Int), .bool st] 50 4 w'.heap.size 1 rfl rfl (by decide))
                exact trivial
              · intro vs wz hI hvs
                have q0 : vs 0 = (.pointer (some ⟨A, 1, none⟩)) := hvs 0 _ _ rfl rfl
                have q1 : vs 1 = (.slice ad1 k cap1) := hvs 1 _ _ rfl rfl
                have q2 : vs 2 = (.slice (some ⟨g7, o7, none⟩) n7 cap7) := hvs 2 _ _ rfl rfl
                have q3 : vs 3 = (.int .u32 (x1 : Int)) := hvs 3 _ _ rfl rfl
                have q4 : vs 4 = (.slice (some ⟨g7, o7, none⟩) n7 cap7) := hvs 4 _ _ rfl rfl
                have q5 := hvs 5 _ _ rfl rfl
                have q6 : vs 6 = (.int .u32 (x2 : Int)) := hvs 6 _ _ rfl rfl
                have q7 : vs 7 = (.slice (some ⟨g7, o7, none⟩) n7 cap7) := hvs 7 _ _ rfl rfl
                have q8 := hvs 8 _ _ rfl rfl
                have q9 : vs 9 = (.int .u32 (x3 : Int)) := hvs 9 _ _ rfl rfl
                have q10 : vs 10 = (.slice (some ⟨g7, o7, none⟩) n7 cap7) := hvs 10 _ _ rfl rfl
                have q11 : vs 11 = (.pointer (some ⟨g7, o7 + 12, none⟩)) := hvs 11 _ _ rfl rfl
                have q12 : vs 12 = (.int .u8 (s : Int)) := hvs 12 _ _ rfl rfl
                have q13 : vs 13 = (.bool st) := hvs 13 _ _ rfl rfl
                have q14 : vs 14 = (.agg #[.int .u32 (x1 : Int), .int .u32 (x2 : Int), .int .u32 (x3 : Int), .bool st]) := hvs 14 _ _ rfl rfl
                have q15 := hvs 15 _ _ rfl rfl
                clear hvs
                simp only [List.take_succ_cons, List.take_zero, List.drop_succ_cons, List.drop_zero, putAll, Act.put, List.setIfInBounds_toArray, List.set_cons_zero, List.set_cons_succ, Nat.reduceAdd, q0, q1, q2, q3, q4, q6, q7, q9, q10, q11, q12, q13, q14]
                clear q0 q1 q2 q3 q4 q6 q7 q9 q10 q11 q12 q13 q14
                generalize vs 5 = x5 at *
                generalize vs 8 = x8 at *
                generalize vs 15 = x15 at *
                have HRZ := Lw.hid (HR.out.kept hI)
                have Q15 : Hid (Rd wz 4 x15 1 [.int .u32 (x1 : Int), .int .u32 (x2 : Int), .int .u32 (x3 : Int), .bool st]) := Lw.hid q15
                have e1 : Hid (wz.ownsRow 0 50 4 (.slice ad1 k cap1) k (L.flatMap Hv.cells)) := Lw.hid (by have := HRZ.out.row; rwa [HLK.out] at this)
                clear q15 q5 q8 d12
                go_wp2_with (at_builtin; refine wpList_app rfl _ _ _ rfl ERv _ k _ rfl e1.out _ 1 _ rfl Q15.out (Hv.one ⟨x1, x2, x3, st⟩) (by unfold maxLen; omega) (by omega) ?_; intro ad' cap' n7' ho hg hf; obtain ⟨hb7, hr7⟩ := HRZ.out.grow (M := [⟨x1, x2, x3, st⟩]) ho (by rw [HLK.out]; rfl) hg hf; have HR7 := Lw.hid hr7; have j0 := heap_cell hb7 0; have j1 := heap_cell hb7 1; have fj := heap_free hb7 1; clear ho hg hf hr7 hb7)
                go_roundg (x - (k + 1))
                case measure => omega
                case rel => exact ⟨k + 1, _, rfl, hlt, by go_num, HODK.out, by rw [HDS.out]; exact HR7.out⟩
          · obtain rfl : k = x := by omega
            have HOK := Lw.hid (decs_ok b k)
            obtain ⟨L, hL⟩ : ∃ L, decs b k = L := ⟨_, rfl⟩
            rw [hL] at HR HPF2 HOK hdk
            have HLK := Lw.hid hdk
            rw [hdk] at HR
            have b0 := heap_cell HR.out.box 0; have b1 := heap_cell HR.out.box 1
            clear hL hdk
            go_wp2_with fail
            refine (rmay_any wr _ L (rdh_own HR.out.row rfl HOK.out) nx hnx9 (by rw [HLK.out]; omega)).mono ?_
            rintro e w7 ⟨rfl, k7⟩
            have HR7 : Hid (PfAt w A nx (.slice ad1 k cap1) L w7) := Lw.hid (HR.out.kept k7)
            have b0 := heap_cell HR7.out.box 0; have b1 := heap_cell HR7.out.box 1
            have t0 := heap_cell HR7.out.res 0; have t1 := heap_cell HR7.out.res 1; have ft0 := heap_free HR7.out.res 0; have ft1 := heap_free HR7.out.res 1
            have HF := Lw.hid (fun er hp => pf_fail (T := 0) (p := p) HR7.out.k er hp)
            have HD := Lw.hid (fun hp => HR7.out.done (p := p) HOK.out hp)
            obtain ⟨z0, z1, z2⟩ := cell2 (a := .int .u32 0) (b := .slice none 0 0) HR7.out.res
            obtain ⟨z3, z4, z5⟩ := cell2 (a := u32v nx) (b := .slice ad1 k cap1) HR7.out.res
            have HZ0 := Lw.hid z0; have HZ1 := Lw.hid z1; have HZ2 := Lw.hid z2; have HZ3 := Lw.hid z3; have HZ4 := Lw.hid z4; have HZ5 := Lw.hid z5
            clear z0 z1 z2 z3 z4 z5 k7
            cases hmay : mayF nx L with
            | false =>
              have HX : Hid (p = (0, [], 5)) := Lw.hid (by rw [HPF2.out, if_pos (.inr hmay)])
              clear hmay
              go_wp2_with fail
              exact bodyPost_ret (v := .tuple #[.agg #[u32v 0, .slice none 0 0], .int .i64 5]) (by simp [results, Try.results30, go_sem, HZ0.out, HZ1.out, HZ2.out]) rfl (HF.out 5 HX.out)
            | true =>
              have HX : Hid (p = (nx, L, 0)) := Lw.hid (by rw [HPF2.out, if_neg (fun h => by rcases h with h | h; rw [HOD.out] at h; cases h; rw [hmay] at h; cases h)])
              clear hmay
              go_wp2_with fail
              exact bodyPost_ret (v := .tuple #[.agg #[u32v nx, .slice ad1 k cap1], .int .i64 0]) (by simp [results, Try.results30, go_sem, HZ3.out, HZ4.out, HZ5.out]) rfl (HD.out HX.out)
end Go.Proofs.Ytbmfnepbdfnlaaa
