/- Chapter 13: a form, read; the program's. -/
import Derived.Test.YtbmfnepbdfnlaaaLaw13
import Derived.Test.YtbmfnepbdfnlaaaParse13P
namespace Go.Proofs.Ytbmfnepbdfnlaaa
open Go Go.RowKit Go.Lw
set_option maxRecDepth 100000
set_option linter.unusedVariables false
set_option linter.unusedSimpArgs false
theorem rbyte_as (w : World) (br : Nat) (v : Value) (r r' : Rdr) (k : Nat) (h : ReaderAt w br v r) (hx : r.num 1 = (k, r')) :
    Calls Try.prog 53 #[.pointer (some ⟨br, 0, none⟩)] w fun e w' => e = .returned (.int .u8 (k : Int)) ∧ RdPost w w' br v r' := by
  have := rbyte_any w br v r h
  rw [hx] at this; exact this
theorem rfour_as (w : World) (br : Nat) (v : Value) (r r' : Rdr) (k : Nat) (h : ReaderAt w br v r) (hx : r.num 4 = (k, r')) :
    Calls Try.prog 52 #[.pointer (some ⟨br, 0, none⟩)] w fun e w' => e = .returned (.int .u32 (k : Int)) ∧ RdPost w w' br v r' := by
  have := rfour_any w br v r h
  rw [hx] at this; exact this
structure PsAt (w : World) (br A : Nat) (vr : Value) (r : Rdr) (nx : Nat) (v : Value) (L : List Hv) (wr : World) : Prop where
  k : Kept (fun _ => False) w wr
  res : wr.heap[w.heap.size]? = some (.cells #[u32v 0, .slice none 0 0] 26 (0, 0))
  rd : ReaderAt wr br vr r
  hbr : w.heap.size < br
  hvr : ∀ k, blk vr k → w.heap.size < k ∧ k < A
  brA : br < A
  box : wr.heap[A]? = some (.cells #[u32v nx, v] 26 (0, 0))
  row : wr.ownsRow 0 35 4 v L.length (L.flatMap Hv.cells)
  fr : ∀ k, blk v k → A < k
theorem PsAt.read {w wr w' : World} {br A : Nat} {vr : Value} {r r' : Rdr} {nx : Nat} {v : Value} {L : List Hv} (h : PsAt w br A vr r nx v L wr) (hp : RdPost wr w' br vr r') : ∃ vr', PsAt w br A vr' r' nx v L w' := by
  obtain ⟨v', h1, h2, h3⟩ := hp
  have q1 := h.hbr; have q2 := h.brA
  exact ⟨v', h.k.trans h2 (fun i hi e => by omega), h2.heap h.res (by omega), h1, h.hbr, fun k hk => h.hvr k (h3 k hk), h.brA, h2.heap h.box (by omega), own_kept h2 h.row (fun g hg e => by have := h.fr g hg; omega), h.fr⟩
theorem PsAt.kept {w wr w' : World} {br A : Nat} {vr : Value} {r : Rdr} {nx : Nat} {v : Value} {L : List Hv} (h : PsAt w br A vr r nx v L wr) (k : Kept (fun _ => False) wr w') : PsAt w br A vr r nx v L w' :=
  ⟨h.k.trans k (fun _ _ h => h), k.heap h.res (fun h => h), h.rd.kept k (fun h => h) (fun _ _ h => h), h.hbr, h.hvr, h.brA, k.heap h.box (fun h => h), own_kept k h.row (fun _ _ h => h), h.fr⟩
theorem PsAt.grow {w wr wx w5 : World} {br A : Nat} {vr : Value} {r : Rdr} {nx n' : Nat} {v v' : Value} {L M : List Hv} (h : PsAt w br A vr r nx v L wr) (hk : Kept (fun _ => False) wr wx)
    (ho : w5.ownsRow 0 35 4 v' n' (L.flatMap Hv.cells ++ M.flatMap Hv.cells)) (hn : n' = L.length + M.length) (hg : wx.grownBy w5 v.ownBlock) (hf : Fresh wx v v') :
    w5.heap[A]? = some (.cells #[u32v nx, v] 26 (0, 0)) ∧ PsAt w br A vr r nx v' (L ++ M) (w5.setCell ⟨A, 1, none⟩ v') := by
  subst hn
  have q1 := h.hbr; have q2 := h.brA
  have kx : Kept (blk v) wr w5 := (hk.mono (fun _ _ h => h.elim)).grown hg (fun k e _ => e)
  have hA := kx.heap h.box (fun e => by have := h.fr _ e; omega)
  have k2 : Kept (fun k => k = A) w5 (w5.setCell ⟨A, 1, none⟩ v') := (Kept.refl (fun k => k = A) w5).set _ _ (fun _ => rfl) _
  have hlA := (Array.getElem?_eq_some_iff.1 h.box).1
  have hsz := hk.size
  have hv' : ∀ k, blk v' k → A < k := fun k hk' => by
    rcases hf k hk' with e | e
    · exact h.fr k e
    · omega
  refine ⟨hA, (h.k.trans kx (fun i hi e => by have := h.fr i e; have := h.k.size; omega)).trans k2 (fun i hi e => by have := h.k.size; have := (Array.getElem?_eq_some_iff.1 h.res).1; omega), k2.heap (kx.heap h.res (fun e => by have := h.fr _ e; omega)) (by omega),
    (h.rd.kept kx (fun e => by have := h.fr _ e; omega) (fun g hg e => by have := h.fr g e; have := (h.hvr g hg).2; omega)).kept k2 (by omega) (fun g hg e => by have := (h.hvr g hg).2; omega), h.hbr, h.hvr, h.brA, heap_set hA 1 v', ?_, hv'⟩
  rw [List.length_append, List.flatMap_append]
  exact own_kept k2 ho (fun g hg e => by have := hv' g hg; omega)
def PsPost (w : World) (p : Nat × List Hv × Nat) (x : Ending) (w' : World) : Prop := ∃ v', x = .returned (.tuple #[askV p.1 v', .int .i64 (p.2.2 : Int)]) ∧ OwnH w.heap.size p.2.1 v' w' ∧ Kept (fun _ => False) w w'
theorem PsAt.fail {w wr : World} {br A : Nat} {vr : Value} {r : Rdr} {nx : Nat} {v : Value} {L : List Hv} (h : PsAt w br A vr r nx v L wr) (er : Nat) {p : Nat × List Hv × Nat} (hp : p = (0, [], er)) :
    PsPost w p (.returned (.tuple #[.agg #[u32v 0, .slice none 0 0], .int .i64 (er : Int)])) ((wr.setCell ⟨w.heap.size, 0, none⟩ (u32v 0)).setCell ⟨w.heap.size, 1, none⟩ (.slice none 0 0)) := by
  subst hp
  have k2 : Kept (fun k => k = w.heap.size) wr ((wr.setCell ⟨w.heap.size, 0, none⟩ (u32v 0)).setCell ⟨w.heap.size, 1, none⟩ (.slice none 0 0)) := ((Kept.refl (fun k => k = w.heap.size) wr).set _ _ (fun _ => rfl) _).set _ _ (fun _ => rfl) _
  exact ⟨_, rfl, ⟨⟨Rd.nil _ _, fun _ h => by cases h⟩, fun k hk => (blk_none hk).elim⟩, h.k.trans k2 (fun i hi e => by omega)⟩
theorem PsAt.done {w wr : World} {br A : Nat} {vr : Value} {r : Rdr} {nx : Nat} {ad : Option Addr} {n cap : Nat} {L : List Hv} (h : PsAt w br A vr r nx (.slice ad n cap) L wr) (hok : ∀ x ∈ L, x.ok) {p : Nat × List Hv × Nat} (hp : p = (nx, L, 0)) :
    PsPost w p (.returned (.tuple #[.agg #[u32v nx, .slice ad n cap], .int .i64 0])) ((wr.setCell ⟨w.heap.size, 0, none⟩ (u32v nx)).setCell ⟨w.heap.size, 1, none⟩ (.slice ad n cap)) := by
  subst hp
  have q1 := h.hbr; have q2 := h.brA
  have k2 : Kept (fun k => k = w.heap.size) wr ((wr.setCell ⟨w.heap.size, 0, none⟩ (u32v nx)).setCell ⟨w.heap.size, 1, none⟩ (.slice ad n cap)) := ((Kept.refl (fun k => k = w.heap.size) wr).set _ _ (fun _ => rfl) _).set _ _ (fun _ => rfl) _
  refine ⟨_, rfl, ⟨(rdh_own h.row rfl hok).kept k2 (fun i hi e => by have := h.fr i hi; omega), fun k hk => ⟨by have := h.fr k hk; omega, Nat.lt_of_lt_of_le (own_lt h.row k hk) k2.size⟩⟩, h.k.trans k2 (fun i hi e => by omega)⟩
set_option maxHeartbeats 16000000 in
theorem parse_any (w : World) (src : Value) (b : List UInt8) (hb : RdB w src b) (hb9 : b.length ≤ 100000) :
    Calls Try.prog 29 #[src] w (PsPost w (parseF b)) := by
  rw [← parse_eq]
  obtain ⟨p, hp⟩ : ∃ p, parseR b = p := ⟨_, rfl⟩
  have HP := Lw.hid hp
  rw [hp]
  have HB := Lw.hid hb
  clear hb hp
  obtain ⟨nx, r1, h1⟩ : ∃ x r, (⟨b, false⟩ : Rdr).num 4 = (x, r) := ⟨_, _, rfl⟩
  obtain ⟨c, r2, h2⟩ : ∃ x r, r1.num 1 = (x, r) := ⟨_, _, rfl⟩
  have HPF : Hid (p = (if (itF r2 c).2.2.short = true then (0, [], 4) else if 0 < (itF r2 c).2.2.l.length ∨ (itF r2 c).2.1 = true ∨ mayF nx (itF r2 c).1 = false then (0, [], 5) else (nx, (itF r2 c).1, 0))) := Lw.hid (by
    rw [← HP.out]; unfold parseR; simp only [h1, h2])
  have hnx : nx < 4294967296 := by have := Rdr.num_lt ⟨b, false⟩ 4; rw [h1] at this; simpa using this
  have hc : c < 256 := by have := Rdr.num_lt r1 1; rw [h2] at this; simpa using this
  have H1 := Lw.hid h1; have H2 := Lw.hid h2
  clear h1 h2 HP
  go_enter Try.func29, Try.ntmps29
  go_wp2_with fail
  refine (new_any _ src b (HB.out.kept ((Kept.refl (fun _ => False) w).alloc _) (fun _ _ h => h)) (by omega)).mono ?_
  rintro e w2 ⟨br, v0, rfl, hr2, k2, hlo, hv0⟩
  have HR2 := Lw.hid hr2; have HK2 := Lw.hid k2; have HV0 := Lw.hid hv0
  have hlo' : w.heap.size < br := by simp at hlo; omega
  clear hr2 k2 hv0 hlo
  go_wp2_with fail
  refine (rfour_as w2 br v0 _ r1 nx HR2.out H1.out).mono ?_
  rintro e w3 ⟨rfl, hp⟩
  have HP3 := Lw.hid hp
  obtain ⟨v1, hq1, hq2, hq3⟩ := hp
  have h3 : PsAt w br w3.heap.size v1 r1 nx (.slice none 0 0) [] (w3.alloc (.cells #[.int .u32 (nx : Int), .slice none 0 0] 26)) := by
    have hz : (w.alloc (.cells #[u32v 0, .slice none 0 0] 26)).heap[w.heap.size]? = some (.cells #[u32v 0, .slice none 0 0] 26 (0, 0)) := heap_at _ _ rfl
    have hs := (Array.getElem?_eq_some_iff.1 hz).1
    have hk2 := HK2.out.size
    have hbr : br < w2.heap.size := HR2.out.lt
    refine ⟨((((Kept.refl _ w).alloc _).trans HK2.out (fun _ _ h => h)).trans hq2 (fun i hi e => by omega)).alloc _, heap_alloc_lt (hq2.heap (HK2.out.heap hz (fun h => h)) (by omega)), hq1.kept ((Kept.refl (fun _ => False) w3).alloc _) (fun h => h) (fun _ _ h => h), hlo', fun k hk => ?_, Nat.lt_of_lt_of_le hbr hq2.size, heap_at _ _ rfl, World.ownsRow_nil _ _ _ _, fun k hk => (blk_none hk).elim⟩
    obtain ⟨a1, a2⟩ := HV0.out k (hq3 k hk)
    have := hq2.size
    simp at a1
    omega
  obtain ⟨A, hA⟩ : ∃ A, w3.heap.size = A := ⟨_, rfl⟩
  obtain ⟨wy, hwy⟩ : ∃ wy, w3.alloc (.cells #[.int .u32 (nx : Int), .slice none 0 0] 26) = wy := ⟨_, rfl⟩
  rw [hA, hwy] at h3
  have H3 := Lw.hid h3; have HA := Lw.hid hA; have HWY := Lw.hid hwy
  clear h3 hA hwy hq1 hq2 hq3 HP3 HR2 HK2 HV0
  go_upto_region 3 with fail
  rw [HWY.out, HA.out]
  go_wp2_with fail
  refine (rbyte_as wy br v1 _ r2 c H3.out.rd H2.out).mono ?_
  rintro e w4 ⟨rfl, hp⟩
  obtain ⟨v2, h4⟩ := H3.out.read hp
  have H4 := Lw.hid h4
  clear h4 hp H3 HA HWY
  go_wp2_with fail
  go_loopg [6, 16] c (fun gk od i wr => ∃ (k : Nat) (vr v : Value), gk = c - k ∧ k ≤ c ∧ i = .int .u8 k ∧ od = .bool (itF r2 k).2.1 ∧ PsAt w br A vr (itF r2 k).2.2 nx v (itF r2 k).1 wr)
  case atStart => exact ⟨0, v2, _, rfl, Nat.zero_le _, rfl, rfl, H4.out⟩
  case round =>
    obtain ⟨k, vr, v, rfl, hk, rfl, rfl, hr⟩ := hrel
    obtain ⟨ad1, cap1, rfl, hc1, hc2, _⟩ := own_slice hr.row
    unfold maxLen at hc2
    have hl := it_len r2 k
    have HOK := Lw.hid (it_ok r2 c)
    by_cases hlt : k < c
    · have HIT : Hid (itF r2 (k + 1) = ((itF r2 k).1 ++ [(oneF (itF r2 k).2.2).1], (itF r2 k).2.1 || (oneF (itF r2 k).2.2).2.1, (oneF (itF r2 k).2.2).2.2)) := Lw.hid rfl
      obtain ⟨L, od, r, hit⟩ : ∃ L od r, itF r2 k = (L, od, r) := ⟨_, _, _, rfl⟩
      rw [hit] at HIT hr hc1 hl ⊢
      dsimp only at HIT hr hc1 hl ⊢
      obtain ⟨x1, s1, g1⟩ : ∃ x s, r.num 4 = (x, s) := ⟨_, _, rfl⟩
      obtain ⟨x2, s2, g2⟩ : ∃ x s, s1.num 4 = (x, s) := ⟨_, _, rfl⟩
      obtain ⟨x3, s3, g3⟩ : ∃ x s, s2.num 4 = (x, s) := ⟨_, _, rfl⟩
      obtain ⟨x4, s4, g4⟩ : ∃ x s, s3.num 1 = (x, s) := ⟨_, _, rfl⟩
      have hx4 : x4 < 256 := by have := Rdr.num_lt s3 1; rw [g4] at this; simpa using this
      obtain ⟨st, hst⟩ : ∃ st, decide (x4 = 1) = st := ⟨_, rfl⟩
      obtain ⟨o2, ho2⟩ : ∃ o2, decide (1 < x4) = o2 := ⟨_, rfl⟩
      have HON : Hid (oneF r = (⟨x1, x2, x3, st⟩, o2, s4)) := Lw.hid (by unfold oneF; simp only [g1, g2, g3, g4, hst, ho2])
      rw [HON.out] at HIT
      dsimp only at HIT
      have hq1 : ((x4 : Int) == 1) = st := by rw [← hst]; by_cases e : x4 = 1 <;> simp [e]; omega
      have hq2 : decide ((1 : Int) < (x4 : Int)) = o2 := by rw [← ho2]; by_cases e : 1 < x4 <;> simp [e] <;> omega
      rw [hl] at hc1
      have HR := Lw.hid hr; have HLL := Lw.hid hl
      have G1 := Lw.hid g1; have G2 := Lw.hid g2; have G3 := Lw.hid g3; have G4 := Lw.hid g4
      clear hr hit g1 g2 g3 g4 hst ho2 HON hl
      go_wp2_with fail
      refine (rfour_as wr br vr _ s1 x1 HR.out.rd G1.out).mono ?_
      rintro e n1 ⟨rfl, hp⟩
      obtain ⟨u1, h'⟩ := HR.out.read hp
      have HR1 := Lw.hid h'; clear h' hp HR
      go_wp2_with fail
      refine (rfour_as n1 br u1 _ s2 x2 HR1.out.rd G2.out).mono ?_
      rintro e n2 ⟨rfl, hp⟩
      obtain ⟨u2, h'⟩ := HR1.out.read hp
      have HR2 := Lw.hid h'; clear h' hp HR1
      go_wp2_with fail
      refine (rfour_as n2 br u2 _ s3 x3 HR2.out.rd G3.out).mono ?_
      rintro e n3 ⟨rfl, hp⟩
      obtain ⟨u3, h'⟩ := HR2.out.read hp
      have HR3 := Lw.hid h'; clear h' hp HR2
      go_upto_region 6 with fail
      obtain ⟨n4, hn4⟩ : ∃ n4, n3.alloc (.cells #[.int .u32 (x1 : Int), .int .u32 (x2 : Int), .int .u32 (x3 : Int), .bool false] 35) = n4 := ⟨_, rfl⟩
      have HR4 : Hid (PsAt w br A u3 s3 nx (.slice ad1 L.length cap1) L n4) := Lw.hid (by rw [← hn4]; exact HR3.out.kept ((Kept.refl _ _).alloc _))
      have HX4 : Hid (n4.heap[n3.heap.size]? = some (.cells #[u32v x1, u32v x2, u32v x3, .bool false] 35 (0, 0))) := Lw.hid (by rw [← hn4]; exact heap_at _ _ rfl)
      have HS4 : Hid (A < n3.heap.size) := Lw.hid (Array.getElem?_eq_some_iff.1 HR3.out.box).1
      rw [hn4]
      obtain ⟨hb, hhb⟩ : ∃ hb, n3.heap.size = hb := ⟨_, rfl⟩
      have HRF3 : Hid (∀ g, blk (.slice ad1 L.length cap1) g → g < hb) := Lw.hid (fun g hg => by rw [← hhb]; exact own_lt HR3.out.row g hg)
      have HVR : Hid (∀ g, blk u3 g → g < A) := Lw.hid (fun g hg => (HR3.out.hvr g hg).2)
      rw [hhb] at HX4 HS4 ⊢
      clear hn4 hhb HR3
      go_wp2_with fail
      refine (rbyte_as n4 br u3 _ s4 x4 HR4.out.rd G4.out).mono ?_
      rintro e n5 ⟨rfl, hp⟩
      have HX5 : Hid (n5.heap[hb]? = some (.cells #[u32v x1, u32v x2, u32v x3, .bool false] 35 (0, 0))) := Lw.hid (by
        obtain ⟨_, _, hk, _⟩ := hp
        exact hk.heap HX4.out (fun e => by have := HR4.out.brA; have := HS4.out; omega))
      obtain ⟨u5, h'⟩ := HR4.out.read hp
      have HR5 := Lw.hid h'; clear h' hp HR4
      obtain ⟨n6, hn6⟩ : ∃ n6, n5.setCell ⟨hb, 3, none⟩ (.bool st) = n6 := ⟨_, rfl⟩
      have K56 : Kept (fun k => k = hb) n5 n6 := by rw [← hn6]; exact (Kept.refl (fun k => k = hb) n5).set _ _ (fun _ => rfl) _
      have HX6 : Hid (n6.heap[hb]? = some (.cells #[u32v x1, u32v x2, u32v x3, .bool st] 35 (0, 0))) := Lw.hid (by rw [← hn6]; exact heap_set HX5.out 3 _)
      have HR6 : Hid (PsAt w br A u5 s4 nx (.slice ad1 L.length cap1) L n6) := Lw.hid (by
        have h := HR5.out
        have q1 := h.hbr; have q2 := h.brA; have q3 := HS4.out
        exact ⟨h.k.trans K56 (fun i hi e => by have := h.k.size; have := (Array.getElem?_eq_some_iff.1 h.res).1; omega), K56.heap h.res (by omega), h.rd.kept K56 (by omega) (fun g hg e => by have := (h.hvr g hg).2; omega), h.hbr, h.hvr, h.brA, K56.heap h.box (by omega), own_kept K56 h.row (fun g hg e => by have := HRF3.out g hg; omega), h.fr⟩)
      have HN6 := Lw.hid hn6
      have f3 := heap_free HX5.out 3; have f3c := heap_cell HX5.out 3
      clear hn6 K56
      cases od
      all_goals
        go_upto_region 8 with fail
        rw [HN6.out]
        have y0 := heap_cell HX6.out 0; have y1 := heap_cell HX6.out 1; have y2 := heap_cell HX6.out 2; have y3 := heap_cell HX6.out 3
        have b0 := heap_cell HR6.out.box 0; have b1 := heap_cell HR6.out.box 1; have fb := heap_free HR6.out.box 1
        obtain ⟨n, hn⟩ : ∃ n, L.length = n := ⟨_, rfl⟩
        have HLN := Lw.hid hn
        have hnk : n ≤ 255 := by rw [← hn, HLL.out]; omega
        rw [hn] at b1
        have e1 : Hid ((n6.alloc (.cells ([u32v x1, u32v x2, u32v x3, .bool st] : List Value).toArray 35)).ownsRow 0 35 4 (.slice ad1 n cap1) n (L.flatMap Hv.cells)) := Lw.hid (by
          have := own_kept ((Kept.refl (fun _ => False) n6).alloc (.cells ([u32v x1, u32v x2, u32v x3, .bool st] : List Value).toArray 35)) HR6.out.row (fun _ _ h => h)
          rwa [hn] at this)
        clear hn f3 f3c
        go_wp2_with (at_builtin; refine wpList_app rfl _ _ _ rfl EHv _ n _ rfl e1.out _ 1 _ rfl (Rd.lit n6 [u32v x1, u32v x2, u32v x3, .bool st] 35 4 n6.heap.size 1 rfl rfl (by decide)) (Hv.one ⟨x1, x2, x3, st⟩) (by unfold maxLen; omega) (by omega) ?_; intro ad' cap' n7 ho hg hf; obtain ⟨hb7, hr7⟩ := HR6.out.grow (M := [⟨x1, x2, x3, st⟩]) ((Kept.refl _ n6).alloc _) ho (by rw [HLN.out]; rfl) (by rw [HLN.out]; exact hg) (by rw [HLN.out]; exact hf); have HR7 := Lw.hid hr7; have j0 := heap_cell hb7 0; have j1 := heap_cell hb7 1; have fj := heap_free hb7 1; clear ho hg hf hr7 hb7)
        go_roundg (c - (k + 1))
        case measure => omega
        case rel => exact ⟨k + 1, u5, _, rfl, hlt, by go_num, by rw [HIT.out]; rfl, by rw [HIT.out]; exact HR7.out⟩
    · obtain rfl : k = c := by omega
      obtain ⟨L, od, r, hit⟩ : ∃ L od r, itF r2 k = (L, od, r) := ⟨_, _, _, rfl⟩
      rw [hit] at HOK HPF hr hc1 hl ⊢
      dsimp only at HOK HPF hr hc1 hl ⊢
      obtain ⟨n, hn⟩ : ∃ n, L.length = n := ⟨_, rfl⟩
      have HLN := Lw.hid hn
      rw [hn] at hr hc1
      have hn9 : n ≤ 255 := by omega
      have HR := Lw.hid hr
      have HF := Lw.hid (fun er hp => hr.fail (p := p) er hp)
      have HD := Lw.hid (fun hp => hr.done (p := p) HOK.out hp)
      obtain ⟨z0, z1, z2⟩ := cell2 (a := .int .u32 0) (b := .slice none 0 0) hr.res
      obtain ⟨z3, z4, z5⟩ := cell2 (a := u32v nx) (b := .slice ad1 n cap1) hr.res
      have HZ0 := Lw.hid z0; have HZ1 := Lw.hid z1; have HZ2 := Lw.hid z2; have HZ3 := Lw.hid z3; have HZ4 := Lw.hid z4; have HZ5 := Lw.hid z5
      have b0 := heap_cell hr.box 0; have b1 := heap_cell hr.box 1
      have t0 := heap_cell hr.res 0; have t1 := heap_cell hr.res 1; have ft0 := heap_free hr.res 0; have ft1 := heap_free hr.res 1
      clear hr hit hn hl z0 z1 z2 z3 z4 z5
      go_wp2_with fail
      refine (err_any wr br vr r HR.out.rd).mono ?_
      rintro e w6 ⟨rfl, rfl⟩
      cases hsh : r.short with
      | true =>
        have HX : Hid (p = (0, [], 4)) := Lw.hid (by rw [HPF.out, if_pos hsh])
        rw [if_pos rfl]
        have HSH := Lw.hid hsh
        clear hsh
        go_wp2_with fail
        refine (err_any wr br vr r HR.out.rd).mono ?_
        rintro e w6 ⟨rfl, rfl⟩
        rw [if_pos HSH.out]
        go_wp2_with fail
        exact bodyPost_ret (v := .tuple #[.agg #[u32v 0, .slice none 0 0], .int .i64 4]) (by simp [results, Try.results29, go_sem, HZ0.out, HZ1.out, HZ2.out]) rfl (HF.out 4 HX.out)
      | false =>
        rw [if_neg (by simp)]
        have HPF2 : Hid (p = if 0 < r.l.length ∨ od = true ∨ mayF nx L = false then (0, [], 5) else (nx, L, 0)) := Lw.hid (by rw [HPF.out, if_neg (by rw [hsh]; simp)])
        clear hsh
        go_wp2_with fail
        refine (left_any wr br vr r HR.out.rd).mono ?_
        rintro e w6 ⟨rfl, rfl⟩
        obtain ⟨m, hm⟩ : ∃ m, r.l.length = m := ⟨_, rfl⟩
        rw [hm] at HPF2 ⊢
        have hm9 : m ≤ 70368744177664 := by rw [← hm]; exact HR.out.rd.2.2.2.1
        clear hm
        by_cases hm0 : 0 < m
        · have HX : Hid (p = (0, [], 5)) := Lw.hid (by rw [HPF2.out, if_pos (.inl hm0)])
          have hd : decide ((0 : Int) < (m : Int)) = true := by simp; omega
          go_wp2_with fail
          exact bodyPost_ret (v := .tuple #[.agg #[u32v 0, .slice none 0 0], .int .i64 5]) (by simp [results, Try.results29, go_sem, HZ0.out, HZ1.out, HZ2.out]) rfl (HF.out 5 HX.out)
        · have hd : decide ((0 : Int) < (m : Int)) = false := by simp; omega
          cases od with
          | true =>
            have HX : Hid (p = (0, [], 5)) := Lw.hid (by rw [HPF2.out, if_pos (.inr (.inl rfl))])
            go_wp2_with fail
            exact bodyPost_ret (v := .tuple #[.agg #[u32v 0, .slice none 0 0], .int .i64 5]) (by simp [results, Try.results29, go_sem, HZ0.out, HZ1.out, HZ2.out]) rfl (HF.out 5 HX.out)
          | false =>
            go_wp2_with fail
            refine (may_any wr _ L (rdh_own HR.out.row rfl HOK.out) nx hnx (by rw [HLN.out]; omega)).mono ?_
            rintro e w7 ⟨rfl, k7⟩
            have HR7 := Lw.hid (HR.out.kept k7)
            have b0 := heap_cell HR7.out.box 0; have b1 := heap_cell HR7.out.box 1
            have t0 := heap_cell HR7.out.res 0; have t1 := heap_cell HR7.out.res 1; have ft0 := heap_free HR7.out.res 0; have ft1 := heap_free HR7.out.res 1
            have HF := Lw.hid (fun er hp => HR7.out.fail (p := p) er hp)
            have HD := Lw.hid (fun hp => HR7.out.done (p := p) HOK.out hp)
            obtain ⟨z0, z1, z2⟩ := cell2 (a := .int .u32 0) (b := .slice none 0 0) HR7.out.res
            obtain ⟨z3, z4, z5⟩ := cell2 (a := u32v nx) (b := .slice ad1 n cap1) HR7.out.res
            have HZ0 := Lw.hid z0; have HZ1 := Lw.hid z1; have HZ2 := Lw.hid z2; have HZ3 := Lw.hid z3; have HZ4 := Lw.hid z4; have HZ5 := Lw.hid z5
            clear z0 z1 z2 z3 z4 z5 k7
            cases hmay : mayF nx L with
            | false =>
              have HX : Hid (p = (0, [], 5)) := Lw.hid (by rw [HPF2.out, if_pos (.inr (.inr hmay))])
              clear hmay
              go_wp2_with fail
              exact bodyPost_ret (v := .tuple #[.agg #[u32v 0, .slice none 0 0], .int .i64 5]) (by simp [results, Try.results29, go_sem, HZ0.out, HZ1.out, HZ2.out]) rfl (HF.out 5 HX.out)
            | true =>
              have HX : Hid (p = (nx, L, 0)) := Lw.hid (by rw [HPF2.out, if_neg (fun h => by rcases h with h | h | h; exact hm0 h; cases h; rw [hmay] at h; cases h)])
              clear hmay
              go_wp2_with fail
              exact bodyPost_ret (v := .tuple #[.agg #[u32v nx, .slice ad1 n cap1], .int .i64 0]) (by simp [results, Try.results29, go_sem, HZ3.out, HZ4.out, HZ5.out]) rfl (HD.out HX.out)
end Go.Proofs.Ytbmfnepbdfnlaaa
