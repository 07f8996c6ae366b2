/- LogAgain: walked. -/
import Derived.Test.YtfmebmaklakckaaDoorLogT
import Derived.Test.YtfmebmaklakckaaDoorLogK
import Derived.Test.YtfmebmaklakckaaDoorSame
import Derived.Lib.MinMax
import Derived.Deep.DeepCutAuto
import Derived.Deep.CutBlock
namespace Go.Proofs.YtfmebmaklakckaaDoor
open Go Go.RowKit Go.Lw
set_option maxRecDepth 100000
set_option linter.unusedVariables false
set_option linter.unusedSimpArgs false
attribute [local go_sem] Oper.semAt_some
theorem enc_len (L : List (List UInt8)) (p : List UInt8) : (encF fz (L ++ [p])).length = (encF fz L).length + 10 + p.length := by rw [enc_snoc, List.length_append, frm_len]; omega
/-- A disk of 4000 bytes that holds these payloads alone. -/
abbrev dL (L : List (List UInt8)) : Dsk := ⟨4000, encF fz L ++ [], L.length, false, false, -(L.length : Int), 0⟩
theorem dL_hold {L : List (List UInt8)} (hL : ∀ p ∈ L, p.length ≤ 60) (h : (encF fz L).length ≤ 4000) : Hold (dL L) L [] :=
  ⟨rfl, fun p hp => by have := hL p hp; omega, (by decide : 4000 ≤ 1048576), by show (encF fz L ++ []).length ≤ 4000; rw [List.append_nil]; exact h⟩
theorem enc_few {L : List (List UInt8)} (hL : ∀ p ∈ L, p.length ≤ 60) : (encF fz L).length ≤ 70 * L.length := by
  have h : ∀ (s : Fd) (L : List (List UInt8)), (∀ p ∈ L, p.length ≤ 60) → (encF s L).length ≤ 70 * L.length := by
    intro s L
    induction L generalizing s with
    | nil => intro _; exact Nat.le_refl _
    | cons p ps ih =>
      intro hL
      have h1 := ih (fdOf s p) (fun q hq => hL q (List.mem_cons_of_mem _ hq))
      have h2 := hL p List.mem_cons_self
      rw [encF, List.length_append, frameB_len]; simp only [List.length_cons]; omega
  exact h fz L hL
theorem dL_app {L : List (List UInt8)} {p : List UInt8} (hL : ∀ q ∈ L, q.length ≤ 60) (hn : L.length ≤ 40) (hp : p.length ≤ 60) : appF (dL L) (endF fz L) p = (dL (L ++ [p]), endF fz (L ++ [p]), L.length + 1, 0) := by
  have h1 := enc_few hL
  have h2 := app_fits (p := p) (dL_hold hL (by omega)) (by omega) rfl (by show _ ≤ 4000; omega) (by simp)
  rw [h2, List.drop_nil]
  have e1 : ((L ++ [p]).length : Int) = (L.length : Int) + 1 := by simp
  have e2 : (L ++ [p]).length = L.length + 1 := by simp
  unfold dL
  rw [e1, e2]
  have e3 : -((L.length : Int) + 1) = -(L.length : Int) - 1 := by omega
  rw [e3]
/-- What is gathered, while payloads are laid. -/
structure AgI (w wr : World) (g BL : Nat) (v va : Value) (vs : List Value) (L : List (List UInt8)) : Prop where
  s : DsW w wr g v (dL L) (L.length + 1)
  b : Bx w wr g v BL (endF fz L)
  own : wr.ownsRow 0 38 1 va L.length vs
  fr : ∀ k, blk va k → w.heap.size ≤ k ∧ k ≠ g ∧ k ≠ BL ∧ ¬ blk v k
  p : Pays wr (fun k => k < w.heap.size) vs L
/-- What is gathered, beside a disk. -/
structure Ala (b0 n : Nat) (w : World) (g BL : Nat) (v va : Value) (vs : List Value) (L : List (List UInt8)) : Prop where
  own : w.ownsRow 0 38 1 va L.length vs
  fr : ∀ k, blk va k → b0 ≤ k ∧ k ≠ g ∧ k ≠ BL ∧ ¬ blk v k ∧ k < n
  p : Pays w (fun k => k < b0) vs L
  sz : n ≤ w.heap.size
  lo : ∀ k, (k = BL ∨ k = g ∨ blk v k) → b0 ≤ k
  bn : b0 ≤ n
theorem Ala.keptF {b0 n : Nat} {w w' : World} {g BL : Nat} {v va : Value} {vs : List Value} {L : List (List UInt8)} (h : Ala b0 n w g BL v va vs L) (k : Kept (fun _ => False) w w') : Ala b0 n w' g BL v va vs L :=
  ⟨own_kept k h.own (fun _ _ h => h), h.fr, h.p.kept k (fun _ _ _ h => h) (fun _ _ h => h), Nat.le_trans h.sz k.size, h.lo, h.bn⟩
theorem Ala.app {b0 n : Nat} {w w' : World} {g BL : Nat} {v v' va : Value} {vs : List Value} {L : List (List UInt8)} (h : Ala b0 n w g BL v va vs L) (k : Kept (fun k => k = BL ∨ k = g ∨ blk v k) w w') (f : ∀ k, blk v' k → blk v k ∨ w.heap.size ≤ k) : Ala b0 n w' g BL v' va vs L := by
  have hn := h.sz
  refine ⟨own_kept k h.own (fun i hi e => ?_), fun i hi => ?_, h.p.kept k (fun i _ hq e => by have := h.lo i e; omega) (fun _ _ h => h), Nat.le_trans h.sz k.size, fun i hi => ?_, h.bn⟩
  · obtain ⟨_, h1, h2, h3, _⟩ := h.fr i hi
    rcases e with e | e | e
    · exact h2 e
    · exact h1 e
    · exact h3 e
  · obtain ⟨h0, h1, h2, h3, h4⟩ := h.fr i hi
    refine ⟨h0, h1, h2, fun e => ?_, h4⟩
    rcases f i e with e | e
    · exact h3 e
    · omega
  · rcases hi with e | e | e
    · exact h.lo i (.inl e)
    · exact h.lo i (.inr (.inl e))
    · rcases f i e with e | e
      · exact h.lo i (.inr (.inr e))
      · have := h.bn; omega
theorem Ala.go {b0 n : Nat} {w w' : World} {g BL : Nat} {v v' va : Value} {vs : List Value} {L : List (List UInt8)} (h : Ala b0 n w g BL v va vs L) (k : Kept (fun k => k = g ∨ blk v k) w w') (f : ∀ k, blk v' k → blk v k ∨ w.heap.size ≤ k) : Ala b0 n w' g BL v' va vs L := h.app (k.mono (fun _ _ h => .inr h)) f
theorem Ala.rd {b0 n : Nat} {w : World} {g BL : Nat} {v va : Value} {vs : List Value} {L : List (List UInt8)} (h : Ala b0 n w g BL v va vs L) : RdBB w va L := RdBB.of_rows h.own h.p
theorem rdb_zero {w : World} {ad : Option Addr} {n cap : Nat} (h : RdB w (.slice ad n cap) (zeros n)) {k : Nat} (hk : k < n) : ∃ g off, ad = some ⟨g, off, none⟩ ∧ w.cell? ⟨g, off + k, none⟩ = some (.int .u8 0) := by
  have h' : Rd w 1 (.slice ad n cap) n ((zeros n).map bv) := by unfold RdB at h; rwa [zeros_len] at h
  obtain ⟨_, a', c', e, _, _, hc⟩ := h'
  cases e
  exact hc k (.int .u8 0) (by rw [List.getElem?_map]; unfold zeros; rw [List.getElem?_replicate, if_pos hk]; rfl)
/-- Recover, where what stands behind is no frame and no plan is laid. -/
theorem rec_any2 {D : Dsk} {L : List (List UInt8)} {t : List UInt8} (h : Hold D L t) (hd : Dead t) (hs : D.stopped = false) (hi : D.is = false) : ∃ D', recF D = (D', 0) ∧ Hold D' L (zeros t.length) ∧ D'.stopped = false ∧ D'.is = false ∧ D'.cap = D.cap := by
  cases t with
  | nil => exact ⟨D, rec_bare h hs, h, hs, hi, rfl⟩
  | cons a t =>
    refine ⟨_, rec_clean h hd (by simp) hs (by rw [hi]; simp), ⟨rfl, h.l, h.c, ?_⟩, hs, hi, rfl⟩
    show (encF fz L ++ zeros (a :: t).length).length ≤ D.cap
    rw [List.length_append, zeros_len]
    exact h.len
theorem rd_tail {D : Dsk} {L : List (List UInt8)} {t : List UInt8} (h : Hold D L t) (m : Nat) (hm : t.length ≤ m) : D.rd ((endF fz L).fin : Int) (m : Int) = t := by
  have hl := h.len
  have hb : D.b.length = (encF fz L).length + t.length := by rw [h.b, List.length_append]
  unfold Dsk.rd
  rw [fz_fin, if_neg (by omega), Int.toNat_natCast, Int.toNat_natCast, h.b, List.drop_append, List.drop_of_length_le (Nat.le_refl _), Nat.sub_self, List.drop_zero, List.nil_append, List.take_of_length_le hm]
abbrev torn32 : List UInt8 := [116, 104, 105, 115, 32, 111, 110, 101, 32, 105, 115, 32, 116, 111, 114, 110, 44, 32, 119, 104, 97, 116, 101, 118, 101, 114, 32, 99, 111, 109, 101, 115]
theorem cut20 {l0 : List (List UInt8)} {k : Nat} {p : List UInt8} (h : l0[k]? = some p) (hk : k < 20) : (((l0.take 20).map fun q => q.take 60)).take (k + 1) = ((l0.take 20).map fun q => q.take 60).take k ++ [p.take 60] := by
  refine takeAt ?_
  rw [List.getElem?_map, List.getElem?_take, if_pos hk, h]; rfl
theorem cut60 {l0 : List (List UInt8)} {q : List UInt8} (h : q ∈ (l0.take 20).map fun q => q.take 60) : q.length ≤ 60 := by
  obtain ⟨p, _, rfl⟩ := List.mem_map.1 h
  exact List.length_take_le _ _
set_option maxHeartbeats 16000000 in
theorem lagain_any (w : World) (v0 : Value) (l0 : List (List UInt8)) (c st : Nat) (hr : RdBB w v0 l0) (hc : c < 256) (hst : st < 256) (ht : Tab w) :
    Calls Tryd.prog 5 #[v0, .int .u8 (c : Int), .int .u8 (st : Int)] w fun e w' => e = .returned (.bool true) ∧ Kept (fun _ => False) w w' := by
  obtain ⟨ad0, cap0, rfl, h01, h02⟩ := hr.shape
  have HT := Lw.hid ht; have HR := Lw.hid hr
  unfold maxLen at h02
  obtain ⟨n0, hn0⟩ : ∃ n, l0.length = n := ⟨_, rfl⟩
  have HN0 := Lw.hid hn0
  rw [hn0] at h01 HR ⊢
  clear ht hr hn0
  obtain ⟨L, hL⟩ : ∃ L, ((l0.take 20).map fun q => q.take 60) = L := ⟨_, rfl⟩
  have HL := Lw.hid hL
  have HL60 : Hid (∀ q ∈ L, q.length ≤ 60) := Lw.hid (by rw [← hL]; exact fun q hq => cut60 hq)
  have hLn : L.length = min 20 n0 := by rw [← hL, ← HN0.out]; simp
  obtain ⟨N, hN⟩ : ∃ N, L.length = N := ⟨_, rfl⟩
  have HN := Lw.hid hN
  have hNc : N = 20 ∧ 20 ≤ n0 ∨ N = n0 ∧ n0 ≤ 20 := by omega
  clear hL hLn hN
  refine calls_of_wp_marks Tryd.func5 rfl ?_
  simp only [Tryd.ntmps5, List.size_toArray, List.length_cons, List.length_nil, Nat.reduceAdd, Nat.reduceSub, Array.replicate_succ, Array.replicate_zero, List.push_toArray, List.append_toArray, List.nil_append, List.cons_append]
  go_wp2_with fail
  obtain ⟨w1, hw1⟩ : ∃ w1, w.alloc (.cells #[.int .u8 (st : Int)] 5) = w1 := ⟨_, rfl⟩
  have hs1 := heap_alloc w (.cells #[.int .u8 (st : Int)] 5)
  have K1 : Hid (Kept (fun _ => False) w w1) := Lw.hid (by rw [← hw1]; exact (Kept.refl _ w).alloc _)
  obtain ⟨CS, hCS⟩ : ∃ CS, w.heap.size = CS := ⟨_, rfl⟩
  rw [hw1, hCS] at hs1
  rw [hw1, hCS]
  have HS1 := Lw.hid hs1; have HCS := Lw.hid hCS
  have hc1 := heap_lt hs1
  clear hw1 hCS hs1
  refine (dnew_any w1 4000 (by decide)).mono ?_
  rintro e w2 ⟨g, rfl, d', k', hg⟩
  have S2 : Hid (DsW w1 w2 g (.slice none 0 0) ⟨4000, [], 0, false, false, 0, 0⟩ 0) := Lw.hid (DsW.start d' k' hg (by decide) (HT.out.below (K1.out.below (Nat.le_refl _) (fun _ _ h => h))))
  have HS2 := Lw.hid (k'.heap HS1.out (fun h => h))
  have hgc : CS < g := by omega
  have HR1 := Lw.hid (HR.out.kept K1.out)
  clear d' k' hg HS1
  go_wp2_with fail
  refine (rec_ok S2.out (by decide) (recF_new 4000) last_nil).mono ?_
  rintro e w3 ⟨v3, BL, rfl, s', _, b', hBL, kx, fx⟩
  have hw2 := heap_lt HS2.out
  have HS3 := Lw.hid (kx.heap HS2.out (fun e => by rcases e with e | e; omega; exact blk_none e))
  have hbc : CS < BL := by omega
  have I3 : Hid (AgI w1 w3 g BL v3 (.slice none 0 0) [] []) := Lw.hid ⟨s', b', World.ownsRow_nil _ 0 _ 1, fun k hk => (blk_none hk).elim, Pays.nil _ _⟩
  clear s' b' hBL kx fx S2 HS2 hw2
  go_upto_block 0 with fail
  go_cut [11] from 33 to 66 (fun sa wx => ∃ (v : Value) (vs : List Value), AgI w1 wx g BL v sa vs L ∧ wx.heap[CS]? = some (.cells #[.int .u8 (st : Int)] 5 (0, 0)))
  case first =>
    go_wp2_with fail
    go_loopg [11, 35] (N + 1) (fun gk sa si wr => ∃ (k : Nat) (v : Value) (vs : List Value), gk = N + 1 - k ∧ k ≤ N ∧ si = .int .i64 (k : Int) ∧ AgI w1 wr g BL v sa vs (L.take k) ∧ wr.heap[CS]? = some (.cells #[.int .u8 (st : Int)] 5 (0, 0)))
    case atStart => exact ⟨0, v3, [], rfl, Nat.zero_le _, rfl, by rw [List.take_zero]; exact I3.out, HS3.out⟩
    case round =>
      obtain ⟨k, v, vs, rfl, hk, rfl, hi, hcs⟩ := hrel
      have HI := Lw.hid hi; have HCSr := Lw.hid hcs
      obtain ⟨ada, capa, rfl, hca1, hca2, _⟩ := own_slice hi.own
      have htk : (L.take k).length = k := by rw [List.length_take, HN.out]; omega
      have HTK := Lw.hid htk
      rw [htk] at hca1 HI ⊢
      unfold maxLen at hca2
      clear hi hcs htk
      by_cases hlt : k < N
      · obtain ⟨p, hp⟩ : ∃ p, l0[k]? = some p := ⟨_, List.getElem?_eq_getElem (by rw [HN0.out]; omega)⟩
        have hk20 : k < 20 := by omega
        obtain ⟨gp, offp, u, rfl, cp1, hu⟩ := HR1.out.at hp
        have cp := HI.out.s.k.cell cp1 (fun h => h)
        obtain ⟨adp, capp, rfl, hpc1, hpc2, _⟩ := hu.open
        obtain ⟨pn, hpn⟩ : ∃ n, p.length = n := ⟨_, rfl⟩
        have HPN := Lw.hid hpn; have HP := Lw.hid hp
        rw [hpn] at hpc1 cp
        clear cp1
        unfold maxLen at hpc2
        obtain ⟨m, hm⟩ : ∃ m, (min (pn : Int) 60).toNat = m := ⟨_, rfl⟩
        have hm' : min pn 60 = m := by omega
        have HU1 : Hid (RdB w1 (.slice adp m capp) (p.take 60)) := Lw.hid (by
          rw [hpn] at hu
          have h1 := RdB.take hu m (by omega)
          have e : p.take m = p.take 60 := by
            rw [← hm', ← hpn]
            by_cases h : p.length ≤ 60
            · rw [Nat.min_eq_left h, List.take_of_length_le (Nat.le_refl _), List.take_of_length_le h]
            · rw [Nat.min_eq_right (by omega)]
          rw [← e]; exact h1)
        have hkd : decide ((k : Int) < (n0 : Int)) = true := by simp; omega
        have hk20' : ((k : Int) == 20) = false := by rw [beq_eq_false_iff_ne]; omega
        have i0 : (0 : Int) ≤ (k : Int) := by omega
        have i1 : (k : Int) < (n0 : Int) := by omega
        have hkn : k + 1 ≤ N := hlt
        have HUB : Hid ((p.take 60).length ≠ 0 → ∀ q, blk (.slice adp m capp) q → q < w1.heap.size) := Lw.hid HU1.out.lt
        have HU := Lw.hid (HU1.out.kept HI.out.s.k (fun _ _ h => h))
        have HM := Lw.hid hm
        have HP60 : Hid ((p.take 60).length = m) := Lw.hid (by rw [List.length_take, hpn]; omega)
        have hm60 : m ≤ 60 := by omega
        clear hu hp hpn hm hm'
        go_wp2_with fail
        rw [HM.out]
        have HLK : Hid (∀ q ∈ L.take k, q.length ≤ 60) := Lw.hid (fun q hq => HL60.out q (List.mem_of_mem_take hq))
        have HAP : Hid (appF (dL (L.take k)) (endF fz (L.take k)) (p.take 60) = (dL (L.take (k + 1)), endF fz (L.take (k + 1)), k + 1, 0)) := Lw.hid (by
          rw [dL_app HLK.out (by rw [HTK.out]; omega) (List.length_take_le _ _), HTK.out]
          have := cut20 HP.out hk20
          rw [HL.out] at this
          rw [this])
        have hfin : (endF fz (L.take k)).fin ≤ 1048576 := by rw [fz_fin]; have := enc_few HLK.out; rw [HTK.out] at this; omega
        have hst0 := HI.out.s
        rw [HTK.out] at hst0
        refine (app_w hst0 (by omega) HI.out.b hfin (sum_ok _) _ (p.take 60) (by rw [show Value.slice adp m capp = .slice adp m capp from rfl]; exact HU.out)).mono ?_
        rw [HAP.out]
        rintro e w4 ⟨rfl, v4, s', b', _, kx, fx⟩
        have S4 := Lw.hid s'; have B4 := Lw.hid b'; have KX := Lw.hid kx; have FX := Lw.hid fx
        have HCS4 := Lw.hid (kx.heap HCSr.out (fun e => by
          rcases e with e | e | e
          · omega
          · omega
          · have h1 := HI.out.s.lv _ e
            omega))
        have HOWN := HI.out.own
        rw [HTK.out] at HOWN
        have e1 : Hid ((w4.alloc (.cells #[.slice adp m capp] 38)).ownsRow 0 38 1 (.slice ada k capa) k vs) := Lw.hid (own_kept ((Kept.refl (fun _ => False) w4).alloc _) (own_kept kx HOWN (fun q hq e => by
          obtain ⟨_, h1, h2, h3⟩ := HI.out.fr q hq
          rcases e with e | e | e
          · exact h2 e
          · exact h1 e
          · exact h3 e)) (fun _ _ h => h))
        have HU4 : Hid (RdB w4 (.slice adp m capp) (p.take 60)) := Lw.hid (HU.out.keptE kx (fun hn q hq e => by
          have h1 := HUB.out hn q hq
          rcases e with e | e | e
          · have := HI.out.b.lo; omega
          · have := HI.out.s.lo; omega
          · have := HI.out.s.lv q e; omega))
        clear s' b' kx fx hst0
        go_wp2_with (at_builtin; refine wpList_app rfl _ _ _ rfl EL _ k _ rfl e1.out _ 1 _ rfl (Rd.lit w4 [.slice adp m capp] 38 1 w4.heap.size 1 rfl rfl (by decide)) (oneS HU4.out) (by unfold maxLen; omega) (by omega) ?_; intro ad' cap' w5 ho hg hf; have HO := Lw.hid ho; have HG := Lw.hid hg; have HF := Lw.hid hf; clear ho hg hf)
        have KG : Hid (Kept (blk (.slice ada k capa)) w4 w5) := Lw.hid ((Kept.refl _ w4).alloc _ |>.grown HG.out (fun q e _ => e))
        have hfa : ∀ q, blk (.slice ad' (k + 1) cap') q → w1.heap.size ≤ q ∧ (blk (.slice ada k capa) q ∨ w4.heap.size ≤ q) := fun q hq => by
          have hs4 := S4.out.k.size
          rcases HF.out q hq with h | h
          · exact ⟨(HI.out.fr q h).1, .inl h⟩
          · have h2 : w4.heap.size ≤ q := by simp at h; omega
            exact ⟨by omega, .inr h2⟩
        have hvr : ∀ q, blk v q → q < wr.heap.size := own_lt HI.out.s.d.own
        have hz4 : wr.heap.size ≤ w4.heap.size := KX.out.size
        have hga : ∀ q, blk (.slice ada k capa) q → q ≠ g ∧ q ≠ BL ∧ ¬ blk v4 q := fun q hq => by
          obtain ⟨_, h1, h2, h3⟩ := HI.out.fr q hq
          refine ⟨h1, h2, fun h => ?_⟩
          rcases FX.out q h with h | h
          · exact h3 h
          · have := own_lt HI.out.own q hq; omega
        have hg4 := heap_lt S4.out.d.box; have hb4 := heap_lt B4.out.box; have hv4 := own_lt S4.out.d.own
        have I5 : Hid (AgI w1 w5 g BL v4 (.slice ad' (k + 1) cap') (vs ++ [.slice adp m capp]) (L.take (k + 1))) := Lw.hid (by
          refine ⟨?_, ⟨KG.out.heap B4.out.box (fun h => (hga _ h).2.1 rfl), B4.out.ne, B4.out.ap, B4.out.lo⟩, ?_, fun q hq => ?_, ?_⟩
          · have h1 := S4.out.kept KG.out (fun h => (hga _ h).1 rfl) (fun b hb h => (hga _ h).2.2 hb) (fun b hb => (HI.out.fr b hb).1)
            rw [List.length_take, HN.out, Nat.min_eq_left hkn]; exact h1
          · rw [List.length_take, HN.out, Nat.min_eq_left hkn]; exact HO.out
          · obtain ⟨h1, h2⟩ := hfa q hq
            rcases h2 with h2 | h2
            · exact ⟨h1, hga q h2⟩
            · exact ⟨h1, by omega, by omega, fun h => by have := hv4 q h; omega⟩
          · have hp4 := HI.out.p.kept (Q' := fun q => q < w1.heap.size) KX.out (fun i _ hq e => by
              rcases e with e | e | e
              · have := HI.out.b.lo; omega
              · have := HI.out.s.lo; omega
              · have := HI.out.s.lv i e; omega) (fun i _ h => h)
            have hp5 := (hp4.snoc HU4.out HUB.out).kept (Q' := fun q => q < w1.heap.size) KG.out (fun i _ hq e => by have := (HI.out.fr i e).1; omega) (fun i _ h => h)
            have he : L.take (k + 1) = L.take k ++ [p.take 60] := by
              have := cut20 HP.out hk20
              rw [HL.out] at this; exact this
            rw [he]; exact hp5)
        have HCS5 : Hid (w5.heap[CS]? = some (.cells #[.int .u8 (st : Int)] 5 (0, 0))) := Lw.hid (KG.out.heap HCS4.out (fun h => by have := (HI.out.fr _ h).1; omega))
        clear hfa hvr hz4 hga hg4 hb4 hv4
        go_roundg (N + 1 - (k + 1))
        case measure => omega
        case rel => exact ⟨k + 1, v4, _, rfl, hkn, by go_num, I5.out, HCS5.out⟩
      · obtain rfl : k = N := by omega
        have HA : Hid (AgI w1 wr g BL v (.slice ada k capa) vs L) := Lw.hid (by
          have := HI.out
          rwa [List.take_of_length_le (by rw [HN.out]; exact Nat.le_refl _)] at this)
        by_cases hk2 : k < n0
        · obtain ⟨p, hp⟩ : ∃ p, l0[k]? = some p := ⟨_, List.getElem?_eq_getElem (by rw [HN0.out]; exact hk2)⟩
          obtain ⟨gp, offp, u, rfl, cp1, hu⟩ := HR1.out.at hp
          have cp := HI.out.s.k.cell cp1 (fun h => h)
          obtain ⟨adp, capp, rfl, _, _, _⟩ := hu.open
          obtain ⟨pn, hpn⟩ : ∃ n, p.length = n := ⟨_, rfl⟩
          rw [hpn] at cp
          have hkd : decide ((k : Int) < (n0 : Int)) = true := by simp; omega
          have hk20' : ((k : Int) == 20) = true := by rw [beq_iff_eq]; omega
          have i0 : (0 : Int) ≤ (k : Int) := by omega
          have i1 : (k : Int) < (n0 : Int) := by omega
          clear hu cp1 hp hpn
          go_wp2_with fail
          go_meet
          case rel => exact ⟨v, vs, HA.out, HCSr.out⟩
        · have hkd : decide ((k : Int) < (n0 : Int)) = false := by simp; omega
          go_wp2_with fail
          go_meet
          case rel => exact ⟨v, vs, HA.out, HCSr.out⟩
  case rest =>
    obtain ⟨v, vs, hi, hcs⟩ := hcut
    have HI := Lw.hid hi; have HCX := Lw.hid hcs
    obtain ⟨ada, capa, rfl, hca1, hca2, _⟩ := own_slice hi.own
    rw [HN.out] at hca1 HI ⊢
    unfold maxLen at hca2
    clear hi hcs I3
    have hcm : (c : Int).tmod 30 = ((c % 30 : Nat) : Int) := by rw [Int.tmod_eq_emod_of_nonneg (by omega)]; omega
    have hcm9 : c % 30 < 30 := Nat.mod_lt _ (by decide)
    obtain ⟨cm, hcme⟩ : ∃ cm, c % 30 = cm := ⟨_, rfl⟩
    rw [hcme] at hcm hcm9
    have henc := enc_few HL60.out
    rw [HN.out] at henc
    have hN20 : N ≤ 20 := by omega
    have HH1 : Hid (Hold ⟨4000, encF fz L ++ [], N, false, true, 0, (cm : Int)⟩ L []) := Lw.hid ⟨rfl, fun p hp => by have := HL60.out p hp; omega, (by decide : 4000 ≤ 1048576), by show (encF fz L ++ []).length ≤ 4000; rw [List.append_nil]; omega⟩
    have htl : ((frm L torn32).take cm).length = cm := by rw [List.length_take, frm_len]; show min cm 42 = cm; omega
    have HAT : Hid (appF ⟨4000, encF fz L ++ [], N, false, true, 0, (cm : Int)⟩ (endF fz L) torn32 = (⟨4000, encF fz L ++ (frm L torn32).take cm, N, true, false, 0, 0⟩, endF fz L, 0, 10)) := Lw.hid (by
      rw [app_torn HH1.out (by decide) rfl (by show (encF fz L).length + 10 + 32 ≤ 4000; omega) rfl rfl, List.drop_nil]
      have : min (cm : Int).toNat (10 + torn32.length) = cm := by show min (cm : Int).toNat 42 = cm; omega
      rw [show (⟨4000, encF fz L ++ [], N, false, true, 0, (cm : Int)⟩ : Dsk).nb = (cm : Int) from rfl, this, List.append_nil ((frm L torn32).take cm)])
    have HH2 : Hid (Hold ⟨4000, encF fz L ++ (frm L torn32).take cm, N, false, false, 0, 0⟩ L ((frm L torn32).take cm)) := Lw.hid ⟨rfl, HH1.out.l, (by decide : 4000 ≤ 1048576), by show (encF fz L ++ _).length ≤ 4000; rw [List.length_append, htl]; omega⟩
    have HD2 : Hid (Dead ((frm L torn32).take cm)) := Lw.hid (dead_cut (by decide) (by show cm < 42; omega))
    obtain ⟨D3, hr3, hh3, hs3, hi3, _⟩ := rec_any2 HH2.out HD2.out rfl rfl
    rw [htl] at hh3
    obtain ⟨D4, hr4, hh4, _, _, _⟩ := rec_any2 hh3 (.inr ⟨cm, rfl⟩) hs3 hi3
    rw [zeros_len] at hh4
    have HR3 := Lw.hid hr3; have HR4 := Lw.hid hr4; have HH4 := Lw.hid hh4
    have HF2 := Lw.hid (HH2.out.lastF HD2.out); have HF3 := Lw.hid (hh3.lastF (.inr ⟨cm, rfl⟩))
    have hDP : (dL L).plan 0 (cm : Int) = (⟨4000, encF fz L ++ [], N, false, true, 0, (cm : Int)⟩, 0) := by
      unfold Dsk.plan
      rw [if_neg (by simp), if_neg (by omega), ← HN.out]
    have HDP := Lw.hid hDP
    have S0 : Hid (DsW w1 wc g v (dL L) (N + 1)) := Lw.hid (by have := HI.out.s; rwa [HN.out] at this)
    have A0 : Hid (Ala w1.heap.size wc.heap.size wc g BL v (.slice ada N capa) vs L) := Lw.hid ⟨HI.out.own, fun k hk => by
      obtain ⟨h1, h2, h3, h4⟩ := HI.out.fr k hk
      exact ⟨h1, h2, h3, h4, own_lt HI.out.own k hk⟩, HI.out.p, Nat.le_refl _, fun k hk => by
      rcases hk with rfl | rfl | h
      · exact HI.out.b.lo
      · exact HI.out.s.lo
      · exact HI.out.s.lv k h, HI.out.s.k.size⟩
    have B0 := Lw.hid HI.out.b
    have hfin9 : (endF fz L).fin ≤ 1048576 := by rw [fz_fin]; omega
    clear hr3 hh3 hr4 hh4 hDP HI hs3 hi3
    go_wp2_with fail
    refine (plan_w S0.out 0 (cm : Int) (by decide) (by omega)).mono ?_
    rw [HDP.out]
    rintro e w3 ⟨rfl, v3, s', b', kx, fx⟩
    have S3 := Lw.hid s'; have B3 := Lw.hid (b' _ _ B0.out); have A3 := Lw.hid (A0.out.go kx fx); have C3 := Lw.hid (kx.heap HCX.out (fun e => by have := A0.out.lo _ (.inr e); omega))
    clear s' b' kx fx S0 B0 A0 HCX
    go_wp2_with (refine wpList_const rfl _ _ rfl _ _ _ _ rfl (by simp) Tryd.underlying38 Tryd.underlying5 ?_)
    refine (app_w (S3.out.keptF ((Kept.refl _ _).alloc _)) (by omega) (B3.out.keptF ((Kept.refl _ _).alloc _)) hfin9 (sum_ok _) _ torn32 (RdB.mark w3 torn32 _ _ _ 32 rfl rfl (by decide))).mono ?_
    rw [HAT.out]
    rintro e w4 ⟨rfl, v4, s', _, _, kx, fx⟩
    have S4 := Lw.hid s'; have A4 := Lw.hid ((A3.out.keptF ((Kept.refl _ _).alloc _)).app kx fx); have C4 := Lw.hid (kx.heap (heap_alloc_lt C3.out) (fun e => by have := A3.out.lo _ e; omega))
    clear s' kx fx S3 B3 A3 C3
    go_wp2_with fail
    refine (dstopped_any w4 g v4 _ S4.out.d).mono ?_
    rintro e _ ⟨rfl, rfl⟩
    go_wp2_with fail
    refine (rev_w S4.out).mono ?_
    rw [show (⟨4000, encF fz L ++ (frm L torn32).take cm, N, true, false, 0, 0⟩ : Dsk).revive = (⟨4000, encF fz L ++ (frm L torn32).take cm, N, false, false, 0, 0⟩, 0) from rfl]
    rintro e w5 ⟨rfl, v5, s', _, kx, fx⟩
    have S5 := Lw.hid s'; have A5 := Lw.hid (A4.out.go kx fx); have C5 := Lw.hid (kx.heap C4.out (fun e => by have := A4.out.lo _ (.inr e); omega))
    clear s' kx fx S4 A4 C4
    go_wp2_with fail
    refine (rec_ok S5.out (by omega) HR3.out HF2.out).mono ?_
    rintro e w6 ⟨v6, BY, rfl, s', _, b', _, kx, fx⟩
    have S6 := Lw.hid s'; have Y6 := Lw.hid b'; have A6 := Lw.hid (A5.out.go kx fx); have C6 := Lw.hid (kx.heap C5.out (fun e => by have := A5.out.lo _ (.inr e); omega))
    clear s' b' kx fx S5 A5 C5
    go_wp2_with fail
    refine (rec_ok S6.out (by omega) HR4.out HF3.out).mono ?_
    rintro e w7 ⟨v7, BZ, rfl, s', bt, b', _, kx, fx⟩
    have S7 := Lw.hid s'; have Y7 := Lw.hid (bt _ _ Y6.out); have Z7 := Lw.hid b'; have A7 := Lw.hid (A6.out.go kx fx); have C7 := Lw.hid (kx.heap C6.out (fun e => by have := A6.out.lo _ (.inr e); omega))
    clear s' b' bt kx fx S6 Y6 A6 C6
    go_wp2_with fail
    refine (rows_w S7.out Y7.out hfin9 HH4.out.logP).mono ?_
    rintro e w8 ⟨ry, vy, rfl, ho, _, hp, k8⟩
    have RY := Lw.hid (RdBB.of_rows ho hp); have S8 := Lw.hid (S7.out.keptF k8); have Y8 := Lw.hid (Y7.out.keptF k8); have Z8 := Lw.hid (Z7.out.keptF k8); have A8 := Lw.hid (A7.out.keptF k8); have C8 := Lw.hid (k8.heap C7.out (fun h => h))
    obtain ⟨ady, capy, rfl, _, _, _⟩ := own_slice ho
    rw [HN.out] at RY ⊢
    clear ho hp k8 S7 Y7 Z7 A7 C7
    go_wp2_with fail
    refine (same_any w8 _ _ L L RY.out A8.out.rd true (by simp)).mono ?_
    rintro e _ ⟨rfl, rfl⟩
    go_wp2_with fail
    refine (rows_w S8.out Z8.out hfin9 HH4.out.logP).mono ?_
    rintro e w9 ⟨rz, vz, rfl, ho, _, hp, k8⟩
    have RZ := Lw.hid (RdBB.of_rows ho hp); have S9 := Lw.hid (S8.out.keptF k8); have Y9 := Lw.hid (Y8.out.keptF k8); have Z9 := Lw.hid (Z8.out.keptF k8); have A9 := Lw.hid (A8.out.keptF k8); have C9 := Lw.hid (k8.heap C8.out (fun h => h))
    obtain ⟨adz, capz, rfl, _, _, _⟩ := own_slice ho
    rw [HN.out] at RZ ⊢
    clear ho hp k8 S8 Y8 Z8 A8 C8 RY
    go_wp2_with fail
    refine (same_any w9 _ _ L L RZ.out A9.out.rd true (by simp)).mono ?_
    rintro e _ ⟨rfl, rfl⟩
    obtain ⟨fin, hfin⟩ : ∃ fin, (endF fz L).fin = fin := ⟨_, rfl⟩
    have HFIN := Lw.hid hfin
    rw [hfin] at hfin9
    clear hfin
    go_wp2_with fail
    refine (lsize_any w9 BY g _ Y9.out.box).mono ?_
    rw [HFIN.out]
    rintro e _ ⟨rfl, rfl⟩
    go_wp2_with fail
    refine (lsize_any w9 BZ g _ Z9.out.box).mono ?_
    rw [HFIN.out]
    rintro e _ ⟨rfl, rfl⟩
    go_wp2_with fail
    refine (lnext_any w9 BZ g _ Z9.out.box).mono ?_
    rw [HH4.out.num, HN.out]
    rintro e _ ⟨rfl, rfl⟩
    have hnx : (((N + 1 : Nat) : Int) != (N : Int) + 1) = false := by rw [bne_eq_false_iff_eq]; omega
    go_wp2_with fail
    refine (lsize_any w9 BY g _ Y9.out.box).mono ?_
    rw [HFIN.out]
    rintro e _ ⟨rfl, rfl⟩
    go_wp2_with fail
    have hD4 : D4.b.length ≤ 1048576 := Nat.le_trans S9.out.ok.len S9.out.ok.cap
    refine (dread_any w9 g v7 D4 S9.out.d hD4 (fin : Int) 4000 (by omega) (by decide)).mono ?_
    have hrdt : D4.rd (fin : Int) 4000 = zeros cm := by
      rw [← HFIN.out]
      exact rd_tail HH4.out 4000 (by rw [zeros_len]; omega)
    rw [hrdt]
    rintro e w10 ⟨rt, rfl, ho, k10, hb⟩
    obtain ⟨adt, capt, rfl, hct1, hct2, _⟩ := own_slice ho
    have RT := Lw.hid (RdB.of_own ho rfl)
    have hzl : (zeros cm).length = cm := zeros_len cm
    rw [hzl] at RT hct1 ⊢
    have S10 := Lw.hid (S9.out.keptF k10); have Z10 := Lw.hid (Z9.out.keptF k10); have A10 := Lw.hid (A9.out.keptF k10); have C10 := Lw.hid (k10.heap C9.out (fun h => h))
    unfold maxLen at hct2
    clear ho k10 hb hD4 hrdt hzl S9 Y9 Z9 A9 C9 RZ
    obtain ⟨wo, rfl⟩ : ∃ wo : World, wo = w10 := ⟨_, rfl⟩
    go_upto_block 2 with fail
    go_cut [] from 133 to 141 (fun wx => wx = wo)
    case first =>
      go_wp2_with fail
      go_loopg [135] cm (fun gk i wr => ∃ k : Nat, gk = cm - k ∧ k ≤ cm ∧ i = .int .i64 (k : Int) ∧ wr = wo)
      case atStart => exact ⟨0, rfl, Nat.zero_le _, rfl, rfl⟩
      case round =>
        obtain ⟨k, rfl, hk, rfl, rfl⟩ := hrel
        by_cases hlt : k < cm
        · obtain ⟨gt, oft, rfl, hct⟩ := rdb_zero RT.out hlt
          have hkd : decide ((k : Int) < (cm : Int)) = true := by simp; omega
          have i0 : (0 : Int) ≤ (k : Int) := by omega
          have i1 : (k : Int) < (cm : Int) := by omega
          have hkn : k + 1 ≤ cm := hlt
          go_wp2_with fail
          go_roundg (cm - (k + 1))
          case measure => omega
          case rel => exact ⟨k + 1, rfl, hkn, by go_num, rfl⟩
        · have hkd : decide ((k : Int) < (cm : Int)) = false := by simp; omega
          go_wp2_with fail
          go_meet
          case rel => rfl
    case rest =>
    subst hcut
    go_wp2_with fail
    obtain ⟨CM, hCM⟩ : ∃ CM, wc.heap.size = CM := ⟨_, rfl⟩
    obtain ⟨w11, hw11⟩ : ∃ w11, wc.alloc (.cells #[.int .i64 0] 3) = w11 := ⟨_, rfl⟩
    have hm11 : w11.heap[CM]? = some (.cells #[.int .i64 0] 3 (0, 0)) := by rw [← hw11, ← hCM]; exact heap_alloc wc _
    have k11 : Kept (fun _ => False) wc w11 := by rw [← hw11]; exact (Kept.refl _ wc).alloc _
    rw [hw11, hCM]
    have HCMl : Hid (w1.heap.size ≤ CM) := Lw.hid (by rw [← hCM]; exact S10.out.k.size)
    have S11 := Lw.hid (S10.out.keptF k11); have Z11 := Lw.hid (Z10.out.keptF k11); have C11 := Lw.hid (k11.heap C10.out (fun h => h)); have M11 := Lw.hid hm11
    have hCg : CM ≠ g ∧ CM ≠ BZ ∧ ¬ blk v7 CM := by
      have h1 := heap_lt S10.out.d.box; have h2 := heap_lt Z10.out.box; have h3 := own_lt S10.out.d.own
      exact ⟨by omega, by omega, fun h => by have := h3 _ h; omega⟩
    clear hw11 hCM k11 hm11 S10 Z10 A10 C10
    refine (lall_any w11 _).mono ?_
    rintro e w12 ⟨BB, rfl, hbb, k12, hlb⟩
    have S12 := Lw.hid (S11.out.keptF k12); have Z12 := Lw.hid (Z11.out.keptF k12); have C12 := Lw.hid (k12.heap C11.out (fun h => h)); have M12 := Lw.hid (k12.heap M11.out (fun h => h))
    have hCB : CM ≠ BB := by have := heap_lt M11.out; omega
    have HBB := Lw.hid hbb
    clear k12 hbb S11 Z11 C11 M11
    go_wp2_with fail
    refine (safe2_any w12 48 #[] #[.pointer (some ⟨BB, 0, none⟩)]).mono ?_
    rintro e w13 ⟨rfl, rfl⟩
    have HAL : Hid (AlAt w13 BB BZ g v7 D4 (endF fz L)) := Lw.hid ⟨HBB.out, S12.out.log Z12.out, S12.out.tab⟩
    have S13 := S12; have C13 := C12; have M13 := M12
    have HW13 : Hid (w.heap.size ≤ w13.heap.size) := Lw.hid (Nat.le_trans K1.out.size S12.out.k.size)
    have hD4 : D4.b.length ≤ 1048576 := Nat.le_trans S12.out.ok.len S12.out.ok.cap
    have IT := Lw.hid (all1_iter w13 BB BZ g v7 D4 (endF fz L) HAL.out hD4 (by rw [HFIN.out]; exact hfin9))
    have HLL : Hid ((logL D4 (endF fz L)).length = N) := Lw.hid (by
      have := congrArg List.length HH4.out.logP
      unfold logP at this
      rw [List.length_map] at this
      rw [this, HN.out])
    obtain ⟨s8, hs8⟩ : ∃ s8, st % 8 = s8 := ⟨_, rfl⟩
    have hs8m : (st : Int).tmod 8 = (s8 : Int) := by rw [Int.tmod_eq_emod_of_nonneg (by omega)]; omega
    have hs89 : s8 < 8 := by omega
    clear hs8 HBB S12 Z12 C12 M12
    have HR' : Hid (∀ k, AlR BB BZ g v7 k → k < w13.heap.size ∧ k ≠ CM) := Lw.hid (fun k hk => ⟨HAL.out.lt k hk, by
      rcases hk with h | h | h | h | h
      · omega
      · omega
      · omega
      · exact fun e => hCg.2.2 (e ▸ h)
      · have := World.block_lt_of_cell? w _ (HT.out 0 (by decide)); have := HCMl.out; have := K1.out.size; dsimp only at *; omega⟩)
    go_wp2_with fail
    refine wp_nm (fun ac hac => ?_)
    refine wp_rangeE (gf := 48) (lb := #[.pointer (some ⟨BB, 0, none⟩)]) (by rw [hac.out]; rfl) (Go.Proofs.enters_of Tryd.func48 (by kernel_rfl) rfl)
      IT.out AlE.mono (fun k hk => (HR'.out k hk).1) (fun _ _ _ x A W h => by obtain ⟨v, rfl, _⟩ := h; rfl)
      (fun X pre V => V.heap[CM]? = some (.cells #[.int .i64 (pre.length : Int)] 3 (0, 0)) ∧ Kept (fun k => k = CM) w13 V ∧ (∀ k, X k → w13.heap.size ≤ k) ∧ pre.length ≤ s8)
      (fun c X pre V => c = .exit 4 ∧ V.heap[CM]? = some (.cells #[.int .i64 (pre.length : Int)] 3 (0, 0)) ∧ Kept (fun k => k = CM) w13 V ∧ (∀ k, X k → w13.heap.size ≤ k) ∧ pre.length = s8 + 1)
      ?_ ?_ ?_ (fun X Xp q V => ∃ vv, q.2.2 = { tmps := (ac.tmps.setIfInBounds 145 (.int .u32 (q.2.1.num : Int))).setIfInBounds 146 vv, defers := [] }) (fun _ _ _ _ _ _ _ h _ _ _ => h) ?assign ?body ?done ?stop
    · rintro X X' s V V' ⟨h1, h2, h3, h4⟩ hk hx
      have hm := heap_lt M13.out
      refine ⟨hk.heap h1 (fun h => by have := h3 _ h; omega), h2.trans hk (fun i hi h => by have := h3 i h; omega), fun k h => ?_, h4⟩
      rcases hx k h with h | h
      · exact h3 k h
      · have := h2.size; omega
    · rintro c X X' s V V' ⟨h0, h1, h2, h3, h4⟩ hk hx
      have hm := heap_lt M13.out
      refine ⟨h0, hk.heap h1 (fun h => by have := h3 _ h; omega), h2.trans hk (fun i hi h => by have := h3 i h; omega), fun k h => ?_, h4⟩
      rcases hx k h with h | h
      · exact h3 k h
      · have := h2.size; omega
    · exact ⟨M13.out, Kept.refl _ _, fun _ h => h.elim, Nat.zero_le _⟩
    case assign =>
      rintro y X Xp pre x A V K hi hXX ⟨vv, rfl, hrd, hbv⟩ hXb hpx hsz hK
      have hac' := hac.out
      rw [hac'] at hK ⊢
      have HI := Lw.hid hi
      clear hi hrd hbv
      gi_wp2
      exact hK _ _ (Keeps.refl _ _) HI.out ⟨vv, rfl⟩
    case body =>
      rintro y X Xp pre x a' V ⟨h1, h2, h3, h4⟩ hXX ⟨vv, hax⟩ hXb hpx hsz
      dsimp only at hax
      subst hax
      rw [hac.out]
      simp only [List.setIfInBounds_toArray, List.set_cons_zero, List.set_cons_succ]
      obtain ⟨j, hj⟩ : ∃ j, pre.length = j := ⟨_, rfl⟩
      rw [hj] at h1 h4
      have cM := heap_cell h1 0; have fM := heap_free h1 0
      have hm := heap_lt M13.out
      have cS : V.cell? ⟨CS, 0, none⟩ = some (.int .u8 (st : Int)) := heap_cell (h2.heap C13.out (by have := HCMl.out; omega)) 0
      have cS2 : (V.setCell ⟨CM, 0, none⟩ (.int .i64 ((j : Int) + 1))).cell? ⟨CS, 0, none⟩ = some (.int .u8 (st : Int)) := by
        rw [World.cell?_setCell_other _ _ _ _ (by intro e; have e2 := congrArg Addr.block e; dsimp only at e2; have := HCMl.out; omega)]; exact cS
      have KS : Hid (Kept (fun k => k = CM) V (V.setCell ⟨CM, 0, none⟩ (.int .i64 ((j : Int) + 1)))) := Lw.hid ((Kept.refl (fun k => k = CM) V).set CM 0 (fun _ => rfl) _)
      have HM2 : Hid ((V.setCell ⟨CM, 0, none⟩ (.int .i64 ((j : Int) + 1))).heap[CM]? = some (.cells #[.int .i64 ((j : Int) + 1)] 3 (0, 0))) := Lw.hid (Boxed.set _ h1)
      have HJ := Lw.hid hj; have H2 := Lw.hid h2; have H3 := Lw.hid h3; have HXX := Lw.hid hXX
      clear h1 h2 h3 hj hXX
      have kk : ∀ W : World, Kept (fun k => k = CM) V W → Keeps (fun k => AlR BB BZ g v7 k ∨ X k) V W := fun W k => k.keeps (fun i hi hr e => by
        rcases hr with h | h
        · exact (HR'.out i h).2 e
        · have := H3.out i (HXX.out i h); omega)
      by_cases hlt : j + 1 ≤ s8
      · have hq : decide ((s8 : Int) < (j : Int) + 1) = false := by simp; omega
        gi_wp2_with fail
        exact ⟨kk _ KS.out, by rw [List.length_append, HJ.out]; exact HM2.out, H2.out.trans KS.out (fun i _ e => e), fun k h => H3.out k (HXX.out k h), by rw [List.length_append, HJ.out]; exact hlt⟩
      · have hq : decide ((s8 : Int) < (j : Int) + 1) = true := by simp; omega
        gi_wp2_with fail
        exact ⟨kk _ KS.out, rfl, by rw [List.length_append, HJ.out]; exact HM2.out, H2.out.trans KS.out (fun i _ e => e), fun k h => H3.out k (HXX.out k h), by rw [List.length_append, HJ.out]; show j + 1 = s8 + 1; omega⟩
    case done =>
      rintro X D' V hD' hXD hXb ⟨h1, h2, h3, h4⟩ hdf
      rw [hac.out]
      rw [HLL.out] at h1 h4
      have hmin : ((N : Int) == min (N : Int) ((s8 : Int) + 1)) = true := by rw [beq_iff_eq]; omega
      have KV : Hid (Kept (fun _ => False) w V) := Lw.hid ((K1.out.trans S13.out.k (fun _ _ h => h)).trans h2 (fun i hi e => by have e' : i = CM := e; have := HCMl.out; have := K1.out.size; omega))
      have cS : V.cell? ⟨CS, 0, none⟩ = some (.int .u8 (st : Int)) := heap_cell (h2.heap C13.out (by have := HCMl.out; omega)) 0
      have cM := heap_cell h1 0
      have HDF := Lw.hid hdf
      have htab := Lw.hid (HT.out.below (KV.out.below (Nat.le_refl _) (fun _ _ h => h)))
      have hDw : w.heap.size ≤ D' := by have := HW13.out; omega
      clear h1 h2 h3 hdf hXb
      go_wp2_with fail
      refine (lwakes_any V htab.out).mono ?_
      rintro e W2 ⟨rfl, kw⟩
      have KW2 := Lw.hid (KV.out.trans kw (fun _ _ h => h)); have HDF2 := Lw.hid (kw.heap HDF.out (fun h => h))
      clear kw
      go_wp2_with fail
      refine leaves_marks [D'] W2 (by simp) (fun r hr => by rw [List.mem_singleton.1 hr]; exact HDF2.out) (fun V' hk => ⟨_, results_tmp rfl _ _ _, rfl, KW2.out.trans hk (fun i hi e => by rw [List.mem_singleton.1 e] at hi; omega)⟩)
    case stop =>
      rintro X c' pre D' V hD' hXD hXb hpre hne ⟨rfl, h1, h2, h3, h4⟩ hdf
      rw [hac.out]
      have hpl := hpre.length_le
      rw [HLL.out, h4] at hpl
      obtain ⟨m8, hm8⟩ : ∃ m8, s8 + 1 = m8 := ⟨_, rfl⟩
      rw [h4, hm8] at h1
      have hmin : ((m8 : Int) == min (N : Int) ((s8 : Int) + 1)) = true := by rw [beq_iff_eq]; omega
      clear h4 hm8
      have KV : Hid (Kept (fun _ => False) w V) := Lw.hid ((K1.out.trans S13.out.k (fun _ _ h => h)).trans h2 (fun i hi e => by have e' : i = CM := e; have := HCMl.out; have := K1.out.size; omega))
      have cS : V.cell? ⟨CS, 0, none⟩ = some (.int .u8 (st : Int)) := heap_cell (h2.heap C13.out (by have := HCMl.out; omega)) 0
      have cM := heap_cell h1 0
      have HDF := Lw.hid hdf
      have htab := Lw.hid (HT.out.below (KV.out.below (Nat.le_refl _) (fun _ _ h => h)))
      have hDw : w.heap.size ≤ D' := by have := HW13.out; omega
      clear h1 h2 h3 hdf hXb
      go_wp2_with fail
      refine (lwakes_any V htab.out).mono ?_
      rintro e W2 ⟨rfl, kw⟩
      have KW2 := Lw.hid (KV.out.trans kw (fun _ _ h => h)); have HDF2 := Lw.hid (kw.heap HDF.out (fun h => h))
      clear kw
      go_wp2_with fail
      refine leaves_marks [D'] W2 (by simp) (fun r hr => by rw [List.mem_singleton.1 hr]; exact HDF2.out) (fun V' hk => ⟨_, results_tmp rfl _ _ _, rfl, KW2.out.trans hk (fun i hi e => by rw [List.mem_singleton.1 e] at hi; omega)⟩)
end Go.Proofs.YtfmebmaklakckaaDoor
