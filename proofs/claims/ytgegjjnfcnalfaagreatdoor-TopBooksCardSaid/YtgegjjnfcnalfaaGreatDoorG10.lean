/- Of the proof of TopBooks: LogF, Round. -/
import Derived.Test.YtgegjjnfcnalfaaGreatDoorG06
import Derived.Test.YtgegjjnfcnalfaaGreatDoorG07
import Derived.Test.YtgegjjnfcnalfaaGreatDoorG09
import Derived.Sort.LoopGhostIn
import Derived.Test.YtgegjjnfcnalfaaGreatDoorG03
import Derived.Test.YtgegjjnfcnalfaaGreatDoorG08
import Derived.OrdersIn
namespace Go.Proofs.YtgegjjnfcnalfaaGreatDoor
open Go Go.RowKit Go.Lw
set_option maxRecDepth 100000
set_option linter.unusedVariables false
theorem frames_any (w : World) (v : Value) (b : List UInt8) (hb : RdB w v b) :
    Calls Tryz.prog 54 #[v] w fun x w' => ∃ BX, x = .returned (.func (.func 89) #[] #[.pointer (some ⟨BX, 0, none⟩)]) ∧ w'.heap[BX]? = some (.cells #[v] 36 (0, 0)) ∧ Kept (fun _ => False) w w' ∧ w.heap.size ≤ BX := by
  obtain ⟨ad, cap, rfl, _, _, _⟩ := hb.open
  go_enter Tryz.func54, Tryz.ntmps54
  go_wp2_with fail
  go_ret
  exact ⟨w.heap.size, rfl, heap_alloc _ _, (Kept.refl _ w).alloc _, Nat.le_refl _⟩
theorem rd_castL {w : World} {ad : Option Addr} {n cap : Nat} {l : List UInt8} (hn : l.length = n) (h : RdB w (.slice ad n cap) l) : Rd w 1 (.slice ad n cap) n (l.map bv) := by subst hn; exact h
def FdE (lo : Nat) (X Xp : Nat → Prop) (f : Fd) (A : Array Value) (W : World) : Prop :=
  ∃ v, A = #[.agg #[v, .int .u32 (f.num : Int), .int .u32 (f.sum : Int), .int .i64 (f.fin : Int)]] ∧ RdB W v f.p ∧ (f.p.length ≠ 0 → ∀ k, blk v k → lo ≤ k ∧ ¬ X k ∧ Xp k)
theorem FdE.mono : EMono FdE := by
  rintro lo X X' Xp Xp' f A W ⟨v, h1, h2, h3⟩ hX hXp
  exact ⟨v, h1, h2, fun hn k hk => ⟨(h3 hn k hk).1, fun hx => by
    rcases hX k hx with h | h
    · exact (h3 hn k hk).2.1 h
    · have := (h3 hn k hk).1; omega, hXp k (h3 hn k hk).2.2⟩⟩
structure FrAt (w : World) (BX : Nat) (v : Value) (b : List UInt8) : Prop where
  box : w.heap[BX]? = some (.cells #[v] 36 (0, 0))
  rd : RdB w v b
  tab : Tab w
def FrR (BX : Nat) (v : Value) (b : List UInt8) (k : Nat) : Prop := k = BX ∨ (b.length ≠ 0 ∧ blk v k) ∨ k = 0
theorem FrAt.lt {w : World} {BX : Nat} {v : Value} {b : List UInt8} (h : FrAt w BX v b) : ∀ k, FrR BX v b k → k < w.heap.size := fun k hk => by
  rcases hk with rfl | hk | rfl
  · exact (Array.getElem?_eq_some_iff.1 h.box).1
  · exact h.rd.lt hk.1 k hk.2
  · exact World.block_lt_of_cell? w _ (h.tab 0 (by decide))
theorem FrAt.keeps {w w' : World} {BX : Nat} {v : Value} {b : List UInt8} {R : Nat → Prop} (h : FrAt w BX v b) (hk : Keeps R w w') (hR : ∀ k, FrR BX v b k → R k) : FrAt w' BX v b :=
  ⟨hk.heap h.box (hR _ (.inl rfl)), by
    by_cases hl : b.length = 0
    · obtain rfl : b = [] := List.length_eq_zero_iff.1 hl
      obtain ⟨h1, a, c, h2, h3, h4, _⟩ := h.rd
      exact ⟨h1, a, c, h2, h3, h4, fun j u hj => by simp at hj⟩
    · exact h.rd.of_cells fun g off j u hg hc => hk.cell hc (hR _ (.inr (.inl ⟨hl, hg⟩))), fun i hi => hk.cell (h.tab i hi) (hR _ (.inr (.inr rfl)))⟩
theorem FrAt.kept {w w' : World} {BX : Nat} {v : Value} {b : List UInt8} (h : FrAt w BX v b) {S : Nat → Prop} (hk : Kept S w w') (hS : ∀ k, k < w.heap.size → ¬ S k) : FrAt w' BX v b :=
  h.keeps (hk.keeps (R := fun _ => True) (fun k hk _ => hS k hk)) (fun _ _ => trivial)
abbrev fcell (v : Value) (s : Fd) : Obj := .cells #[v, .int .u32 (s.num : Int), .int .u32 (s.sum : Int), .int .i64 (s.fin : Int)] 114 (0, 0)
theorem framesF_nil {b : List UInt8} {n : Nat} {s : Fd} (h : stepF b s = none) : framesF b n s = [] := by
  cases n with
  | zero => rfl
  | succ n => simp [framesF, h]
theorem framesF_cons {b : List UInt8} {n : Nat} {s f : Fd} (h : stepF b s = some f) : framesF b (n + 1) s = f :: framesF b n f := by simp [framesF, h]
theorem step_parts {b : List UInt8} {s : Fd} {a1 m1 c1 : Nat} {r1 r2 r3 r4 : Rdr} {p : List UInt8} (e1 : (Rdr.mk (b.drop s.fin) false).num 2 = (a1, r1)) (e2 : r1.num 4 = (m1, r2)) (e3 : r2.num 4 = (c1, r3)) (e4 : r3.take a1 = (p, r4)) :
    stepF b s = if r4.short = true ∨ m1 ≠ (s.num + 1) % 4294967296 ∨ c1 ≠ checkN s.sum m1 p then none else some ⟨p, m1, c1, s.fin + 10 + a1⟩ := by
  unfold stepF
  simp only [e1, e2, e3, e4]
theorem checkN_lt (a n : Nat) (p : List UInt8) : checkN a n p < 4294967296 := by unfold checkN; exact crcN_lt _
set_option maxHeartbeats 8000000 in
theorem frames_iter (w : World) (BX : Nat) (v : Value) (b : List UInt8) (hf : FrAt w BX v b) (hl : b.length ≤ 1048576) :
    IterE Tryz.prog 89 #[.pointer (some ⟨BX, 0, none⟩)] FdE (FrR BX v b) (framesF b (b.length + 1) Fd.zero) w := by
  intro y J Jx X W hW hX hJ hJx hY h0
  have HF := Lw.hid (hf.keeps hW (fun _ h => h))
  have HY := Lw.hid hY; have HJ := Lw.hid hJ; have HJX := Lw.hid hJx; have H0 := Lw.hid h0; have HX := Lw.hid hX
  obtain ⟨ad, cap, rfl, hc1, hc2, _⟩ := hf.rd.open
  obtain ⟨n, hln⟩ : ∃ n, b.length = n := ⟨_, rfl⟩
  have HLN := Lw.hid hln
  rw [hln] at hl hc1 HF HY
  clear hY hJ hJx h0 hW hX hf hln
  refine (callsIn_wide (n := 0)).1 (callsIn_of_wp Tryz.func89 rfl trivial ?_)
  simp only [Tryz.ntmps89, List.size_toArray, List.length_cons, List.length_nil, Nat.reduceAdd, Nat.reduceSub, Array.replicate_succ, Array.replicate_zero, List.push_toArray, List.append_toArray, List.nil_append, List.cons_append]
  gi_wp2_with fail
  obtain ⟨W0, hW0⟩ : ∃ W0, W.alloc (fcell (.slice none 0 0) Fd.zero) = W0 := ⟨_, rfl⟩
  have KW : Hid (Kept (fun _ => False) W W0) := Lw.hid (by rw [← hW0]; exact (Kept.refl _ W).alloc _)
  have hB0 : W0.heap[W.heap.size]? = some (fcell (.slice none 0 0) Fd.zero) := by rw [← hW0]; exact heap_alloc W _
  have hz0 : W0.heap.size = W.heap.size + 1 := by rw [← hW0]; simp
  change Code.wpIn _ _ _ _ _ _ (W.alloc (fcell (.slice none 0 0) Fd.zero))
  rw [hW0]
  clear hW0
  obtain ⟨BF, hBF⟩ : ∃ BF, W.heap.size = BF := ⟨_, rfl⟩
  have HBF := Lw.hid hBF
  rw [hBF] at hB0 hz0 HY ⊢
  obtain ⟨R, hR⟩ : ∃ R, FrR BX (.slice ad n cap) b = R := ⟨_, rfl⟩
  have HR := Lw.hid hR
  have HRL : Hid (∀ k, R k → k < BF) := Lw.hid (by rw [← hR, ← hBF]; exact HF.out.lt)
  rw [hR] at HY
  clear hBF hR
  gi_loopg [] (n + 1) (fun gk wr => ∃ (s : Fd) (pre : List Fd) (vs : Value), framesF b (n + 1) Fd.zero = pre ++ framesF b gk s ∧ s.fin ≤ n ∧ n < s.fin + gk ∧ s.num < 4294967296 ∧ s.sum < 4294967296 ∧ wr.heap[BF]? = some (fcell vs s) ∧ J (fun k => X k ∨ k = BF) pre wr ∧ Keeps R W wr)
  case atStart =>
    exact ⟨Fd.zero, [], .slice none 0 0, rfl, Nat.zero_le _, by show n < 0 + (n + 1); omega, by decide, by decide, hB0, HJ.out _ _ _ _ _ H0.out (KW.out.mono (fun _ _ h => h.elim)) (fun k hk => hk.imp id (fun e => by subst e; rw [HBF.out]; omega)), KW.out.keeps (fun _ _ _ h => h)⟩
  case round =>
    obtain ⟨s, pre, vs, hpre, hfin, hfu, hnum, hsum, hcell, hjs, hkp⟩ := hrel
    have HPRE := Lw.hid hpre; have HC := Lw.hid hcell; have HJS := Lw.hid hjs; have HKP := Lw.hid hkp
    have HFr := Lw.hid (HF.out.keeps hkp (fun k h => by rw [← HR.out]; exact h))
    have hlt : BF < wr.heap.size := heap_lt hcell
    have cX : wr.cell? ⟨BX, 0, none⟩ = some (.slice ad n cap) := heap_cell HFr.out.box 0
    have c0 := heap_cell hcell 0; have c1 := heap_cell hcell 1; have c2 := heap_cell hcell 2; have c3 := heap_cell hcell 3
    clear hpre hcell hjs hkp
    obtain ⟨p, num, sum, fin⟩ := s
    dsimp only at hfin hfu hnum hsum c0 c1 c2 c3
    gi_wp2_with (refine wpListIn_slice_l rfl _ _ _ rfl EB (.slice ad n cap) n _ _ _ fin rfl rfl (rd_castL HLN.out HFr.out.rd) rfl hfin ?_; intro ad1 cap1 hr1 hb1; have HR1 := Lw.hid hr1; clear hr1 hb1)
    obtain ⟨D, hD⟩ : ∃ D, b.drop fin = D := ⟨_, rfl⟩
    have HD := Lw.hid hD
    have hDl : D.length = n - fin := by rw [← hD, List.length_drop, HLN.out]
    have HS : Hid (RdB wr (.slice ad1 (n - fin) cap1) D) := Lw.hid (by
      have h1 := HR1.out
      unfold RdB
      rw [hDl, ← hD, List.map_drop]
      simpa using h1)
    have HDL := Lw.hid hDl
    clear hD hDl HR1
    refine ⟨trivial, rfl, (callsIn_wide.2 (new_any wr _ D HS.out (by rw [HDL.out]; omega))).mono ?_⟩
    rintro e w1 ⟨br, vr, rfl, ha, hk, hbr, hbv⟩
    have A0 := Lw.hid ha; have K0 : Hid (Kept (fun k => wr.heap.size ≤ k) wr w1) := Lw.hid (hk.mono (fun _ _ h => h.elim))
    have hbl := ha.lt
    have B0 : Hid (∀ k, blk vr k → wr.heap.size ≤ k) := Lw.hid (fun k hk => (hbv k hk).1)
    clear ha hk hbv
    gi_wp2_with fail
    refine ⟨trivial, rfl, (callsIn_wide.2 (rtwo_any w1 br vr _ A0.out)).mono ?_⟩
    rintro e w2 ⟨rfl, v1, ha, hk, hb⟩
    have a1l := Rdr.num_lt ⟨D, false⟩ 2
    obtain ⟨⟨a1, r1⟩, hr1⟩ : ∃ x, (Rdr.mk D false).num 2 = x := ⟨_, rfl⟩
    rw [hr1] at ha a1l ⊢
    have HR1 := Lw.hid hr1
    dsimp only at ha a1l ⊢
    have A1 := Lw.hid ha; have K1 : Hid (Kept (fun k => wr.heap.size ≤ k) wr w2) := Lw.hid (K0.out.trans hk (fun i hi e => by subst e; exact hbr)); have B1 : Hid (∀ k, blk v1 k → wr.heap.size ≤ k) := Lw.hid (fun k h => B0.out k (hb k h))
    clear ha hk hb hr1 A0 K0 B0
    gi_wp2_with fail
    simp only [Nat.reducePow] at a1l
    refine ⟨trivial, rfl, (callsIn_wide.2 (rfour_any w2 br v1 _ A1.out)).mono ?_⟩
    rintro e w3 ⟨rfl, v2, ha, hk, hb⟩
    have m1l := Rdr.num_lt r1 4
    obtain ⟨⟨m1, r2⟩, hr2⟩ : ∃ x, r1.num 4 = x := ⟨_, rfl⟩
    rw [hr2] at ha m1l ⊢
    have HR2 := Lw.hid hr2
    dsimp only at ha m1l ⊢
    have A2 := Lw.hid ha; have K2 : Hid (Kept (fun k => wr.heap.size ≤ k) wr w3) := Lw.hid (K1.out.trans hk (fun i hi e => by subst e; exact hbr)); have B2 : Hid (∀ k, blk v2 k → wr.heap.size ≤ k) := Lw.hid (fun k h => B1.out k (hb k h))
    clear ha hk hb hr2 A1 K1 B1
    gi_wp2_with fail
    refine ⟨trivial, rfl, (callsIn_wide.2 (rfour_any w3 br v2 _ A2.out)).mono ?_⟩
    rintro e w4 ⟨rfl, v3, ha, hk, hb⟩
    have s1l := Rdr.num_lt r2 4
    obtain ⟨⟨s1, r3⟩, hr3⟩ : ∃ x, r2.num 4 = x := ⟨_, rfl⟩
    rw [hr3] at ha s1l ⊢
    have HR3 := Lw.hid hr3
    dsimp only at ha s1l ⊢
    have A3 := Lw.hid ha; have K3 : Hid (Kept (fun k => wr.heap.size ≤ k) wr w4) := Lw.hid (K2.out.trans hk (fun i hi e => by subst e; exact hbr)); have B3 : Hid (∀ k, blk v3 k → wr.heap.size ≤ k) := Lw.hid (fun k h => B2.out k (hb k h))
    clear ha hk hb hr3 A2 K2 B2
    gi_wp2_with fail
    simp only [Nat.reducePow] at m1l s1l
    refine ⟨trivial, rfl, (callsIn_wide.2 (take_any w4 br v3 r3 _ a1 rfl (by omega) A3.out)).mono ?_⟩
    rintro e w5 ⟨vt, rfl, hv, ⟨v4, ha, hk, hb⟩, hvb⟩
    have hpl := Rdr.take_len r3 a1
    obtain ⟨⟨q, r4⟩, hr4⟩ : ∃ x, r3.take a1 = x := ⟨_, rfl⟩
    rw [hr4] at hv ha hpl
    have HR4 := Lw.hid hr4
    dsimp only at hv ha hpl
    have A4 := Lw.hid ha; have K4 : Hid (Kept (fun k => wr.heap.size ≤ k) wr w5) := Lw.hid (K3.out.trans hk (fun i hi e => by subst e; exact hbr))
    have VT := Lw.hid hv; have VB : Hid (∀ k, blk vt k → wr.heap.size ≤ k) := Lw.hid (fun k h => Nat.le_trans K3.out.size (hvb k h))
    have HSTEP := Lw.hid (step_parts (b := b) (s := ⟨p, num, sum, fin⟩) (by rw [HD.out]; exact HR1.out) HR2.out HR3.out HR4.out)
    obtain ⟨adt, capt, rfl, _, _, _⟩ := hv.open
    obtain ⟨qn, hqn⟩ : ∃ qn, q.length = qn := ⟨_, rfl⟩
    have HQN := Lw.hid hqn
    rw [hqn] at VT VB hpl ⊢
    clear hv ha hk hb hvb hr4 A3 K3 B3 hqn
    gi_wp2_with fail
    refine ⟨trivial, rfl, (callsIn_wide.2 (err_any w5 br v4 r4 A4.out)).mono ?_⟩
    rintro e w6 ⟨rfl, rfl⟩
    have hc5 := K4.out.heap HC.out (by omega)
    have HC5 := Lw.hid hc5
    have d0 := heap_cell hc5 0; have d1 := heap_cell hc5 1; have d2 := heap_cell hc5 2; have d3 := heap_cell hc5 3
    have F5 := heap_free hc5 0; have F5a := heap_free hc5 1; have F5b := heap_free hc5 2; have F5c := heap_free hc5 3
    have HFR5 := Lw.hid (HFr.out.kept K4.out (fun k h => by omega))
    clear hc5
    have none_end : stepF b ⟨p, num, sum, fin⟩ = none → J (fun k => X k ∨ k = BF) (framesF b (n + 1) Fd.zero) wr := fun h => by
      have := HPRE.out
      rw [framesF_nil h, List.append_nil] at this
      rw [this]; exact HJS.out
    have HNONE := Lw.hid none_end
    clear none_end
    cases hsh : r4.short with
    | true =>
      have hst : stepF b ⟨p, num, sum, fin⟩ = none := by rw [HSTEP.out, if_pos (.inl hsh)]
      have HJN := Lw.hid (HNONE.out hst)
      gi_wp2_with fail
      refine ⟨trivial, ?_⟩
      gi_wp2_with fail
      refine bodyPost_ret (results_none rfl _ _ _) rfl ?_
      refine ⟨⟨_, rfl⟩, .inl ⟨fun k => X k ∨ k = BF, fun k hk => ?_, fun k h => .inl h, ?_⟩⟩
      · have h1 := K4.out.size
        rcases hk with h | h
        · have h2 := HX.out k h; rw [HBF.out] at h2; omega
        · omega
      · rw [HLN.out]
        exact HJ.out _ _ _ _ _ HJN.out (K4.out.mono (fun i h1 h2 => by omega)) (fun k hk => .inl hk)
    | false =>
    by_cases hm : m1 = (num + 1) % 4294967296
    · have hmt : ((m1 : Int) != IntKind.u32.wrap ((num : Int) + 1)) = false := by
        rw [IntKind.wrap_u32, bne_eq_false_iff_eq]; omega
      have hmt2 : ((m1 : Int) != ((num : Int) + 1) % 4294967296) = false := by
        rw [bne_eq_false_iff_eq]; omega
      have HM := Lw.hid hm
      clear hm
      gi_wp2_with fail
      refine ⟨trivial, rfl, (callsIn_wide.2 (check_any w5 sum m1 _ q VT.out (by rw [HQN.out]; omega) hsum m1l HFR5.out.tab)).mono ?_⟩
      rintro e w6 ⟨rfl, hk6⟩
      have K6 : Hid (Kept (fun k => wr.heap.size ≤ k) wr w6) := Lw.hid (K4.out.trans hk6 (fun _ _ h => h.elim))
      have hcl := checkN_lt sum m1 q
      obtain ⟨cs, hcs⟩ : ∃ cs, checkN sum m1 q = cs := ⟨_, rfl⟩
      have HCS := Lw.hid hcs
      rw [hcs] at hcl ⊢
      have VT6 := Lw.hid (VT.out.kept hk6 (fun _ _ h => h))
      have hc6 := hk6.heap HC5.out (fun h => h)
      have HC6 := Lw.hid hc6
      clear hk6 hcs d0 d1 d2 d3 F5 F5a F5b F5c
      have d0 := heap_cell hc6 0; have d1 := heap_cell hc6 1; have d2 := heap_cell hc6 2; have d3 := heap_cell hc6 3
      have F5 := heap_free hc6 0; have F5a := heap_free hc6 1; have F5b := heap_free hc6 2; have F5c := heap_free hc6 3
      clear hc6
      by_cases hs : s1 = cs
      · have hst : ((s1 : Int) != (cs : Int)) = false := by rw [bne_eq_false_iff_eq]; omega
        have HST := Lw.hid (HSTEP.out.trans (if_neg (by rw [hsh, HCS.out]; simp [HM.out, hs])))
        clear hs
        gi_wp2_with fail
        obtain ⟨w7, hw7⟩ : ∃ w7, (((w6.setCell ⟨BF, 0, none⟩ (.slice adt qn capt)).setCell ⟨BF, 1, none⟩ (.int .u32 (m1 : Int))).setCell ⟨BF, 2, none⟩ (.int .u32 (s1 : Int))).setCell ⟨BF, 3, none⟩ (.int .i64 ((fin : Int) + 10 + (a1 : Int))) = w7 := ⟨_, rfl⟩
        have K7 : Hid (Kept (fun k => k = BF) w6 w7) := Lw.hid (by rw [← hw7]; exact (((((Kept.refl (fun k => k = BF) w6).set BF 0 (fun _ => rfl) _).set BF 1 (fun _ => rfl) _).set BF 2 (fun _ => rfl) _).set BF 3 (fun _ => rfl) _))
        have hc7 : w7.heap[BF]? = some (fcell (.slice adt qn capt) ⟨q, m1, s1, fin + 10 + a1⟩) := by
          rw [← hw7]
          exact heap_set (heap_set (heap_set (heap_set HC6.out 0 _) 1 _) 2 _) 3 _
        have HC7 := Lw.hid hc7
        rw [hw7]
        have KX : Hid (∀ k, FrR BX (.slice ad n cap) b k → k < BF) := Lw.hid (fun k h => HRL.out k (by rw [← HR.out]; exact h))
        have VT7 : Hid (RdB w7 (.slice adt qn capt) q) := Lw.hid (VT6.out.kept K7.out (fun k hk e => by have := VB.out k hk; omega))
        have HJ7 := Lw.hid (HJ.out _ (fun k => (X k ∨ k = BF) ∨ (wr.heap.size ≤ k ∧ k < w7.heap.size)) _ _ _ HJS.out ((K6.out.mono (S' := fun k => X k ∨ k = BF) (fun i h1 h2 => by omega)).trans (K7.out.mono (fun i _ h => .inr h)) (fun _ _ h => h)) (fun k hk => hk))
        have HX7 : Hid (∀ k, ((X k ∨ k = BF) ∨ (wr.heap.size ≤ k ∧ k < w7.heap.size)) → k < w7.heap.size) := Lw.hid (fun k hk => by
          have h1 := K6.out.size; have h2 := K7.out.size
          rcases hk with (h | h) | h
          · have h2 := HX.out k h; rw [HBF.out] at h2; omega
          · omega
          · exact h.2)
        have HSF := Lw.hid (step_fin HST.out (by rw [HLN.out]; exact hfin))
        cases gk with
        | zero => omega
        | succ gk =>
        have HPRE2 : Hid (framesF b (n + 1) Fd.zero = (pre ++ [⟨q, m1, s1, fin + 10 + a1⟩]) ++ framesF b gk ⟨q, m1, s1, fin + 10 + a1⟩) := Lw.hid (by
          rw [HPRE.out, framesF_cons HST.out]; simp)
        obtain ⟨fn, tmps, assign, body, hy, hRR⟩ := HY.out (fun k => X k ∨ k = BF) _ pre ⟨q, m1, s1, fin + 10 + a1⟩ w7 HJ7.out (fun k h => .inl h) HX7.out (by rw [HPRE2.out]; exact List.prefix_append _ _) #[.agg #[.slice adt qn capt, .int .u32 (m1 : Int), .int .u32 (s1 : Int), .int .i64 ((fin : Int) + 10 + (a1 : Int))]]
          ⟨_, rfl, VT7.out, fun hn k hk => by
            have h1 := VB.out k hk
            refine ⟨by omega, fun hx => ?_, .inr ⟨h1, VT7.out.lt hn k hk⟩⟩
            rcases hx with h | h
            · have h2 := HX.out k h; rw [HBF.out] at h2; omega
            · omega⟩
        clear hw7 hc7 d0 d1 d2 d3 F5 F5a F5b F5c
        gi_wp2_with fail
        refine ⟨rfl, (roundAny hRR).mono ?_⟩
        rintro e W3 (⟨rfl, hj3, hk3⟩ | ⟨rfl, hx3, hk3⟩)
        · have HJ3 := Lw.hid hj3; have HK3 := Lw.hid hk3
          clear hj3 hk3
          gi_wp2_with fail
          gi_roundg gk
          case measure => omega
          case rel =>
            have hsf := HSF.out
            rw [HLN.out] at hsf
            exact ⟨⟨q, m1, s1, fin + 10 + a1⟩, _, _, HPRE2.out, hsf.1, by dsimp only; omega, m1l, s1l, HK3.out.heap HC7.out (.inr (.inr rfl)), HJ3.out, (HKP.out.trans ((K6.out.keeps (fun i _ hi h => by have := HRL.out i hi; omega)).trans (K7.out.keeps (fun i _ hi h => by have := HRL.out i hi; omega)))).trans (HK3.out.mono (fun i h => .inl h))⟩
        · gi_wp2_with fail
          refine bodyPost_ret (results_none rfl _ _ _) rfl ?_
          refine ⟨⟨_, rfl⟩, .inr ⟨fun k => X k ∨ k = BF, _, fun i hi => Nat.lt_of_lt_of_le (HX7.out i (.inl hi)) hk3.1, fun _ h => .inl h, by rw [HLN.out, HPRE2.out]; exact List.prefix_append _ _, by simp, hx3⟩⟩
      · have hst : ((s1 : Int) != (cs : Int)) = true := by rw [bne_iff_ne]; omega
        have HJN := Lw.hid (HNONE.out (by rw [HSTEP.out, if_pos (.inr (.inr (by rw [HCS.out]; exact hs)))]))
        gi_wp2_with fail
        refine bodyPost_ret (results_none rfl _ _ _) rfl ?_
        refine ⟨⟨_, rfl⟩, .inl ⟨fun k => X k ∨ k = BF, fun k hk => ?_, fun k h => .inl h, ?_⟩⟩
        · have h1 := K6.out.size
          rcases hk with h | h
          · have h2 := HX.out k h; rw [HBF.out] at h2; omega
          · omega
        · rw [HLN.out]
          exact HJ.out _ _ _ _ _ HJN.out (K6.out.mono (fun i h1 h2 => by omega)) (fun k hk => .inl hk)
    · have hmt : ((m1 : Int) != IntKind.u32.wrap ((num : Int) + 1)) = true := by
        rw [IntKind.wrap_u32, bne_iff_ne]; omega
      have hmt2 : ((m1 : Int) != ((num : Int) + 1) % 4294967296) = true := by
        rw [bne_iff_ne]; omega
      have HJN := Lw.hid (HNONE.out (by rw [HSTEP.out, if_pos (.inr (.inl hm))]))
      gi_wp2_with fail
      refine ⟨trivial, ?_⟩
      gi_wp2_with fail
      refine bodyPost_ret (results_none rfl _ _ _) rfl ?_
      refine ⟨⟨_, rfl⟩, .inl ⟨fun k => X k ∨ k = BF, fun k hk => ?_, fun k h => .inl h, ?_⟩⟩
      · have h1 := K4.out.size
        rcases hk with h | h
        · have h2 := HX.out k h; rw [HBF.out] at h2; omega
        · omega
      · rw [HLN.out]
        exact HJ.out _ _ _ _ _ HJN.out (K4.out.mono (fun i h1 h2 => by omega)) (fun k hk => .inl hk)
end Go.Proofs.YtgegjjnfcnalfaaGreatDoor
namespace Go.Lw
open Go Go.RowKit
section
variable {P : Program} {Q : Exit → Act → World → Prop} {l n : Nat}
theorem upon_round {o : Oper} {a : Act} {K : Act → World → Prop} {r : Result Next} (h : o.upon P a K Q r) : o.uponIn (Fence.wide.inRound l) n P a K Q r := by
  cases r with
  | ok x w' =>
    cases x <;> simp only [Oper.upon, Oper.uponIn] at h ⊢ <;>
      first
        | exact h
        | exact ⟨fun h => (by cases h), callsIn_wide.2 h⟩
        | exact ⟨fun h => (by cases h), fun c cs _ => let ⟨v, w', r, s⟩ := h c cs; ⟨v, w', r, stepsIn_wide.2 s⟩⟩
  | halt x w' => cases x <;> simp only [Oper.upon, Oper.uponIn] at h ⊢ <;> exact h
theorem opIn_round {o : Oper} {a : Act} {w : World} {K : Act → World → Prop} (hd : ∀ c, o.op ≠ .defer c) (h : o.wp P a w K Q) : o.wpIn (Fence.wide.inRound l) n P a w K Q := by
  refine ⟨fun _ _ => trivial, ?_⟩
  rw [Oper.semAt_plain _ _ _ hd]
  exact upon_round h
def noDefer (ops : List Oper) : Bool := ops.all fun o => match o.op with | .defer _ => false | _ => true
theorem noDefer_at {ops : List Oper} (h : noDefer ops = true) {i : Nat} {o : Oper} (ho : ops.toArray[i]? = some o) : ∀ c, o.op ≠ .defer c := by
  intro c hc
  have := List.all_eq_true.1 h o (List.mem_of_getElem? (by simpa using ho))
  rw [hc] at this
  cases this
theorem wpAnyIn_round {md : Region.Mode} {ops : List Oper} (hd : noDefer ops = true) (hout : LetsOut Q → False) : ∀ (fuel : Nat) (listed : Array Bool) (a : Act) (w : World), wpAny P md ops.toArray Q fuel listed a w → wpAnyIn (Fence.wide.inRound l) n P md ops.toArray Q fuel listed a w
  | 0, _, _, _, h => h
  | fuel + 1, listed, a, w, h => by
    refine ⟨h.1, fun i hi => ?_⟩
    have h2 := h.2 i hi
    unfold wpOp at h2
    unfold wpOpIn
    split
    · rename_i ho
      rw [ho] at h2
      exact wpAnyIn_round hd hout fuel _ _ _ h2
    · rename_i o ho
      rw [ho] at h2
      dsimp only at h2
      split
      · rename_i hw
        rw [if_pos hw] at h2
        refine Oper.wpIn_mono (fun a w h => wpAnyIn_round hd hout fuel _ a w h) (opIn_round (noDefer_at hd ho) (h2.resolve_right (fun h => hout h.2)))
      · rename_i hw
        rw [if_neg hw] at h2
        exact ⟨fun _ _ => trivial, wpAnyIn_round hd hout fuel _ _ _ h2⟩
theorem wpIn_round_any {id : Nat} {ops : List Oper} {a : Act} {w : World} (hm : P.follows .mixedOrders = true) (hd : noDefer ops = true) (hout : LetsOut Q → False)
    (h : wpAny P .any ops.toArray Q ops.toArray.size (Array.replicate ops.toArray.size false) a w.drew) : (Code.region id ops.toArray true).wpIn (Fence.wide.inRound l) n P Q a w :=
  wpIn_region_any hm (wpAnyIn_round hd hout _ _ _ _ h)
end
end Go.Lw
