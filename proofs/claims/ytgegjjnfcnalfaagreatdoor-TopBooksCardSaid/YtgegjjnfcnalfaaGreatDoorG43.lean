/- Of the proof of TopBooks: TC. -/
import Derived.Test.YtgegjjnfcnalfaaGreatDoorG42
import Derived.Deep.LoopGhost
namespace Go.Proofs.YtgegjjnfcnalfaaGreatDoor
open Go Go.RowKit Go.Lw
set_option maxRecDepth 100000
set_option linter.unusedVariables false
set_option linter.unusedSimpArgs false
attribute [local go_sem] BA_toList
abbrev mC (m : Mk) : Obj := .cells #[.int .u32 (m.a : Int), .int .u32 (m.b : Int), .int .u32 (m.c : Int)] 42 (0, 0)
def IsRow (b0 : Nat) (cs : List Cmd) (v : Value) (w : World) : Prop := (∃ ad n cap, v = .slice ad n cap) ∧ RowC w v cs ∧ ∀ k, blk v k → b0 ≤ k
def stRow (b0 : Nat) (cs : List Cmd) : Stable := ⟨IsRow b0 cs, fun _ _ _ hk h => ⟨h.1, own_kept hk h.2.1 (fun _ _ h => h), h.2.2⟩⟩
def stSt (b0 : Nat) (st : Int) (o : Option (List UInt8)) : Stable := ⟨fun v w => ∃ g, v = .pointer (some ⟨g, 0, none⟩) ∧ StAt w (fun b => b0 ≤ b) g st o, fun _ _ _ hk ⟨g, h1, h2⟩ => ⟨g, h1, h2.kept hk (fun _ _ h => h)⟩⟩
def stMk (b0 : Nat) : Stable := ⟨fun v w => ∃ b, v = .pointer (some ⟨b, 0, none⟩) ∧ w.heap[b]? = some (mC ⟨0, 0, 0⟩) ∧ b0 ≤ b, fun _ _ _ hk ⟨b, h1, h2, h3⟩ => ⟨b, h1, hk.heap h2 (fun h => h), h3⟩⟩
theorem isRow {w : World} {v : Value} {cs : List Cmd} {b0 : Nat} (h : RowC w v cs) (hb : ∀ k, blk v k → b0 ≤ k) : IsRow b0 cs v w := by
  obtain ⟨ad, cap, he, _⟩ := own_slice h
  exact ⟨⟨ad, _, cap, he⟩, h, hb⟩
theorem row_ne {w : World} {v : Value} {cs : List Cmd} {b : Nat} {m : Mk} (h : RowC w v cs) (hb : w.heap[b]? = some (mC m)) : ¬ blk v b := fun e => by
  rcases h.2 with ⟨hv, _⟩ | ⟨g, cap, cur, hv, _, hg, _⟩
  · rw [hv] at e; cases e
  · rw [hv] at e
    have : g = b := by cases e; rfl
    rw [this, hb] at hg
    simp at hg
def stB (J : Jr) : List UInt8 := stateB J.st.toNat J.v
theorem sb_of (w : World) (F : Nat → Prop) (g : Nat) (J : Jr) (n : Nat) (hb : Bnd n J) (h : StAt w F g J.st J.v) : Calls Tryz.prog 10 #[.pointer (some ⟨g, 0, none⟩)] w fun e w' => ∃ v, e = .returned v ∧ IsOwn w.heap.size (stB J) v w' ∧ Kept (fun _ => False) w w' := by
  obtain ⟨s, hs, hs2⟩ := hb.st
  have e : stB J = stateB s J.v := by unfold stB; rw [hs]; rfl
  rw [e]
  rw [hs] at h
  exact sbytes_any w F g s J.v h hs2 (fun t ht => by have := hb.v t ht; omega)
theorem App_cap (D : Dsk) (rs : List Rc) (r : Rc) : (App D rs r).cap = D.cap := rfl
theorem torn_cap (D : Dsk) (rs : List Rc) (r : Rc) (n : Nat) : (tornD D rs r n).cap = D.cap := rfl
theorem DPost.go {w w' : World} {g lo : Nat} {v : Value} {D : Dsk} (h : DPost w w' g v D) (hg : lo ≤ g) (hv : ∀ k, blk v k → lo ≤ k) (hl : lo ≤ w.heap.size) : ∃ v', DiskAt w' g v' D ∧ (∀ k, blk v' k → lo ≤ k) ∧ Kept (fun k => lo ≤ k) w w' := by
  obtain ⟨v', h1, h2, h3⟩ := h
  exact ⟨v', h1, fun k hk => (h3 k hk).elim (hv k) (fun h => Nat.le_trans hl h), h2.mono (fun k _ h => h.elim (fun e => by rw [e]; exact hg) (hv k))⟩
set_option maxHeartbeats 64000000 in
theorem topbooks_any (w0 : World) (x : Value) (l : List A7) (hx : Rd w0 5 x l.length (l.flatMap A7.cells)) (he : Env w0) :
    Calls Tryz.prog 3 #[x] w0 fun e w' => e = .returned (.bool true) ∧ Kept (fun _ => False) w0 w' := by
  obtain ⟨adx, capx, rfl, hx1, hx2⟩ : ∃ adx capx, x = .slice adx l.length capx ∧ l.length ≤ capx ∧ capx ≤ maxLen := by
    obtain ⟨_, a, c, h, h1, h2, _⟩ := hx
    exact ⟨a, c, h, h1, h2⟩
  have HX := Lw.hid hx; have HE := Lw.hid he
  obtain ⟨nl, hnl⟩ : ∃ nl, l.length = nl := ⟨_, rfl⟩
  have HNL := Lw.hid hnl
  rw [hnl] at HX hx1 ⊢
  clear hx he hnl
  go_enter Tryz.func3, Tryz.ntmps3
  go_wp2_with fail
  go_step3
  go_wp2_with fail
  refine (dnew_any w0 100000 (by decide)).mono ?_
  rintro e w1 ⟨g, rfl, hd1, k1, hg0⟩
  have D1 := Lw.hid hd1; have K1 := Lw.hid k1
  have hgl := heap_lt hd1.box
  clear hd1 k1
  go_wp2_with fail
  refine (open_env w0 w1 HE.out K1.out g _ _ [] [] 0 D1.out hg0 (fun k hk => (blk_none hk).elim) (new_rdt 100000 (by decide)) dead_nil (by decide) (by decide) (by decide)).mono ?_
  rintro e w2 ⟨v2, j, BL, D2, m2, rfl, hj2, hr2, hc2, k2, f2, hs2⟩
  obtain rfl := hs2 rfl rfl
  have K2 : Hid (Kept (fun _ => False) w0 w2) := Lw.hid (K1.out.trans k2 (fun i hi e => by rcases e with e | e; omega; exact (blk_none e).elim))
  have J2 : Hid (JL w2 (fun k => w0.heap.size ≤ k ∧ k < w2.heap.size) j BL g v2 ⟨100000, [], 0, false, false, 0, 0⟩ []) := Lw.hid (hj2.mono (fun i hi h => by
    have hz1 := K1.out.size
    refine ⟨?_, hi⟩
    rcases h with h | h | h
    · omega
    · exact (blk_none h).elim
    · omega))
  clear hj2 hr2 hc2 k2 f2 hs2
  go_wp2_with fail
  go_step3
  go_wp2_with fail
  have hfew := few_any w2 (.slice adx nl capx) l (by have := Rd.kept K2.out HX.out (fun _ _ h => h); rw [HNL.out]; exact this)
  refine hfew.mono ?_
  rintro e w3 ⟨va, rfl, ho3, k3, hb3⟩
  obtain ⟨na, hna⟩ : ∃ na, (few7 l).length = na := ⟨_, rfl⟩
  have hna10 : na ≤ 10 := by rw [← hna]; exact few7_len l
  rw [hna] at ho3
  obtain ⟨ada, capa, rfl, ha1, ha2, ha3⟩ := own_slice ho3
  have O3 := Lw.hid ho3; have B3 := Lw.hid hb3; have K3 := Lw.hid (K2.out.trans k3 (fun _ _ h => h)); have HA3 := Lw.hid ha3; have HNA := Lw.hid hna
  have J3 := Lw.hid (J2.out.kept k3 (fun _ _ h => h))
  have hz23 := k3.size; have hz02 := K2.out.size
  unfold maxLen at ha2
  clear hfew ho3 hb3 k3 ha3 hna
  go_wp2_with fail
  go_loopg [46] na (fun gk s wr => ∃ (k : Nat) (v : Value) (D : Dsk) (rs : List Rc), gk = na - k ∧ k ≤ na ∧ s = .int .i64 (k : Int) ∧ JL wr (fun i => (w0.heap.size ≤ i ∧ i < w2.heap.size) ∨ w3.heap.size ≤ i) j BL g v D rs ∧ Rdy (2 + k) D rs ∧ rs.length ≤ k ∧ D.cap = 100000 ∧ Kept (fun i => w0.heap.size ≤ i ∧ i < w2.heap.size) w3 wr)
  case atStart => exact ⟨0, v2, _, [], rfl, Nat.zero_le _, rfl, J3.out.mono (fun i _ h => .inl h), (new_rdt 100000 (by decide)).y.mono (by decide) (by decide), Nat.le_refl _, rfl, Kept.refl _ _⟩
  case round =>
    obtain ⟨k, v, D, rs, rfl, hk, rfl, hj, hrd, hrl, hcap, hkr⟩ := hrel
    have RD := Lw.hid hrd; have KR := Lw.hid hkr; have HCAP := Lw.hid hcap
    have KW : Hid (Kept (fun _ => False) w0 wr) := Lw.hid (K3.out.trans hkr (fun i hi e => by omega))
    have hzr := hkr.size
    have JR : Hid (JL wr (fun i => ((w0.heap.size ≤ i ∧ i < w2.heap.size) ∨ w3.heap.size ≤ i) ∧ i < wr.heap.size) j BL g v D rs) := Lw.hid (hj.mono (fun i hi h => ⟨h, hi⟩))
    clear hj hrd hkr hcap
    by_cases hlt : k < na
    · obtain ⟨ga, rfl⟩ := HA3.out (by omega)
      obtain ⟨a, hae⟩ : ∃ a, (few7 l)[k]? = some a := ⟨_, List.getElem?_eq_getElem (by rw [HNA.out]; exact hlt)⟩
      have hta : a.t.length ≤ 60 := few7_short (List.mem_of_getElem? hae)
      have hka : k < (few7 l).length := by rw [HNA.out]; exact hlt
      have hag : (few7 l)[k] = a := by rw [List.getElem?_eq_getElem hka] at hae; exact Option.some.inj hae
      have q : ∀ i, i < 5 → wr.cell? ⟨ga, k * 5 + i, none⟩ = a.cells[i]? := fun i hi => by
        rw [(own_kept KR.out O3.out (fun b hb e => by have := B3.out b hb; omega)).cellAt _ (by omega), flatMap_get A7.cells 5 _ (fun _ _ => rfl) k hka i hi, hag]
      have q0 := q 0 (by decide); have q1 := q 1 (by decide); have q2 := q 2 (by decide); have q3 := q 3 (by decide); have q4 := q 4 (by decide)
      simp only [A7.cells, List.getElem?_cons_zero, List.getElem?_cons_succ, Nat.add_zero] at q0 q1 q2 q3 q4
      have i0 : (0 : Int) ≤ (k : Int) := by omega
      have i1 : (k : Int) < (na : Int) := by omega
      have hkn : k + 1 ≤ na := hlt
      have HBD := Lw.hid RD.out.good.bnd
      have HLR : Hid ((runJ rs).cs.length ≤ 1000) := Lw.hid (by have := runJ_len rs; omega)
      clear hae hka hag q
      go_wp2_with fail
      obtain ⟨wa, hwa⟩ : ∃ wa, wr.alloc (.cells #[.int .i64 a.what, .int .i64 a.ch, .int .i64 a.many, .int .i64 a.bytes, .string (BA a.t)] 32) = wa := ⟨_, rfl⟩
      obtain ⟨ba, hba⟩ : ∃ ba, wr.heap.size = ba := ⟨_, rfl⟩
      have ka : Kept (fun _ => False) wr wa := by rw [← hwa]; exact (Kept.refl _ wr).alloc _
      have HBA : Hid (wa.heap[ba]? = some (.cells #[.int .i64 a.what, .int .i64 a.ch, .int .i64 a.many, .int .i64 a.bytes, .string (BA a.t)] 32 (0, 0))) := Lw.hid (by rw [← hwa, ← hba]; exact heap_alloc wr _)
      have KA := Lw.hid ka
      rw [hwa, hba]
      have HBE := Lw.hid hba
      clear hwa hba ka q0 q1 q2 q3 q4
      have hD9 : D.b.length ≤ 1048576 := Nat.le_trans RD.out.hold.m RD.out.hold.c
      refine (dcopy_any wa g v D (JR.out.l.d.kept KA.out (fun h => h) (fun _ _ h => h)) hD9).mono ?_
      rintro e w4 ⟨g1, v1, rfl, hd4, k4, hg4, hv4⟩
      have AH4 := Lw.hid hd4; have KA4 := Lw.hid (KA.out.trans k4 (fun _ _ h => h)); have HBA4 := Lw.hid (k4.heap HBA.out (fun h => h))
      have HV4 := Lw.hid hv4; have KA4b := Lw.hid k4.size
      have hzwa : wr.heap.size ≤ wa.heap.size := KA.out.size
      clear hd4 k4 hv4
      go_wp2_with fail
      obtain ⟨F4, va4, sp4, ja4, -, -⟩ := (JR.out.kept KA4.out (fun _ _ h => h)).m
      refine (commands_any w4 F4 j BL sp4 va4 _ ja4 HLR.out).mono ?_
      rintro e w5 ⟨vw, rfl, hw5, hb5, k5⟩
      obtain ⟨adw0, nw0, cw0, hew⟩ := (isRow hw5 hb5).1
      subst hew
      have HWB : Hid (∀ b, blk (.slice adw0 nw0 cw0) b → wa.heap.size ≤ b) := Lw.hid (fun b hb => Nat.le_trans (KA4b.out) (hb5 b hb))
      have WAS5 := Lw.hid hw5; have KA5 := Lw.hid (KA4.out.trans k5 (fun _ _ h => h)); have AH5 := Lw.hid (AH4.out.kept k5 (fun h => h) (fun _ _ h => h)); have HBA5 := Lw.hid (k5.heap HBA4.out (fun h => h))
      clear hw5 hb5 k5 ja4
      go_wp2_with fail
      obtain ⟨F5, va5, sp5, ja5, -, -⟩ := (JR.out.kept KA5.out (fun _ _ h => h)).m
      refine (jstate_any w5 F5 j BL sp5 va5 _ ja5).mono ?_
      rintro e w6 ⟨gs6, rfl, hs6, k6⟩
      have S6 := Lw.hid hs6; have KA6 := Lw.hid (KA5.out.trans k6 (fun _ _ h => h)); have AH6 := Lw.hid (AH5.out.kept k6 (fun h => h) (fun _ _ h => h)); have HBA6 := Lw.hid (k6.heap HBA5.out (fun h => h)); have WAS6 := Lw.hid (own_kept k6 WAS5.out (fun _ _ h => h))
      clear hs6 k6 ja5
      go_wp2_with fail
      refine (sb_of w6 _ gs6 _ _ HBD.out S6.out).mono ?_
      rintro e w7 ⟨vs, rfl, ⟨ho7, hb7⟩, k7⟩
      obtain ⟨ads, cs9, hes, _⟩ := own_slice ho7
      obtain ⟨ns, hns⟩ : ∃ ns, (stB (runJ rs)).length = ns := ⟨_, rfl⟩
      rw [hns] at hes
      subst hes
      have HSB : Hid (∀ b, blk (.slice ads ns cs9) b → wr.heap.size ≤ b) := Lw.hid (fun b hb => Nat.le_trans KA6.out.size (hb7 b hb))
      have ST7 : Hid (RdB w7 (.slice ads ns cs9) (stB (runJ rs))) := Lw.hid (RdB.of_own ho7 rfl)
      have KA7 := Lw.hid (KA6.out.trans k7 (fun _ _ h => h)); have AH7 := Lw.hid (AH6.out.kept k7 (fun h => h) (fun _ _ h => h)); have HBA7 := Lw.hid (k7.heap HBA6.out (fun h => h)); have WAS7 := Lw.hid (own_kept k7 WAS6.out (fun _ _ h => h))
      clear ho7 k7 hns hb7
      go_wp2_with fail
      obtain ⟨F7, va7, sp7, ja7, -, -⟩ := (JR.out.kept KA7.out (fun _ _ h => h)).m
      refine (jmarked_any w7 F7 j BL sp7 va7 _ ja7).mono ?_
      rintro e w8 ⟨rfl, k8⟩
      have KA8 := Lw.hid (KA7.out.trans k8 (fun _ _ h => h)); have AH8 := Lw.hid (AH7.out.kept k8 (fun h => h) (fun _ _ h => h)); have HBA8 := Lw.hid (k8.heap HBA7.out (fun h => h)); have WAS8 := Lw.hid (own_kept k8 WAS7.out (fun _ _ h => h)); have ST8 := Lw.hid (ST7.out.kept k8 (fun _ _ h => h))
      clear k8 ja7
      go_wp2_with fail
      obtain ⟨w9, hw9⟩ : ∃ w9, w8.alloc (.cells #[.int .u32 ((runJ rs).mark.a : Int), .int .u32 ((runJ rs).mark.b : Int), .int .u32 ((runJ rs).mark.c : Int)] 42) = w9 := ⟨_, rfl⟩
      obtain ⟨b11, hb11⟩ : ∃ b11, w8.heap.size = b11 := ⟨_, rfl⟩
      have k9 : Kept (fun _ => False) w8 w9 := by rw [← hw9]; exact (Kept.refl _ w8).alloc _
      have B11 : Hid (w9.heap[b11]? = some (mC (runJ rs).mark)) := Lw.hid (by rw [← hw9, ← hb11]; exact heap_alloc w8 _)
      have KA9 := Lw.hid (KA8.out.trans k9 (fun _ _ h => h)); have AH9 := Lw.hid (AH8.out.kept k9 (fun h => h) (fun _ _ h => h)); have HBA9 := Lw.hid (k9.heap HBA8.out (fun h => h)); have WAS9 := Lw.hid (own_kept k9 WAS8.out (fun _ _ h => h)); have ST9 := Lw.hid (ST8.out.kept k9 (fun _ _ h => h))
      rw [hw9, hb11]
      have HB11 := Lw.hid hb11
      have hzb11 : wr.heap.size ≤ b11 := by rw [← hb11]; exact KA8.out.size
      clear hw9 hb11 k9
      have JR9 := Lw.hid (JR.out.kept KA9.out (fun _ _ h => h))
      obtain ⟨LD, hLD⟩ : ∃ LD, D.b.length = LD := ⟨_, rfl⟩
      have HLD := Lw.hid hLD
      have hLD9 : LD ≤ 1048576 := by omega
      refine (dend_any w9 g v D JR9.out.l.d).mono ?_
      rw [HLD.out]
      rintro e _ ⟨rfl, rfl⟩
      clear hLD hD9
      have qa0 := heap_cell HBA9.out 0; have qa1 := heap_cell HBA9.out 1; have qa2 := heap_cell HBA9.out 2; have qa3 := heap_cell HBA9.out 3; have qa4 := heap_cell HBA9.out 4
      go_wp2_with fail
      have hz9 := KA9.out.size
      refine (does_all w9 _ j BL g v D rs (2 + k) JR9.out RD.out (HE.out.tabK (KW.out.trans KA9.out (fun _ _ h => h))) (by rw [HCAP.out]; omega) (by omega) (by omega) (fun i hi => Nat.lt_of_lt_of_le hi.2 hz9) a hta).mono ?_
      rintro e w10 ⟨b, rfl, hres⟩
      rcases hres with ⟨rfl, k10⟩ | ⟨rfl, r, hfit, v10, hj10, k10⟩
      · have K10 := Lw.hid (KA9.out.trans k10 (fun _ _ h => h))
        clear k10 qa0 qa1 qa2 qa3 qa4
        go_wp2_with fail
        go_roundg (na - (k + 1))
        case measure => omega
        case rel => exact ⟨k + 1, v, D, rs, rfl, hkn, by go_num, (JR.out.kept K10.out (fun _ _ h => h)).mono (fun i _ h => h.1), RD.out.mono (by omega) (by omega), by omega, HCAP.out, KR.out.trans K10.out (fun _ _ h => h.elim)⟩
      · have HFIT := Lw.hid hfit
        obtain ⟨hap, hrd10⟩ := RD.out.app hfit (by rw [HCAP.out]; omega) (by omega) (by omega)
        have RD10 := Lw.hid hrd10
        have hblen := bytes_len hfit
        obtain ⟨M, hM⟩ : ∃ M, 10 + r.bytes.length = M := ⟨_, rfl⟩
        have HM := Lw.hid hM
        have hM1 : 15 ≤ M ∧ M ≤ 89 := by omega
        obtain ⟨hrdx, hlenx⟩ := app_rd (r := r) RD.out
        have HRDX := Lw.hid hrdx
        have hz10 := k10.size
        have keepB : ∀ i, wr.heap.size ≤ i → ¬ (((w0.heap.size ≤ i ∧ i < w2.heap.size) ∨ w3.heap.size ≤ i) ∧ i < wr.heap.size) := fun i h1 h2 => by omega
        have hzwr4 : wr.heap.size ≤ wa.heap.size := hzwa
        have JR10 := Lw.hid (hj10.mono (C := fun i => ((w0.heap.size ≤ i ∧ i < w2.heap.size) ∨ w3.heap.size ≤ i)) (fun i _ h => h.elim (fun h => h.1) (fun h => .inr (by omega))))
        have AH10 := Lw.hid (AH9.out.kept k10 (keepB g1 (by omega)) (fun i hi => keepB i (by have := HV4.out i hi; omega)))
        have KR10 : Hid (Kept (fun i => w0.heap.size ≤ i ∧ i < w2.heap.size) w3 w10) := Lw.hid ((KR.out.trans KA9.out (fun _ _ h => h.elim)).trans k10 (fun i hi h => by rcases h.1 with h | h; exact h; omega))
        have KW10 : Hid (Kept (fun _ => False) w0 w10) := Lw.hid ((KW.out.trans KA9.out (fun _ _ h => h)).trans k10 (fun i hi h => by omega))
        have HBD2 := Lw.hid RD10.out.good.bnd
        have HLR2 : Hid ((runJ (rs ++ [r])).cs.length ≤ 1000) := Lw.hid (by have := runJ_len (rs ++ [r]); simp at this; omega)
        have WAS10 := Lw.hid (own_kept k10 WAS9.out (fun b hb => keepB b (by have := HWB.out b hb; omega)))
        have ST10 := Lw.hid (ST9.out.kept k10 (fun b hb => keepB b (by have := HSB.out b hb; omega)))
        have B11_10 := Lw.hid (k10.heap B11.out (keepB b11 hzb11))
        have KZ10 : wr.heap.size ≤ w10.heap.size := by omega
        clear hap hrd10 hfit hj10 k10 hrdx hM qa0 qa1 qa2 qa3 qa4
        go_wp2_with fail
        obtain ⟨F1, va1, sp1, ja1, -, -⟩ := JR10.out.m
        refine (commands_any w10 F1 j BL sp1 va1 _ ja1 HLR2.out).mono ?_
        rintro e x1 ⟨vn, rfl, hn1, hnb, kx1⟩
        obtain ⟨adn0, nn0, cn0, hen⟩ := (isRow hn1 hnb).1
        subst hen
        have NOW1 := Lw.hid hn1; have KX1 := Lw.hid kx1
        clear hn1 hnb kx1 ja1
        go_wp2_with fail
        obtain ⟨F2, va2, sp2, ja2, -, -⟩ := (JR10.out.kept KX1.out (fun _ _ h => h)).m
        refine (jstate_any x1 F2 j BL sp2 va2 _ ja2).mono ?_
        rintro e x2 ⟨gs2, rfl, hs2, kx2⟩
        have S2 := Lw.hid hs2; have KX2 := Lw.hid (KX1.out.trans kx2 (fun _ _ h => h)); have NOW2 := Lw.hid (own_kept kx2 NOW1.out (fun _ _ h => h))
        clear hs2 kx2 ja2
        go_wp2_with fail
        refine (sb_of x2 _ gs2 _ _ HBD2.out S2.out).mono ?_
        rintro e x3 ⟨vt, rfl, ⟨hot, -⟩, kx3⟩
        obtain ⟨adt0, ct0, het, _⟩ := own_slice hot
        obtain ⟨nt0, hnt⟩ : ∃ nt0, (stB (runJ (rs ++ [r]))).length = nt0 := ⟨_, rfl⟩
        rw [hnt] at het
        subst het
        have TH3 : Hid (RdB x3 (.slice adt0 nt0 ct0) (stB (runJ (rs ++ [r])))) := Lw.hid (RdB.of_own hot rfl)
        have KX3 := Lw.hid (KX2.out.trans kx3 (fun _ _ h => h)); have NOW3 := Lw.hid (own_kept kx3 NOW2.out (fun _ _ h => h))
        clear hot kx3 hnt
        go_wp2_with fail
        obtain ⟨F3, va3, sp3, ja3, -, -⟩ := (JR10.out.kept KX3.out (fun _ _ h => h)).m
        refine (jmarked_any x3 F3 j BL sp3 va3 _ ja3).mono ?_
        rintro e x4 ⟨rfl, kx4⟩
        have KX4 := Lw.hid (KX3.out.trans kx4 (fun _ _ h => h)); have NOW4 := Lw.hid (own_kept kx4 NOW3.out (fun _ _ h => h)); have TH4 := Lw.hid (TH3.out.kept kx4 (fun _ _ h => h))
        clear kx4 ja3
        go_wp2_with fail
        obtain ⟨x5, hx5⟩ : ∃ x5, x4.alloc (.cells #[.int .u32 ((runJ (rs ++ [r])).mark.a : Int), .int .u32 ((runJ (rs ++ [r])).mark.b : Int), .int .u32 ((runJ (rs ++ [r])).mark.c : Int)] 42) = x5 := ⟨_, rfl⟩
        obtain ⟨b15, hb15⟩ : ∃ b15, x4.heap.size = b15 := ⟨_, rfl⟩
        have kx5 : Kept (fun _ => False) x4 x5 := by rw [← hx5]; exact (Kept.refl _ x4).alloc _
        have B15 : Hid (x5.heap[b15]? = some (mC (runJ (rs ++ [r])).mark)) := Lw.hid (by rw [← hx5, ← hb15]; exact heap_alloc x4 _)
        have KX5 := Lw.hid (KX4.out.trans kx5 (fun _ _ h => h)); have NOW5 := Lw.hid (own_kept kx5 NOW4.out (fun _ _ h => h)); have TH5 := Lw.hid (TH4.out.kept kx5 (fun _ _ h => h))
        rw [hx5, hb15]
        clear hx5 hb15 kx5
        have JX5 := Lw.hid (JR10.out.kept KX5.out (fun _ _ h => h)); have AHX := Lw.hid (AH10.out.kept KX5.out (fun h => h) (fun _ _ h => h)); have WASX := Lw.hid (own_kept KX5.out WAS10.out (fun _ _ h => h)); have STX := Lw.hid (ST10.out.kept KX5.out (fun _ _ h => h)); have B11X := Lw.hid (KX5.out.heap B11_10.out (fun h => h)); have KWX := Lw.hid (KW10.out.trans KX5.out (fun _ _ h => h))
        refine (dend_any x5 g v10 _ JX5.out.l.d).mono ?_
        have hlm : (App D rs r).b.length = LD + M := by rw [hlenx, HLD.out, ← HM.out, Nat.add_assoc]
        have HLM := Lw.hid hlm
        rw [hlm]
        rintro e _ ⟨rfl, rfl⟩
        have em : ((LD + M : Nat) : Int) - (LD : Int) = (M : Int) := by omega
        have m1 : decide ((M : Int) < 1) = false := by simp; omega
        clear hlenx hlm
        go_wp2_with fail
        refine (dend_any x5 g1 v1 D AHX.out).mono ?_
        rw [HLD.out]
        rintro e _ ⟨rfl, rfl⟩
        go_wp2_with fail
        rw [show (LD : Int) + (M : Int) - (LD : Int) = (M : Int) by omega]
        have KWL := Lw.hid KWX.out.size
        have hz0x : w0.heap.size ≤ x5.heap.size := KWX.out.size
        clear em m1
        obtain ⟨wo, rfl⟩ : ∃ wo : World, wo = wr := ⟨_, rfl⟩
        go_loopg [84] 92 (fun gk s wr => ∃ q : Nat, gk = 92 - q ∧ q ≤ 92 ∧ s = .int .i64 (q : Int) ∧ Kept (fun _ => False) x5 wr)
        case atStart => exact ⟨0, rfl, by decide, rfl, Kept.refl _ _⟩
        case round =>
          obtain ⟨q, rfl, hq, rfl, hkq⟩ := hrel
          have KQ := Lw.hid hkq
          have hzq : x5.heap.size ≤ wr.heap.size := hkq.size
          clear hkq
          by_cases hq92 : q < 92
          · have hD9 : D.b.length ≤ 1048576 := by rw [HLD.out]; exact hLD9
            have HSTEP := fun n => torn_steps RD.out HFIT.out (by rw [HCAP.out]; omega) n
            have hqd : decide ((q : Int) < 92) = true := by simp; omega
            go_wp2_with fail
            refine (dcopy_any wr g1 v1 D (AHX.out.kept KQ.out (fun h => h) (fun _ _ h => h)) hD9).mono ?_
            rintro e y1 ⟨gc, vc, rfl, hc1, ky1, hgc, hvc⟩
            have C1 := Lw.hid hc1; have KY1 := Lw.hid ky1; have HVC := Lw.hid hvc
            have hzy1 := ky1.size
            clear hc1 ky1 hvc hD9
            go_wp2_with fail
            refine (dplan_any y1 gc vc D C1.out 0 (q : Int)).mono ?_
            rw [(HSTEP q).2.1]
            rintro e y2 ⟨rfl, hp2⟩
            obtain ⟨vc2, hc2, hv2, ky2⟩ := hp2.go (lo := wr.heap.size) hgc HVC.out hzy1
            have C2 := Lw.hid hc2; have HV2 := Lw.hid hv2
            have KY2 : Hid (Kept (fun _ => False) wr y2) := Lw.hid (KY1.out.trans ky2 (fun i hi h => by omega))
            have hzy2 : wr.heap.size ≤ y2.heap.size := KY2.out.size
            clear hp2 hc2 hv2 ky2
            by_cases hq91 : q = 91
            · subst hq91
              go_wp2_with fail
              refine (dplan_any y2 gc vc2 _ C2.out 0 (M : Int)).mono ?_
              rw [plan_again D _ _ RD.out.stop (by omega) (by omega)]
              rintro e y3 ⟨rfl, hp3⟩
              obtain ⟨vc3, hc3, hv3, ky3⟩ := hp3.go (lo := wr.heap.size) hgc HV2.out hzy2
              have C3 := Lw.hid hc3; have HV3 := Lw.hid hv3
              have KY3 : Hid (Kept (fun _ => False) wr y3) := Lw.hid (KY2.out.trans ky3 (fun i hi h => by omega))
              have hzy3 : wr.heap.size ≤ y3.heap.size := KY3.out.size
              clear hp3 hc3 hv3 ky3
              go_wp2_with fail
              have DD3 := Lw.hid ((JX5.out.l.d.kept KQ.out (fun h => h) (fun _ _ h => h)).kept KY3.out (fun h => h) (fun _ _ h => h))
              refine (dread_any y3 g v10 _ DD3.out (Nat.le_trans RD10.out.hold.m RD10.out.hold.c) (LD : Int) (M : Int) (by omega) (by omega)).mono ?_
              have hrr : (App D rs r).rd (LD : Int) (M : Int) = frm (pays rs) r.bytes := by have := HRDX.out; rw [HLD.out, HM.out] at this; exact this
              rw [hrr]
              rintro e y4 ⟨fr, rfl, hfr, ky4, hfb⟩
              obtain ⟨adf, capf, hef, _⟩ := own_slice hfr
              obtain ⟨nf, hnf⟩ : ∃ nf, (frm (pays rs) r.bytes).length = nf := ⟨_, rfl⟩
              rw [hnf] at hef
              subst hef
              have FR4 : Hid (RdB y4 (.slice adf nf capf) (frm (pays rs) r.bytes)) := Lw.hid (RdB.of_own hfr rfl)
              have HFB := Lw.hid hfb
              have C4 := Lw.hid (C3.out.kept ky4 (fun h => h) (fun _ _ h => h))
              have KY4 := Lw.hid (KY3.out.trans ky4 (fun _ _ h => h))
              have hc3l := heap_lt C3.out.box
              have HC3L := Lw.hid (own_lt C3.out.own)
              have hzy4 : wr.heap.size ≤ y4.heap.size := KY4.out.size
              have hok : ({ D with is := true, np := 0, nb := (M : Int) } : Dsk).ok := ⟨RD.out.ok.len, RD.out.ok.cap, RD.out.ok.puts, by show _ < (0 : Int); omega, by show (0 : Int) ≤ _; omega, fun _ => ⟨Int.le_refl _, by show (0 : Int) ≤ (M : Int); omega⟩, by show -1 < (M : Int) ∧ (M : Int) ≤ _; omega⟩
              have HOK := Lw.hid hok
              clear hfr ky4 hfb hnf hrr hok
              go_wp2_with fail
              refine (dput_any y4 gc vc3 _ C4.out HOK.out (LD : Int) (by omega) _ _ FR4.out (fun _ b hb => ⟨fun e => by have := HFB.out b hb; omega, fun e => by have := HFB.out b hb; have := HC3L.out b e; omega⟩)).mono ?_
              have hst := HSTEP M
              rw [HLD.out] at hst
              rw [hst.2.2.1]
              rintro e y5 ⟨rfl, hp5⟩
              obtain ⟨vc5, hc5, hv5, ky5⟩ := hp5.go (lo := wr.heap.size) hgc HV3.out hzy4
              have C5 := Lw.hid hc5; have HV5 := Lw.hid hv5
              have KY5 : Hid (Kept (fun _ => False) wr y5) := Lw.hid (KY4.out.trans ky5 (fun i hi h => by omega))
              have hzy5 : wr.heap.size ≤ y5.heap.size := KY5.out.size
              clear hp5 hc5 hv5 ky5
              go_wp2_with fail
              refine (drevive_any y5 gc vc5 _ C5.out).mono ?_
              rw [hst.2.2.2]
              rintro e y6 ⟨rfl, hp6⟩
              obtain ⟨vc6, hc6, hv6, ky6⟩ := hp6.go (lo := wr.heap.size) hgc HV5.out hzy5
              have C6 := Lw.hid hc6; have HV6 := Lw.hid hv6
              have KY6 : Hid (Kept (fun _ => False) wr y6) := Lw.hid (KY5.out.trans ky6 (fun i hi h => by omega))
              have hzy6 : wr.heap.size ≤ y6.heap.size := KY6.out.size
              have KW6 := Lw.hid ((KWX.out.trans KQ.out (fun _ _ h => h)).trans KY6.out (fun _ _ h => h))
              obtain ⟨htr, htd⟩ := torn_rdt RD.out HFIT.out (by rw [HCAP.out]; omega) (by omega) M
              have hRS : tornR rs r M = (rs ++ [r]) := by unfold tornR; rw [HM.out]; exact if_neg (by omega)
              rw [hRS] at htr
              have TR := Lw.hid htr; have TD := Lw.hid htd
              clear hp6 hc6 hv6 ky6 hst htr htd hRS HSTEP
              go_wp2_with fail
              have hlx : (rs ++ [r]).length ≤ 20 := by simp; omega
              refine (open_env w0 y6 HE.out KW6.out gc vc6 _ (rs ++ [r]) _ (2 + k) C6.out (by omega) (fun b hb => by have := HV6.out b hb; omega) TR.out TD.out (by rw [torn_cap, HCAP.out]; omega) (by omega) (by omega)).mono ?_
              rintro e y7 ⟨v7, kj, BLk, D7, m7, rfl, hj7, hr7, hc7, k7, f7, -⟩
              obtain ⟨FK, vak, spk, jk7, -, -⟩ := hj7.m
              obtain ⟨FK, hFKe⟩ : ∃ FK2, FK2 = FK := ⟨_, rfl⟩
              subst hFKe
              obtain ⟨FKx, vakx, spkx, jkx, hfx, -⟩ := hj7.m
              have JK7 := Lw.hid jkx; have HFX := Lw.hid hfx
              have C7 := Lw.hid hj7.l.d
              have HV7 : Hid (∀ b, blk v7 b → wr.heap.size ≤ b) := Lw.hid (fun b hb => (f7 b hb).elim (HV6.out b) (fun h => by omega))
              have KY7 : Hid (Kept (fun _ => False) wr y7) := Lw.hid (KY6.out.trans k7 (fun i hi e => by rcases e with e | e; omega; have := HV6.out i e; omega))
              have R7 := Lw.hid hr7; have HC7 := Lw.hid hc7
              have hzy7 : wr.heap.size ≤ y7.heap.size := KY7.out.size
              have HCL := Lw.hid (opnR_closed (rs ++ [r]))
              clear hj7 hr7 hc7 k7 f7 jk7 jkx hfx
              go_wp2_with fail
              refine (jbusy_any y7 FKx kj BLk spkx vakx _ JK7.out).mono ?_
              rw [HCL.out]
              rintro e _ ⟨rfl, rfl⟩
              obtain ⟨wz, hwz⟩ : ∃ wz, y7 = wz := ⟨_, rfl⟩
              rw [hwz] at JK7 C7 KY7 hzy7 ⊢
              clear hwz
              have KX7 := Lw.hid (KQ.out.trans KY7.out (fun _ _ h => h))
              have WASQ := Lw.hid (own_kept KX7.out WASX.out (fun _ _ h => h)); have WASQL := HLR
              have STQ := Lw.hid (STX.out.kept KX7.out (fun _ _ h => h)); have B11Q := Lw.hid (KX7.out.heap B11X.out (fun h => h))
              have NOWQ := Lw.hid (own_kept KX7.out NOW5.out (fun _ _ h => h)); have NOWQL := HLR2
              have THQ := Lw.hid ((TH5.out).kept KX7.out (fun _ _ h => h)); have B15Q := Lw.hid (KX7.out.heap B15.out (fun h => h))
              go_wp2_with fail
              refine wp_region_tail 7 [stV (.slice adw0 nw0 cw0), stRow wz.heap.size (cutC (runJ rs).cs), stV (.slice ads ns cs9), stV (.agg #[.int .u32 ((runJ rs).mark.a : Int), .int .u32 ((runJ rs).mark.b : Int), .int .u32 ((runJ rs).mark.c : Int)]), stMk wz.heap.size, stRow wz.heap.size (cutC (runJ rs).cs), stV (.slice ads ns cs9)] (by kernel_rfl) (by kernel_rfl) ?_ ?_
              · refine ssteps_cons (fun a' w' hI hag hf K hK => ?_) ?_
                · have s9 := hag.same 9 (by decide)
                  clear hag
                  go_wp2_with fail
                  exact hK _ _ hI (Kept.refl _ _) rfl
                refine ssteps_cons (fun a' w' hI hag hf K hK => ?_) ?_
                · obtain ⟨⟨_, h0, rfl⟩, -⟩ : SFacts _ _ a' w' [0] := hf
                  clear hag
                  have HI := Lw.hid hI
                  clear hI
                  go_wp2_with fail
                  refine (ccut_any w' _ _ (own_kept HI.out WASQ.out (fun _ _ h => h)) WASQL.out).mono ?_
                  rintro e w6 ⟨vq, rfl, hr6, hb6, k6⟩
                  have R6 := Lw.hid (isRow hr6 (b0 := wz.heap.size) (fun k hk => Nat.le_trans HI.out.size (hb6 k hk)))
                  have K6 := Lw.hid k6
                  clear hr6 hb6 k6
                  obtain ⟨ad6, n6, c6, he6⟩ := R6.out.1
                  subst he6
                  go_wp2_with fail
                  exact hK _ _ (HI.out.trans K6.out (fun _ _ h => h)) K6.out R6.out
                iterate 2
                  refine ssteps_cons (fun a' w' hI hag hf K hK => ?_) ?_
                  · have s10 := hag.same 10 (by decide)
                    have s11 := hag.same 11 (by decide)
                    clear hag
                    have hbx := hI.heap B11Q.out (fun h => h)
                    have cA := heap_cell hbx 0; have cB := heap_cell hbx 1; have cC := heap_cell hbx 2
                    clear hbx
                    go_wp2_with fail
                    exact hK _ _ hI (Kept.refl _ _) rfl
                refine ssteps_cons (fun a' w' hI hag hf K hK => ?_) ?_
                · clear hag
                  go_wp2_with fail
                  have kk : Kept (fun _ => False) w' (w'.alloc (mC ⟨0, 0, 0⟩)) := (Kept.refl _ w').alloc _
                  exact hK _ _ (hI.trans kk (fun _ _ h => h)) kk ⟨_, rfl, heap_alloc w' _, hI.size⟩
                refine ssteps_cons (fun a' w' hI hag hf K hK => ?_) ?_
                · obtain ⟨⟨v1, h1, e1⟩, -⟩ : SFacts _ _ a' w' [1, 0, 4] := hf
                  clear hag
                  obtain ⟨⟨ad1, n1, c1, he1⟩, hr1, hb1⟩ := e1
                  subst he1
                  have R1 := Lw.hid (show IsRow wz.heap.size (cutC (runJ rs).cs) (.slice ad1 n1 c1) w' from ⟨⟨_, _, _, rfl⟩, hr1, hb1⟩)
                  clear hr1 hb1
                  go_wp2_with fail
                  exact hK _ _ hI (Kept.refl _ _) R1.out
                refine ssteps_cons (fun a' w' hI hag hf K hK => ?_) ?_
                · obtain ⟨⟨_, h2, rfl⟩, -⟩ : SFacts _ _ a' w' [2, 5, 0, 1, 4] := hf
                  clear hag
                  go_wp2_with fail
                  exact hK _ _ hI (Kept.refl _ _) rfl
                exact trivial
              · intro vs wy hI hvs
                have q1 := hvs 1 _ _ rfl rfl
                have q4 := hvs 4 _ _ rfl rfl
                have q5 := hvs 5 _ _ rfl rfl
                simp only [pzz, putAll, Act.put, Nat.reduceAdd, spv (hvs 0 _ _ rfl rfl) rfl, spv (hvs 2 _ _ rfl rfl) rfl, spv (hvs 3 _ _ rfl rfl) rfl, spv (hvs 6 _ _ rfl rfl) rfl]
                clear hvs
                generalize vs 1 = x1 at *
                generalize vs 4 = x4 at *
                generalize vs 5 = x5 at *
                obtain ⟨⟨adw, nw, cw, hew⟩, hwr, hwb⟩ := q5
                subst hew
                obtain ⟨bm, rfl, hbm, hbl⟩ := q4
                have BM0 := Lw.hid hbm; have HWR0 := Lw.hid hwr; have KI0 := Lw.hid hI; have HBL0 := Lw.hid hbl; have HWB0 := Lw.hid hwb
                have hA := heap_set BM0.out 0 (.int .u32 ((runJ rs).mark.a : Int))
                have hB := heap_set hA 1 (.int .u32 ((runJ rs).mark.b : Int))
                have hC := heap_set hB 2 (.int .u32 ((runJ rs).mark.c : Int))
                simp only [List.setIfInBounds_toArray, List.set_cons_zero, List.set_cons_succ] at hA hB hC
                have j3 := heap_cell BM0.out 0; have f3 := heap_free BM0.out 0
                have j4 := heap_cell hA 1; have f4 := heap_free hA 1
                have j5 := heap_cell hB 2; have f5 := heap_free hB 2
                have ks := (((Kept.refl (fun k => k = bm) wy).set bm 0 (fun _ => rfl) (.int .u32 ((runJ rs).mark.a : Int))).set bm 1 (fun _ => rfl) (.int .u32 ((runJ rs).mark.b : Int))).set bm 2 (fun _ => rfl) (.int .u32 ((runJ rs).mark.c : Int))
                obtain ⟨wn1, hwn1⟩ : ∃ wn1, ((wy.setCell ⟨bm, 0, none⟩ (.int .u32 ((runJ rs).mark.a : Int))).setCell ⟨bm, 1, none⟩ (.int .u32 ((runJ rs).mark.b : Int))).setCell ⟨bm, 2, none⟩ (.int .u32 ((runJ rs).mark.c : Int)) = wn1 := ⟨_, rfl⟩
                rw [hwn1] at hC ks
                have BM := Lw.hid hC; have KMwn1 := Lw.hid ks; have HNwn1 := Lw.hid hwn1
                clear hA hB hC ks hwn1
                have WANT1 : Hid (RowC wn1 (.slice adw nw cw) (cutC (runJ rs).cs)) := Lw.hid (own_kept KMwn1.out HWR0.out (fun b hb e => row_ne HWR0.out BM0.out (by rw [← e]; exact hb)))
                have KN1 : Hid (Kept (fun _ => False) wz wn1) := Lw.hid (KI0.out.trans KMwn1.out (fun i hi e => by omega))
                have BM1 := BM
                have HWL1 : Hid (∀ b, blk (.slice adw nw cw) b → wz.heap.size ≤ b) := HWB0
                clear hI hwr hwb hbm BM q1
                go_wp2_with fail
                rw [HNwn1.out]
                clear j3 f3 j4 f4 j5 f5
                have NOW_1 := Lw.hid (own_kept KN1.out NOWQ.out (fun _ _ h => h)); have NOW_1L := HLR2; have B15_1 := Lw.hid (KN1.out.heap B15Q.out (fun h => h)); have BMZ := BM1
                refine wp_region_tail 6 [stV (.slice adn0 nn0 cn0), stRow wn1.heap.size (cutC (runJ (rs ++ [r])).cs), stV (.slice adt0 nt0 ct0), stV (.agg #[.int .u32 ((runJ (rs ++ [r])).mark.a : Int), .int .u32 ((runJ (rs ++ [r])).mark.b : Int), .int .u32 ((runJ (rs ++ [r])).mark.c : Int)]), stRow wn1.heap.size (cutC (runJ (rs ++ [r])).cs), stV (.slice adt0 nt0 ct0)] (by kernel_rfl) (by kernel_rfl) ?_ ?_
                · refine ssteps_cons (fun a' w' hI hag hf K hK => ?_) ?_
                  · have s13 := hag.same 13 (by decide)
                    clear hag
                    go_wp2_with fail
                    exact hK _ _ hI (Kept.refl _ _) rfl
                  refine ssteps_cons (fun a' w' hI hag hf K hK => ?_) ?_
                  · obtain ⟨⟨_, h0, rfl⟩, -⟩ : SFacts _ _ a' w' [0] := hf
                    clear hag
                    have HI := Lw.hid hI
                    clear hI
                    go_wp2_with fail
                    refine (ccut_any w' _ _ (own_kept HI.out NOW_1.out (fun _ _ h => h)) NOW_1L.out).mono ?_
                    rintro e w6 ⟨vq, rfl, hr6, hb6, k6⟩
                    have R6 := Lw.hid (isRow hr6 (b0 := wn1.heap.size) (fun k hk => Nat.le_trans HI.out.size (hb6 k hk)))
                    have K6 := Lw.hid k6
                    clear hr6 hb6 k6
                    obtain ⟨ad6, n6, c6, he6⟩ := R6.out.1
                    subst he6
                    go_wp2_with fail
                    exact hK _ _ (HI.out.trans K6.out (fun _ _ h => h)) K6.out R6.out
                  iterate 2
                    refine ssteps_cons (fun a' w' hI hag hf K hK => ?_) ?_
                    · have s14 := hag.same 14 (by decide)
                      have s15 := hag.same 15 (by decide)
                      clear hag
                      have hbx := hI.heap B15_1.out (fun h => h)
                      have cA := heap_cell hbx 0; have cB := heap_cell hbx 1; have cC := heap_cell hbx 2
                      clear hbx
                      go_wp2_with fail
                      exact hK _ _ hI (Kept.refl _ _) rfl
                  refine ssteps_cons (fun a' w' hI hag hf K hK => ?_) ?_
                  · obtain ⟨⟨v1, h1, e1⟩, -⟩ : SFacts _ _ a' w' [1, 0] := hf
                    clear hag
                    obtain ⟨⟨ad1, n1, c1, he1⟩, hr1, hb1⟩ := e1
                    subst he1
                    have R1 := Lw.hid (show IsRow wn1.heap.size (cutC (runJ (rs ++ [r])).cs) (.slice ad1 n1 c1) w' from ⟨⟨_, _, _, rfl⟩, hr1, hb1⟩)
                    clear hr1 hb1
                    go_wp2_with fail
                    exact hK _ _ hI (Kept.refl _ _) R1.out
                  refine ssteps_cons (fun a' w' hI hag hf K hK => ?_) ?_
                  · obtain ⟨⟨_, h2, rfl⟩, -⟩ : SFacts _ _ a' w' [2, 4, 0, 1] := hf
                    clear hag
                    go_wp2_with fail
                    exact hK _ _ hI (Kept.refl _ _) rfl
                  exact trivial
                · intro vs wy2 hI hvs
                  have q1 := hvs 1 _ _ rfl rfl
                  have q4 := hvs 4 _ _ rfl rfl
                  simp only [pzz, putAll, Act.put, Nat.reduceAdd, spv (hvs 0 _ _ rfl rfl) rfl, spv (hvs 2 _ _ rfl rfl) rfl, spv (hvs 3 _ _ rfl rfl) rfl, spv (hvs 5 _ _ rfl rfl) rfl]
                  clear hvs
                  generalize vs 1 = x1 at *
                  generalize vs 4 = x4 at *
                  obtain ⟨⟨adw, nw, cw, hew⟩, hwr, hwb⟩ := q4
                  subst hew
                  have hbm := hI.heap BMZ.out (fun h => h)
                  have BM0 := Lw.hid hbm; have HWR2 := Lw.hid hwr; have KI2 := Lw.hid hI; have HWB2 := Lw.hid hwb
                  have hA := heap_set BM0.out 0 (.int .u32 ((runJ (rs ++ [r])).mark.a : Int))
                  have hB := heap_set hA 1 (.int .u32 ((runJ (rs ++ [r])).mark.b : Int))
                  have hC := heap_set hB 2 (.int .u32 ((runJ (rs ++ [r])).mark.c : Int))
                  simp only [List.setIfInBounds_toArray, List.set_cons_zero, List.set_cons_succ] at hA hB hC
                  have j3 := heap_cell BM0.out 0; have f3 := heap_free BM0.out 0
                  have j4 := heap_cell hA 1; have f4 := heap_free hA 1
                  have j5 := heap_cell hB 2; have f5 := heap_free hB 2
                  have ks := (((Kept.refl (fun k => k = bm) wy2).set bm 0 (fun _ => rfl) (.int .u32 ((runJ (rs ++ [r])).mark.a : Int))).set bm 1 (fun _ => rfl) (.int .u32 ((runJ (rs ++ [r])).mark.b : Int))).set bm 2 (fun _ => rfl) (.int .u32 ((runJ (rs ++ [r])).mark.c : Int))
                  obtain ⟨wn2, hwn2⟩ : ∃ wn2, ((wy2.setCell ⟨bm, 0, none⟩ (.int .u32 ((runJ (rs ++ [r])).mark.a : Int))).setCell ⟨bm, 1, none⟩ (.int .u32 ((runJ (rs ++ [r])).mark.b : Int))).setCell ⟨bm, 2, none⟩ (.int .u32 ((runJ (rs ++ [r])).mark.c : Int)) = wn2 := ⟨_, rfl⟩
                  rw [hwn2] at hC ks
                  have BM := Lw.hid hC; have KMwn2 := Lw.hid ks; have HNwn2 := Lw.hid hwn2
                  clear hA hB hC ks hwn2
                  have WANTF : Hid (RowC wn2 (.slice adw nw cw) (cutC (runJ (rs ++ [r])).cs)) := Lw.hid (own_kept KMwn2.out HWR2.out (fun b hb e => row_ne HWR2.out BM0.out (by rw [← e]; exact hb)))
                  have KNF : Hid (Kept (fun _ => False) wz wn2) := Lw.hid ((KN1.out.trans KI2.out (fun _ _ h => h)).trans KMwn2.out (fun i hi e => by have := HBL0.out; omega))
                  have HWLF : Hid (∀ b, blk (.slice adw nw cw) b → wz.heap.size ≤ b) := Lw.hid (fun b hb => Nat.le_trans KN1.out.size (HWB2.out b hb))
                  have BMF := BM
                  clear hI hwr hwb hbm q1
                  go_wp2_with fail
                  rw [HNwn2.out]
                  clear j3 f3 j4 f4 j5 f5
                  have KYF : Hid (Kept (fun _ => False) wr wn2) := Lw.hid (KY7.out.trans KNF.out (fun _ _ h => h))
                  have CF := Lw.hid (C7.out.kept KNF.out (fun h => h) (fun _ _ h => h)); have JKF := Lw.hid (JK7.out.kept KNF.out (fun _ _ h => h))
                  have Kwn2 := Lw.hid ((KWX.out.trans KQ.out (fun _ _ h => h)).trans KYF.out (fun _ _ h => h))
                  have hlo : (opnR (rs ++ [r])).length ≤ 30 := by unfold opnR; split; omega; simp; omega
                  have hcl := heap_lt C7.out.box; have HCV := Lw.hid (own_lt C7.out.own)
                  refine (open_env w0 wn2 HE.out Kwn2.out gc v7 _ (opnR (rs ++ [r])) _ (2 + k + 2) CF.out (by omega) (fun b hb => by have := HV7.out b hb; omega) R7.out (.inr ⟨_, rfl⟩) (by rw [HC7.out, torn_cap, HCAP.out]; omega) (by omega) (by omega)).mono ?_
                  rintro e w8 ⟨v8, aj, BLa, D8, m8, rfl, hj8, -, -, k8, -, -⟩
                  rw [opnR_idem] at hj8
                  obtain ⟨FA, vaa, spa, ja8, -, -⟩ := hj8.m
                  have JA := Lw.hid ja8
                  have hzz := KNF.out.size
                  have JK := Lw.hid (JKF.out.kept k8 (fun b hb e => by have := HFX.out b hb; rcases e with e | e; exact this.2.2.1 e; exact this.2.2.2 e))
                  have WANT := Lw.hid (own_kept k8 WANTF.out (fun b hb e => by have := HWLF.out b hb; rcases e with e | e; omega; have := HCV.out b e; omega))
                  have BMZ := Lw.hid (k8.heap BMF.out (fun e => by have := HBL0.out; rcases e with e | e; omega; have := HCV.out _ e; omega))
                  have KY8 : Hid (Kept (fun _ => False) wr w8) := Lw.hid (KYF.out.trans k8 (fun i hi e => by rcases e with e | e; omega; have := HV7.out i e; omega))
                  have TOLD := Lw.hid (TH5.out.kept (KQ.out.trans KY8.out (fun _ _ h => h)) (fun _ _ h => h))
                  have HCS := Lw.hid (opnR_cs (rs ++ [r])); have HBX := Lw.hid TR.out.good.bnd
                  have HLK : Hid ((runJ (opnR (rs ++ [r]))).cs.length ≤ 1000) := Lw.hid (by have := runJ_len (opnR (rs ++ [r])); omega)
                  have HLC : Hid ((cutC (runJ (rs ++ [r])).cs).length ≤ 1000) := Lw.hid (by rw [← HCS.out.1]; exact HLK.out)
                  clear hj8 k8 ja8
                  go_wp2_with fail
                  refine wp_region_tail 30 [stV (.int .i64 0), stV (.bool false), stV (.bool false), stV (.pointer (some ⟨kj, 0, none⟩)), stRow w8.heap.size (cutC (runJ (rs ++ [r])).cs), stV (.slice adw nw cw), stV (.bool true), stV (.bool false), stV (.bool false), stV (.bool false), stV (.pointer (some ⟨kj, 0, none⟩)), stSt w8.heap.size (runJ (rs ++ [r])).st (runJ (rs ++ [r])).v, stOwn w8.heap.size (stB (runJ (rs ++ [r]))), stV (.slice adt0 nt0 ct0), stV (.bool true), stV (.bool false), stV (.bool false), stV (.bool false), stV (.pointer (some ⟨kj, 0, none⟩)), stV (.agg #[.int .u32 ((runJ (rs ++ [r])).mark.a : Int), .int .u32 ((runJ (rs ++ [r])).mark.b : Int), .int .u32 ((runJ (rs ++ [r])).mark.c : Int)]), stV (.agg #[.int .u32 ((runJ (rs ++ [r])).mark.a : Int), .int .u32 ((runJ (rs ++ [r])).mark.b : Int), .int .u32 ((runJ (rs ++ [r])).mark.c : Int)]), stV (.bool false), stV (.bool false), stV (.bool false), stV (.pointer (some ⟨aj, 0, none⟩)), stRow w8.heap.size (cutC (runJ (rs ++ [r])).cs), stV (.slice adw nw cw), stV (.bool true), stV (.bool false), stV (.bool false)] (by kernel_rfl) (by kernel_rfl) ?_ ?_
                  · iterate 4
                      refine ssteps_cons (fun a' w' hI hag hf K hK => ?_) ?_
                      · obtain ⟨⟨_, h0, rfl⟩, -⟩ := hf
                        have s19 := hag.same 19 (by decide)
                        have s25 := hag.same 25 (by decide)
                        clear hag
                        go_wp2_with fail
                        exact hK _ _ hI (Kept.refl _ _) rfl
                    refine ssteps_cons (fun a' w' hI hag hf K hK => ?_) ?_
                    · obtain ⟨⟨_, h3, rfl⟩, ⟨_, h2, rfl⟩, -⟩ : SFacts _ _ a' w' [3, 2] := hf
                      clear hag
                      have HI := Lw.hid hI
                      clear hI
                      go_wp2_with fail
                      refine (commands_any w' FKx kj BLk spkx vakx _ (JK.out.kept HI.out (fun _ _ h => h)) HLK.out).mono ?_
                      rw [HCS.out.1]
                      rintro e w7 ⟨vq, rfl, hr7, hb7, k7⟩
                      have R7 := Lw.hid (isRow hr7 (b0 := w8.heap.size) (fun k hk => Nat.le_trans HI.out.size (hb7 k hk)))
                      have K7 := Lw.hid k7
                      clear hr7 hb7 k7
                      obtain ⟨ad7, n7, c7, he7⟩ := R7.out.1
                      subst he7
                      go_wp2_with fail
                      exact hK _ _ (HI.out.trans K7.out (fun _ _ h => h)) K7.out R7.out
                    refine ssteps_cons (fun a' w' hI hag hf K hK => ?_) ?_
                    · obtain ⟨⟨_, h0, rfl⟩, -⟩ := hf
                      have s21 := hag.same 21 (by decide)
                      clear hag
                      go_wp2_with fail
                      exact hK _ _ hI (Kept.refl _ _) rfl
                    refine ssteps_cons (fun a' w' hI hag hf K hK => ?_) ?_
                    · obtain ⟨⟨v4, h4, e4⟩, ⟨_, h5, rfl⟩, ⟨_, h2, rfl⟩, -⟩ : SFacts _ _ a' w' [4, 5, 2] := hf
                      clear hag
                      obtain ⟨⟨ad1, n1, c1, he1⟩, hr1, hb1⟩ := e4
                      subst he1
                      have HR1 := Lw.hid hr1; have HI := Lw.hid hI
                      clear hr1 hb1 hI
                      go_wp2_with fail
                      refine (ceq_any w' _ _ _ HR1.out (own_kept HI.out WANT.out (fun _ _ h => h)) HLC.out).mono ?_
                      rintro e w7 ⟨rfl, k7⟩
                      have K7 := Lw.hid k7
                      clear k7
                      go_wp2_with fail
                      exact hK _ _ (HI.out.trans K7.out (fun _ _ h => h)) K7.out rfl
                    iterate 4
                      refine ssteps_cons (fun a' w' hI hag hf K hK => ?_) ?_
                      · obtain ⟨⟨_, h0, rfl⟩, ⟨_, h1, rfl⟩, -⟩ := hf
                        have s19 := hag.same 19 (by decide)
                        clear hag
                        go_wp2_with fail
                        exact hK _ _ hI (Kept.refl _ _) rfl
                    refine ssteps_cons (fun a' w' hI hag hf K hK => ?_) ?_
                    · obtain ⟨⟨_, h10, rfl⟩, ⟨_, h9, rfl⟩, -⟩ : SFacts _ _ a' w' [10, 9] := hf
                      clear hag
                      have HI := Lw.hid hI
                      clear hI
                      go_wp2_with fail
                      refine (jstate_any w' FKx kj BLk spkx vakx _ (JK.out.kept HI.out (fun _ _ h => h))).mono ?_
                      rw [HCS.out.2.1, HCS.out.2.2.1]
                      rintro e w7 ⟨gq, rfl, hs7, k7⟩
                      have S7 := Lw.hid (hs7.mono (G := fun b => w8.heap.size ≤ b) (fun b _ h => Nat.le_trans HI.out.size h)); have K7 := Lw.hid k7
                      clear hs7 k7
                      go_wp2_with fail
                      exact hK _ _ (HI.out.trans K7.out (fun _ _ h => h)) K7.out ⟨gq, rfl, S7.out⟩
                    refine ssteps_cons (fun a' w' hI hag hf K hK => ?_) ?_
                    · obtain ⟨⟨v11, h11, e11⟩, ⟨_, h9, rfl⟩, -⟩ : SFacts _ _ a' w' [11, 9] := hf
                      clear hag
                      obtain ⟨gq, rfl, hs7⟩ := e11
                      have S7 := Lw.hid hs7; have HI := Lw.hid hI
                      clear hs7 hI
                      go_wp2_with fail
                      refine (sb_of w' _ gq _ _ HBX.out S7.out).mono ?_
                      rintro e w7 ⟨vq, rfl, ⟨ho7, hb7⟩, k7⟩
                      have O7 := Lw.hid ho7; have B7 := Lw.hid hb7; have K7 := Lw.hid k7
                      obtain ⟨ad7, c7, he7, _⟩ := own_slice ho7
                      clear ho7 hb7 k7
                      obtain ⟨n7, hn7⟩ : ∃ n7, (stB (runJ (rs ++ [r]))).length = n7 := ⟨_, rfl⟩
                      rw [hn7] at he7
                      subst he7
                      go_wp2_with fail
                      exact hK _ _ (HI.out.trans K7.out (fun _ _ h => h)) K7.out ⟨O7.out, fun k hk => Nat.le_trans HI.out.size (B7.out k hk)⟩
                    refine ssteps_cons (fun a' w' hI hag hf K hK => ?_) ?_
                    · obtain ⟨⟨_, h0, rfl⟩, -⟩ := hf
                      have s22 := hag.same 22 (by decide)
                      clear hag
                      go_wp2_with fail
                      exact hK _ _ hI (Kept.refl _ _) rfl
                    refine ssteps_cons (fun a' w' hI hag hf K hK => ?_) ?_
                    · obtain ⟨⟨v12, h12, e12⟩, ⟨_, h13, rfl⟩, ⟨_, h9, rfl⟩, -⟩ : SFacts _ _ a' w' [12, 13, 9] := hf
                      clear hag
                      have ho7 := e12.1
                      obtain ⟨ad7, c7, he7, _⟩ := own_slice ho7
                      have O7 := Lw.hid ho7; have HI := Lw.hid hI
                      obtain ⟨n7, hn7⟩ : ∃ n7, (stB (runJ (rs ++ [r]))).length = n7 := ⟨_, rfl⟩
                      rw [hn7] at he7
                      subst he7
                      clear ho7 hI e12 hn7
                      go_wp2_with fail
                      refine (beq_any w' _ _ (stB (runJ (rs ++ [r]))) (RdB.of_own O7.out rfl) (TOLD.out.kept HI.out (fun _ _ h => h))).mono ?_
                      rintro e w7 ⟨rfl, rfl⟩
                      go_wp2_with fail
                      exact hK _ _ HI.out (Kept.refl _ _) rfl
                    iterate 4
                      refine ssteps_cons (fun a' w' hI hag hf K hK => ?_) ?_
                      · obtain ⟨⟨_, h0, rfl⟩, ⟨_, h1, rfl⟩, -⟩ := hf
                        have s19 := hag.same 19 (by decide)
                        clear hag
                        go_wp2_with fail
                        exact hK _ _ hI (Kept.refl _ _) rfl
                    refine ssteps_cons (fun a' w' hI hag hf K hK => ?_) ?_
                    · obtain ⟨⟨_, h18, rfl⟩, ⟨_, h17, rfl⟩, -⟩ : SFacts _ _ a' w' [18, 17] := hf
                      clear hag
                      have HI := Lw.hid hI
                      clear hI
                      go_wp2_with fail
                      refine (jmarked_any w' FKx kj BLk spkx vakx _ (JK.out.kept HI.out (fun _ _ h => h))).mono ?_
                      rw [HCS.out.2.2.2]
                      rintro e w7 ⟨rfl, k7⟩
                      have K7 := Lw.hid k7
                      clear k7
                      go_wp2_with fail
                      exact hK _ _ (HI.out.trans K7.out (fun _ _ h => h)) K7.out rfl
                    iterate 5
                      refine ssteps_cons (fun a' w' hI hag hf K hK => ?_) ?_
                      · obtain ⟨⟨_, h0, rfl⟩, ⟨_, h1, rfl⟩, ⟨_, h2, rfl⟩, -⟩ := hf
                        have s23 := hag.same 23 (by decide)
                        have s24 := hag.same 24 (by decide)
                        clear hag
                        have hbx := hI.heap BMZ.out (fun h => h)
                        have cA := heap_cell hbx 0; have cB := heap_cell hbx 1; have cC := heap_cell hbx 2
                        clear hbx
                        go_wp2_with fail
                        exact hK _ _ hI (Kept.refl _ _) rfl
                    refine ssteps_cons (fun a' w' hI hag hf K hK => ?_) ?_
                    · obtain ⟨⟨_, h24, rfl⟩, ⟨_, h23, rfl⟩, -⟩ : SFacts _ _ a' w' [24, 23] := hf
                      clear hag
                      have HI := Lw.hid hI
                      clear hI
                      go_wp2_with fail
                      refine (commands_any w' FA aj BLa spa vaa _ (JA.out.kept HI.out (fun _ _ h => h)) HLK.out).mono ?_
                      rw [HCS.out.1]
                      rintro e w7 ⟨vq, rfl, hr7, hb7, k7⟩
                      have R7 := Lw.hid (isRow hr7 (b0 := w8.heap.size) (fun k hk => Nat.le_trans HI.out.size (hb7 k hk)))
                      have K7 := Lw.hid k7
                      clear hr7 hb7 k7
                      obtain ⟨ad7, n7, c7, he7⟩ := R7.out.1
                      subst he7
                      go_wp2_with fail
                      exact hK _ _ (HI.out.trans K7.out (fun _ _ h => h)) K7.out R7.out
                    refine ssteps_cons (fun a' w' hI hag hf K hK => ?_) ?_
                    · obtain ⟨⟨_, h0, rfl⟩, -⟩ := hf
                      have s21 := hag.same 21 (by decide)
                      clear hag
                      go_wp2_with fail
                      exact hK _ _ hI (Kept.refl _ _) rfl
                    refine ssteps_cons (fun a' w' hI hag hf K hK => ?_) ?_
                    · obtain ⟨⟨v25, h25, e25⟩, ⟨_, h26, rfl⟩, ⟨_, h23, rfl⟩, -⟩ : SFacts _ _ a' w' [25, 26, 23] := hf
                      clear hag
                      obtain ⟨⟨ad1, n1, c1, he1⟩, hr1, hb1⟩ := e25
                      subst he1
                      have HR1 := Lw.hid hr1; have HI := Lw.hid hI
                      clear hr1 hb1 hI
                      go_wp2_with fail
                      refine (ceq_any w' _ _ _ HR1.out (own_kept HI.out WANT.out (fun _ _ h => h)) HLC.out).mono ?_
                      rintro e w7 ⟨rfl, k7⟩
                      have K7 := Lw.hid k7
                      clear k7
                      go_wp2_with fail
                      exact hK _ _ (HI.out.trans K7.out (fun _ _ h => h)) K7.out rfl
                    iterate 2
                      refine ssteps_cons (fun a' w' hI hag hf K hK => ?_) ?_
                      · obtain ⟨⟨_, h0, rfl⟩, ⟨_, h1, rfl⟩, -⟩ := hf
                        clear hag
                        go_wp2_with fail
                        exact hK _ _ hI (Kept.refl _ _) rfl
                    exact trivial
                  · intro vs wy hI hvs
                    have q4 := hvs 4 _ _ rfl rfl
                    have q11 := hvs 11 _ _ rfl rfl
                    have q12 := hvs 12 _ _ rfl rfl
                    have q25 := hvs 25 _ _ rfl rfl
                    simp only [pzz, putAll, Act.put, Nat.reduceAdd, spv (hvs 0 _ _ rfl rfl) rfl, spv (hvs 1 _ _ rfl rfl) rfl, spv (hvs 2 _ _ rfl rfl) rfl, spv (hvs 3 _ _ rfl rfl) rfl, spv (hvs 5 _ _ rfl rfl) rfl, spv (hvs 6 _ _ rfl rfl) rfl, spv (hvs 7 _ _ rfl rfl) rfl, spv (hvs 8 _ _ rfl rfl) rfl, spv (hvs 9 _ _ rfl rfl) rfl, spv (hvs 10 _ _ rfl rfl) rfl, spv (hvs 13 _ _ rfl rfl) rfl, spv (hvs 14 _ _ rfl rfl) rfl, spv (hvs 15 _ _ rfl rfl) rfl, spv (hvs 16 _ _ rfl rfl) rfl, spv (hvs 17 _ _ rfl rfl) rfl, spv (hvs 18 _ _ rfl rfl) rfl, spv (hvs 19 _ _ rfl rfl) rfl, spv (hvs 20 _ _ rfl rfl) rfl, spv (hvs 21 _ _ rfl rfl) rfl, spv (hvs 22 _ _ rfl rfl) rfl, spv (hvs 23 _ _ rfl rfl) rfl, spv (hvs 24 _ _ rfl rfl) rfl, spv (hvs 26 _ _ rfl rfl) rfl, spv (hvs 27 _ _ rfl rfl) rfl, spv (hvs 28 _ _ rfl rfl) rfl, spv (hvs 29 _ _ rfl rfl) rfl]
                    clear hvs
                    generalize vs 4 = x4 at *
                    generalize vs 11 = x11 at *
                    generalize vs 12 = x12 at *
                    generalize vs 25 = x25 at *
                    have KY9 := Lw.hid (KY8.out.trans hI (fun _ _ h => h))
                    clear hI q4 q11 q12 q25
                    go_wp2_with fail
                    go_roundg (92 - (91 + 1))
                    case measure => omega
                    case rel => exact ⟨91 + 1, rfl, by omega, by go_num, KQ.out.trans KY9.out (fun _ _ h => h)⟩
            · have e91 : ((q : Int) == 91) = false := by rw [beq_eq_false_iff_ne]; omega
              by_cases hqm : M ≤ q
              · have eqm : decide ((M : Int) ≤ (q : Int)) = true := by simp; omega
                obtain ⟨y3, hy3⟩ : ∃ y3, y2 = y3 := ⟨_, rfl⟩
                obtain ⟨vc3, hvc3⟩ : ∃ vc3, vc2 = vc3 := ⟨_, rfl⟩
                rw [hy3] at C2 KY2 hzy2
                rw [hvc3] at C2 HV2
                have C3 := C2; have HV3 := HV2; have KY3 := KY2; have hzy3 := hzy2
                rw [hy3]
                clear hy3 hvc3
                go_wp2_with fail
                have DD3 := Lw.hid ((JX5.out.l.d.kept KQ.out (fun h => h) (fun _ _ h => h)).kept KY3.out (fun h => h) (fun _ _ h => h))
                refine (dread_any y3 g v10 _ DD3.out (Nat.le_trans RD10.out.hold.m RD10.out.hold.c) (LD : Int) (M : Int) (by omega) (by omega)).mono ?_
                have hrr : (App D rs r).rd (LD : Int) (M : Int) = frm (pays rs) r.bytes := by have := HRDX.out; rw [HLD.out, HM.out] at this; exact this
                rw [hrr]
                rintro e y4 ⟨fr, rfl, hfr, ky4, hfb⟩
                obtain ⟨adf, capf, hef, _⟩ := own_slice hfr
                obtain ⟨nf, hnf⟩ : ∃ nf, (frm (pays rs) r.bytes).length = nf := ⟨_, rfl⟩
                rw [hnf] at hef
                subst hef
                have FR4 : Hid (RdB y4 (.slice adf nf capf) (frm (pays rs) r.bytes)) := Lw.hid (RdB.of_own hfr rfl)
                have HFB := Lw.hid hfb
                have C4 := Lw.hid (C3.out.kept ky4 (fun h => h) (fun _ _ h => h))
                have KY4 := Lw.hid (KY3.out.trans ky4 (fun _ _ h => h))
                have hc3l := heap_lt C3.out.box
                have HC3L := Lw.hid (own_lt C3.out.own)
                have hzy4 : wr.heap.size ≤ y4.heap.size := KY4.out.size
                have hok : ({ D with is := true, np := 0, nb := (q : Int) } : Dsk).ok := ⟨RD.out.ok.len, RD.out.ok.cap, RD.out.ok.puts, by show _ < (0 : Int); omega, by show (0 : Int) ≤ _; omega, fun _ => ⟨Int.le_refl _, by show (0 : Int) ≤ (q : Int); omega⟩, by show -1 < (q : Int) ∧ (q : Int) ≤ _; omega⟩
                have HOK := Lw.hid hok
                clear hfr ky4 hfb hnf hrr hok
                go_wp2_with fail
                refine (dput_any y4 gc vc3 _ C4.out HOK.out (LD : Int) (by omega) _ _ FR4.out (fun _ b hb => ⟨fun e => by have := HFB.out b hb; omega, fun e => by have := HFB.out b hb; have := HC3L.out b e; omega⟩)).mono ?_
                have hst := HSTEP q
                rw [HLD.out] at hst
                rw [hst.2.2.1]
                rintro e y5 ⟨rfl, hp5⟩
                obtain ⟨vc5, hc5, hv5, ky5⟩ := hp5.go (lo := wr.heap.size) hgc HV3.out hzy4
                have C5 := Lw.hid hc5; have HV5 := Lw.hid hv5
                have KY5 : Hid (Kept (fun _ => False) wr y5) := Lw.hid (KY4.out.trans ky5 (fun i hi h => by omega))
                have hzy5 : wr.heap.size ≤ y5.heap.size := KY5.out.size
                clear hp5 hc5 hv5 ky5
                go_wp2_with fail
                refine (drevive_any y5 gc vc5 _ C5.out).mono ?_
                rw [hst.2.2.2]
                rintro e y6 ⟨rfl, hp6⟩
                obtain ⟨vc6, hc6, hv6, ky6⟩ := hp6.go (lo := wr.heap.size) hgc HV5.out hzy5
                have C6 := Lw.hid hc6; have HV6 := Lw.hid hv6
                have KY6 : Hid (Kept (fun _ => False) wr y6) := Lw.hid (KY5.out.trans ky6 (fun i hi h => by omega))
                have hzy6 : wr.heap.size ≤ y6.heap.size := KY6.out.size
                have KW6 := Lw.hid ((KWX.out.trans KQ.out (fun _ _ h => h)).trans KY6.out (fun _ _ h => h))
                obtain ⟨htr, htd⟩ := torn_rdt RD.out HFIT.out (by rw [HCAP.out]; omega) (by omega) q
                have hRS : tornR rs r q = (rs ++ [r]) := by unfold tornR; rw [HM.out]; exact if_neg (by omega)
                rw [hRS] at htr
                have TR := Lw.hid htr; have TD := Lw.hid htd
                clear hp6 hc6 hv6 ky6 hst htr htd hRS HSTEP
                go_wp2_with fail
                have hlx : (rs ++ [r]).length ≤ 20 := by simp; omega
                refine (open_env w0 y6 HE.out KW6.out gc vc6 _ (rs ++ [r]) _ (2 + k) C6.out (by omega) (fun b hb => by have := HV6.out b hb; omega) TR.out TD.out (by rw [torn_cap, HCAP.out]; omega) (by omega) (by omega)).mono ?_
                rintro e y7 ⟨v7, kj, BLk, D7, m7, rfl, hj7, hr7, hc7, k7, f7, -⟩
                obtain ⟨FK, vak, spk, jk7, -, -⟩ := hj7.m
                obtain ⟨FK, hFKe⟩ : ∃ FK2, FK2 = FK := ⟨_, rfl⟩
                subst hFKe
                obtain ⟨FKx, vakx, spkx, jkx, hfx, -⟩ := hj7.m
                have JK7 := Lw.hid jkx; have HFX := Lw.hid hfx
                have C7 := Lw.hid hj7.l.d
                have HV7 : Hid (∀ b, blk v7 b → wr.heap.size ≤ b) := Lw.hid (fun b hb => (f7 b hb).elim (HV6.out b) (fun h => by omega))
                have KY7 : Hid (Kept (fun _ => False) wr y7) := Lw.hid (KY6.out.trans k7 (fun i hi e => by rcases e with e | e; omega; have := HV6.out i e; omega))
                have R7 := Lw.hid hr7; have HC7 := Lw.hid hc7
                have hzy7 : wr.heap.size ≤ y7.heap.size := KY7.out.size
                have HCL := Lw.hid (opnR_closed (rs ++ [r]))
                clear hj7 hr7 hc7 k7 f7 jk7 jkx hfx
                go_wp2_with fail
                refine (jbusy_any y7 FKx kj BLk spkx vakx _ JK7.out).mono ?_
                rw [HCL.out]
                rintro e _ ⟨rfl, rfl⟩
                obtain ⟨wz, hwz⟩ : ∃ wz, y7 = wz := ⟨_, rfl⟩
                rw [hwz] at JK7 C7 KY7 hzy7 ⊢
                clear hwz
                have KX7 := Lw.hid (KQ.out.trans KY7.out (fun _ _ h => h))
                have WASQ := Lw.hid (own_kept KX7.out WASX.out (fun _ _ h => h)); have WASQL := HLR
                have STQ := Lw.hid (STX.out.kept KX7.out (fun _ _ h => h)); have B11Q := Lw.hid (KX7.out.heap B11X.out (fun h => h))
                have NOWQ := Lw.hid (own_kept KX7.out NOW5.out (fun _ _ h => h)); have NOWQL := HLR2
                have THQ := Lw.hid ((TH5.out).kept KX7.out (fun _ _ h => h)); have B15Q := Lw.hid (KX7.out.heap B15.out (fun h => h))
                go_wp2_with fail
                refine wp_region_tail 7 [stV (.slice adw0 nw0 cw0), stRow wz.heap.size (cutC (runJ rs).cs), stV (.slice ads ns cs9), stV (.agg #[.int .u32 ((runJ rs).mark.a : Int), .int .u32 ((runJ rs).mark.b : Int), .int .u32 ((runJ rs).mark.c : Int)]), stMk wz.heap.size, stRow wz.heap.size (cutC (runJ rs).cs), stV (.slice ads ns cs9)] (by kernel_rfl) (by kernel_rfl) ?_ ?_
                · refine ssteps_cons (fun a' w' hI hag hf K hK => ?_) ?_
                  · have s9 := hag.same 9 (by decide)
                    clear hag
                    go_wp2_with fail
                    exact hK _ _ hI (Kept.refl _ _) rfl
                  refine ssteps_cons (fun a' w' hI hag hf K hK => ?_) ?_
                  · obtain ⟨⟨_, h0, rfl⟩, -⟩ : SFacts _ _ a' w' [0] := hf
                    clear hag
                    have HI := Lw.hid hI
                    clear hI
                    go_wp2_with fail
                    refine (ccut_any w' _ _ (own_kept HI.out WASQ.out (fun _ _ h => h)) WASQL.out).mono ?_
                    rintro e w6 ⟨vq, rfl, hr6, hb6, k6⟩
                    have R6 := Lw.hid (isRow hr6 (b0 := wz.heap.size) (fun k hk => Nat.le_trans HI.out.size (hb6 k hk)))
                    have K6 := Lw.hid k6
                    clear hr6 hb6 k6
                    obtain ⟨ad6, n6, c6, he6⟩ := R6.out.1
                    subst he6
                    go_wp2_with fail
                    exact hK _ _ (HI.out.trans K6.out (fun _ _ h => h)) K6.out R6.out
                  iterate 2
                    refine ssteps_cons (fun a' w' hI hag hf K hK => ?_) ?_
                    · have s10 := hag.same 10 (by decide)
                      have s11 := hag.same 11 (by decide)
                      clear hag
                      have hbx := hI.heap B11Q.out (fun h => h)
                      have cA := heap_cell hbx 0; have cB := heap_cell hbx 1; have cC := heap_cell hbx 2
                      clear hbx
                      go_wp2_with fail
                      exact hK _ _ hI (Kept.refl _ _) rfl
                  refine ssteps_cons (fun a' w' hI hag hf K hK => ?_) ?_
                  · clear hag
                    go_wp2_with fail
                    have kk : Kept (fun _ => False) w' (w'.alloc (mC ⟨0, 0, 0⟩)) := (Kept.refl _ w').alloc _
                    exact hK _ _ (hI.trans kk (fun _ _ h => h)) kk ⟨_, rfl, heap_alloc w' _, hI.size⟩
                  refine ssteps_cons (fun a' w' hI hag hf K hK => ?_) ?_
                  · obtain ⟨⟨v1, h1, e1⟩, -⟩ : SFacts _ _ a' w' [1, 0, 4] := hf
                    clear hag
                    obtain ⟨⟨ad1, n1, c1, he1⟩, hr1, hb1⟩ := e1
                    subst he1
                    have R1 := Lw.hid (show IsRow wz.heap.size (cutC (runJ rs).cs) (.slice ad1 n1 c1) w' from ⟨⟨_, _, _, rfl⟩, hr1, hb1⟩)
                    clear hr1 hb1
                    go_wp2_with fail
                    exact hK _ _ hI (Kept.refl _ _) R1.out
                  refine ssteps_cons (fun a' w' hI hag hf K hK => ?_) ?_
                  · obtain ⟨⟨_, h2, rfl⟩, -⟩ : SFacts _ _ a' w' [2, 5, 0, 1, 4] := hf
                    clear hag
                    go_wp2_with fail
                    exact hK _ _ hI (Kept.refl _ _) rfl
                  exact trivial
                · intro vs wy hI hvs
                  have q1 := hvs 1 _ _ rfl rfl
                  have q4 := hvs 4 _ _ rfl rfl
                  have q5 := hvs 5 _ _ rfl rfl
                  simp only [pzz, putAll, Act.put, Nat.reduceAdd, spv (hvs 0 _ _ rfl rfl) rfl, spv (hvs 2 _ _ rfl rfl) rfl, spv (hvs 3 _ _ rfl rfl) rfl, spv (hvs 6 _ _ rfl rfl) rfl]
                  clear hvs
                  generalize vs 1 = x1 at *
                  generalize vs 4 = x4 at *
                  generalize vs 5 = x5 at *
                  obtain ⟨⟨adw, nw, cw, hew⟩, hwr, hwb⟩ := q5
                  subst hew
                  obtain ⟨bm, rfl, hbm, hbl⟩ := q4
                  have BM0 := Lw.hid hbm; have HWR0 := Lw.hid hwr; have KI0 := Lw.hid hI; have HBL0 := Lw.hid hbl; have HWB0 := Lw.hid hwb
                  have hA := heap_set BM0.out 0 (.int .u32 ((runJ rs).mark.a : Int))
                  have hB := heap_set hA 1 (.int .u32 ((runJ rs).mark.b : Int))
                  have hC := heap_set hB 2 (.int .u32 ((runJ rs).mark.c : Int))
                  simp only [List.setIfInBounds_toArray, List.set_cons_zero, List.set_cons_succ] at hA hB hC
                  have j3 := heap_cell BM0.out 0; have f3 := heap_free BM0.out 0
                  have j4 := heap_cell hA 1; have f4 := heap_free hA 1
                  have j5 := heap_cell hB 2; have f5 := heap_free hB 2
                  have ks := (((Kept.refl (fun k => k = bm) wy).set bm 0 (fun _ => rfl) (.int .u32 ((runJ rs).mark.a : Int))).set bm 1 (fun _ => rfl) (.int .u32 ((runJ rs).mark.b : Int))).set bm 2 (fun _ => rfl) (.int .u32 ((runJ rs).mark.c : Int))
                  obtain ⟨wn1, hwn1⟩ : ∃ wn1, ((wy.setCell ⟨bm, 0, none⟩ (.int .u32 ((runJ rs).mark.a : Int))).setCell ⟨bm, 1, none⟩ (.int .u32 ((runJ rs).mark.b : Int))).setCell ⟨bm, 2, none⟩ (.int .u32 ((runJ rs).mark.c : Int)) = wn1 := ⟨_, rfl⟩
                  rw [hwn1] at hC ks
                  have BM := Lw.hid hC; have KMwn1 := Lw.hid ks; have HNwn1 := Lw.hid hwn1
                  clear hA hB hC ks hwn1
                  have WANT1 : Hid (RowC wn1 (.slice adw nw cw) (cutC (runJ rs).cs)) := Lw.hid (own_kept KMwn1.out HWR0.out (fun b hb e => row_ne HWR0.out BM0.out (by rw [← e]; exact hb)))
                  have KN1 : Hid (Kept (fun _ => False) wz wn1) := Lw.hid (KI0.out.trans KMwn1.out (fun i hi e => by omega))
                  have BM1 := BM
                  have HWL1 : Hid (∀ b, blk (.slice adw nw cw) b → wz.heap.size ≤ b) := HWB0
                  clear hI hwr hwb hbm BM q1
                  go_wp2_with fail
                  rw [HNwn1.out]
                  clear j3 f3 j4 f4 j5 f5
                  have NOW_1 := Lw.hid (own_kept KN1.out NOWQ.out (fun _ _ h => h)); have NOW_1L := HLR2; have B15_1 := Lw.hid (KN1.out.heap B15Q.out (fun h => h)); have BMZ := BM1
                  refine wp_region_tail 6 [stV (.slice adn0 nn0 cn0), stRow wn1.heap.size (cutC (runJ (rs ++ [r])).cs), stV (.slice adt0 nt0 ct0), stV (.agg #[.int .u32 ((runJ (rs ++ [r])).mark.a : Int), .int .u32 ((runJ (rs ++ [r])).mark.b : Int), .int .u32 ((runJ (rs ++ [r])).mark.c : Int)]), stRow wn1.heap.size (cutC (runJ (rs ++ [r])).cs), stV (.slice adt0 nt0 ct0)] (by kernel_rfl) (by kernel_rfl) ?_ ?_
                  · refine ssteps_cons (fun a' w' hI hag hf K hK => ?_) ?_
                    · have s13 := hag.same 13 (by decide)
                      clear hag
                      go_wp2_with fail
                      exact hK _ _ hI (Kept.refl _ _) rfl
                    refine ssteps_cons (fun a' w' hI hag hf K hK => ?_) ?_
                    · obtain ⟨⟨_, h0, rfl⟩, -⟩ : SFacts _ _ a' w' [0] := hf
                      clear hag
                      have HI := Lw.hid hI
                      clear hI
                      go_wp2_with fail
                      refine (ccut_any w' _ _ (own_kept HI.out NOW_1.out (fun _ _ h => h)) NOW_1L.out).mono ?_
                      rintro e w6 ⟨vq, rfl, hr6, hb6, k6⟩
                      have R6 := Lw.hid (isRow hr6 (b0 := wn1.heap.size) (fun k hk => Nat.le_trans HI.out.size (hb6 k hk)))
                      have K6 := Lw.hid k6
                      clear hr6 hb6 k6
                      obtain ⟨ad6, n6, c6, he6⟩ := R6.out.1
                      subst he6
                      go_wp2_with fail
                      exact hK _ _ (HI.out.trans K6.out (fun _ _ h => h)) K6.out R6.out
                    iterate 2
                      refine ssteps_cons (fun a' w' hI hag hf K hK => ?_) ?_
                      · have s14 := hag.same 14 (by decide)
                        have s15 := hag.same 15 (by decide)
                        clear hag
                        have hbx := hI.heap B15_1.out (fun h => h)
                        have cA := heap_cell hbx 0; have cB := heap_cell hbx 1; have cC := heap_cell hbx 2
                        clear hbx
                        go_wp2_with fail
                        exact hK _ _ hI (Kept.refl _ _) rfl
                    refine ssteps_cons (fun a' w' hI hag hf K hK => ?_) ?_
                    · obtain ⟨⟨v1, h1, e1⟩, -⟩ : SFacts _ _ a' w' [1, 0] := hf
                      clear hag
                      obtain ⟨⟨ad1, n1, c1, he1⟩, hr1, hb1⟩ := e1
                      subst he1
                      have R1 := Lw.hid (show IsRow wn1.heap.size (cutC (runJ (rs ++ [r])).cs) (.slice ad1 n1 c1) w' from ⟨⟨_, _, _, rfl⟩, hr1, hb1⟩)
                      clear hr1 hb1
                      go_wp2_with fail
                      exact hK _ _ hI (Kept.refl _ _) R1.out
                    refine ssteps_cons (fun a' w' hI hag hf K hK => ?_) ?_
                    · obtain ⟨⟨_, h2, rfl⟩, -⟩ : SFacts _ _ a' w' [2, 4, 0, 1] := hf
                      clear hag
                      go_wp2_with fail
                      exact hK _ _ hI (Kept.refl _ _) rfl
                    exact trivial
                  · intro vs wy2 hI hvs
                    have q1 := hvs 1 _ _ rfl rfl
                    have q4 := hvs 4 _ _ rfl rfl
                    simp only [pzz, putAll, Act.put, Nat.reduceAdd, spv (hvs 0 _ _ rfl rfl) rfl, spv (hvs 2 _ _ rfl rfl) rfl, spv (hvs 3 _ _ rfl rfl) rfl, spv (hvs 5 _ _ rfl rfl) rfl]
                    clear hvs
                    generalize vs 1 = x1 at *
                    generalize vs 4 = x4 at *
                    obtain ⟨⟨adw, nw, cw, hew⟩, hwr, hwb⟩ := q4
                    subst hew
                    have hbm := hI.heap BMZ.out (fun h => h)
                    have BM0 := Lw.hid hbm; have HWR2 := Lw.hid hwr; have KI2 := Lw.hid hI; have HWB2 := Lw.hid hwb
                    have hA := heap_set BM0.out 0 (.int .u32 ((runJ (rs ++ [r])).mark.a : Int))
                    have hB := heap_set hA 1 (.int .u32 ((runJ (rs ++ [r])).mark.b : Int))
                    have hC := heap_set hB 2 (.int .u32 ((runJ (rs ++ [r])).mark.c : Int))
                    simp only [List.setIfInBounds_toArray, List.set_cons_zero, List.set_cons_succ] at hA hB hC
                    have j3 := heap_cell BM0.out 0; have f3 := heap_free BM0.out 0
                    have j4 := heap_cell hA 1; have f4 := heap_free hA 1
                    have j5 := heap_cell hB 2; have f5 := heap_free hB 2
                    have ks := (((Kept.refl (fun k => k = bm) wy2).set bm 0 (fun _ => rfl) (.int .u32 ((runJ (rs ++ [r])).mark.a : Int))).set bm 1 (fun _ => rfl) (.int .u32 ((runJ (rs ++ [r])).mark.b : Int))).set bm 2 (fun _ => rfl) (.int .u32 ((runJ (rs ++ [r])).mark.c : Int))
                    obtain ⟨wn2, hwn2⟩ : ∃ wn2, ((wy2.setCell ⟨bm, 0, none⟩ (.int .u32 ((runJ (rs ++ [r])).mark.a : Int))).setCell ⟨bm, 1, none⟩ (.int .u32 ((runJ (rs ++ [r])).mark.b : Int))).setCell ⟨bm, 2, none⟩ (.int .u32 ((runJ (rs ++ [r])).mark.c : Int)) = wn2 := ⟨_, rfl⟩
                    rw [hwn2] at hC ks
                    have BM := Lw.hid hC; have KMwn2 := Lw.hid ks; have HNwn2 := Lw.hid hwn2
                    clear hA hB hC ks hwn2
                    have WANTF : Hid (RowC wn2 (.slice adw nw cw) (cutC (runJ (rs ++ [r])).cs)) := Lw.hid (own_kept KMwn2.out HWR2.out (fun b hb e => row_ne HWR2.out BM0.out (by rw [← e]; exact hb)))
                    have KNF : Hid (Kept (fun _ => False) wz wn2) := Lw.hid ((KN1.out.trans KI2.out (fun _ _ h => h)).trans KMwn2.out (fun i hi e => by have := HBL0.out; omega))
                    have HWLF : Hid (∀ b, blk (.slice adw nw cw) b → wz.heap.size ≤ b) := Lw.hid (fun b hb => Nat.le_trans KN1.out.size (HWB2.out b hb))
                    have BMF := BM
                    clear hI hwr hwb hbm q1
                    go_wp2_with fail
                    rw [HNwn2.out]
                    clear j3 f3 j4 f4 j5 f5
                    have KYF : Hid (Kept (fun _ => False) wr wn2) := Lw.hid (KY7.out.trans KNF.out (fun _ _ h => h))
                    have CF := Lw.hid (C7.out.kept KNF.out (fun h => h) (fun _ _ h => h)); have JKF := Lw.hid (JK7.out.kept KNF.out (fun _ _ h => h))
                    have Kwn2 := Lw.hid ((KWX.out.trans KQ.out (fun _ _ h => h)).trans KYF.out (fun _ _ h => h))
                    have hlo : (opnR (rs ++ [r])).length ≤ 30 := by unfold opnR; split; omega; simp; omega
                    have hcl := heap_lt C7.out.box; have HCV := Lw.hid (own_lt C7.out.own)
                    refine (open_env w0 wn2 HE.out Kwn2.out gc v7 _ (opnR (rs ++ [r])) _ (2 + k + 2) CF.out (by omega) (fun b hb => by have := HV7.out b hb; omega) R7.out (.inr ⟨_, rfl⟩) (by rw [HC7.out, torn_cap, HCAP.out]; omega) (by omega) (by omega)).mono ?_
                    rintro e w8 ⟨v8, aj, BLa, D8, m8, rfl, hj8, -, -, k8, -, -⟩
                    rw [opnR_idem] at hj8
                    obtain ⟨FA, vaa, spa, ja8, -, -⟩ := hj8.m
                    have JA := Lw.hid ja8
                    have hzz := KNF.out.size
                    have JK := Lw.hid (JKF.out.kept k8 (fun b hb e => by have := HFX.out b hb; rcases e with e | e; exact this.2.2.1 e; exact this.2.2.2 e))
                    have WANT := Lw.hid (own_kept k8 WANTF.out (fun b hb e => by have := HWLF.out b hb; rcases e with e | e; omega; have := HCV.out b e; omega))
                    have BMZ := Lw.hid (k8.heap BMF.out (fun e => by have := HBL0.out; rcases e with e | e; omega; have := HCV.out _ e; omega))
                    have KY8 : Hid (Kept (fun _ => False) wr w8) := Lw.hid (KYF.out.trans k8 (fun i hi e => by rcases e with e | e; omega; have := HV7.out i e; omega))
                    have TOLD := Lw.hid (TH5.out.kept (KQ.out.trans KY8.out (fun _ _ h => h)) (fun _ _ h => h))
                    have HCS := Lw.hid (opnR_cs (rs ++ [r])); have HBX := Lw.hid TR.out.good.bnd
                    have HLK : Hid ((runJ (opnR (rs ++ [r]))).cs.length ≤ 1000) := Lw.hid (by have := runJ_len (opnR (rs ++ [r])); omega)
                    have HLC : Hid ((cutC (runJ (rs ++ [r])).cs).length ≤ 1000) := Lw.hid (by rw [← HCS.out.1]; exact HLK.out)
                    clear hj8 k8 ja8
                    go_wp2_with fail
                    refine wp_region_tail 30 [stV (.int .i64 0), stV (.bool false), stV (.bool false), stV (.pointer (some ⟨kj, 0, none⟩)), stRow w8.heap.size (cutC (runJ (rs ++ [r])).cs), stV (.slice adw nw cw), stV (.bool true), stV (.bool false), stV (.bool false), stV (.bool false), stV (.pointer (some ⟨kj, 0, none⟩)), stSt w8.heap.size (runJ (rs ++ [r])).st (runJ (rs ++ [r])).v, stOwn w8.heap.size (stB (runJ (rs ++ [r]))), stV (.slice adt0 nt0 ct0), stV (.bool true), stV (.bool false), stV (.bool false), stV (.bool false), stV (.pointer (some ⟨kj, 0, none⟩)), stV (.agg #[.int .u32 ((runJ (rs ++ [r])).mark.a : Int), .int .u32 ((runJ (rs ++ [r])).mark.b : Int), .int .u32 ((runJ (rs ++ [r])).mark.c : Int)]), stV (.agg #[.int .u32 ((runJ (rs ++ [r])).mark.a : Int), .int .u32 ((runJ (rs ++ [r])).mark.b : Int), .int .u32 ((runJ (rs ++ [r])).mark.c : Int)]), stV (.bool false), stV (.bool false), stV (.bool false), stV (.pointer (some ⟨aj, 0, none⟩)), stRow w8.heap.size (cutC (runJ (rs ++ [r])).cs), stV (.slice adw nw cw), stV (.bool true), stV (.bool false), stV (.bool false)] (by kernel_rfl) (by kernel_rfl) ?_ ?_
                    · iterate 4
                        refine ssteps_cons (fun a' w' hI hag hf K hK => ?_) ?_
                        · obtain ⟨⟨_, h0, rfl⟩, -⟩ := hf
                          have s19 := hag.same 19 (by decide)
                          have s25 := hag.same 25 (by decide)
                          clear hag
                          go_wp2_with fail
                          exact hK _ _ hI (Kept.refl _ _) rfl
                      refine ssteps_cons (fun a' w' hI hag hf K hK => ?_) ?_
                      · obtain ⟨⟨_, h3, rfl⟩, ⟨_, h2, rfl⟩, -⟩ : SFacts _ _ a' w' [3, 2] := hf
                        clear hag
                        have HI := Lw.hid hI
                        clear hI
                        go_wp2_with fail
                        refine (commands_any w' FKx kj BLk spkx vakx _ (JK.out.kept HI.out (fun _ _ h => h)) HLK.out).mono ?_
                        rw [HCS.out.1]
                        rintro e w7 ⟨vq, rfl, hr7, hb7, k7⟩
                        have R7 := Lw.hid (isRow hr7 (b0 := w8.heap.size) (fun k hk => Nat.le_trans HI.out.size (hb7 k hk)))
                        have K7 := Lw.hid k7
                        clear hr7 hb7 k7
                        obtain ⟨ad7, n7, c7, he7⟩ := R7.out.1
                        subst he7
                        go_wp2_with fail
                        exact hK _ _ (HI.out.trans K7.out (fun _ _ h => h)) K7.out R7.out
                      refine ssteps_cons (fun a' w' hI hag hf K hK => ?_) ?_
                      · obtain ⟨⟨_, h0, rfl⟩, -⟩ := hf
                        have s21 := hag.same 21 (by decide)
                        clear hag
                        go_wp2_with fail
                        exact hK _ _ hI (Kept.refl _ _) rfl
                      refine ssteps_cons (fun a' w' hI hag hf K hK => ?_) ?_
                      · obtain ⟨⟨v4, h4, e4⟩, ⟨_, h5, rfl⟩, ⟨_, h2, rfl⟩, -⟩ : SFacts _ _ a' w' [4, 5, 2] := hf
                        clear hag
                        obtain ⟨⟨ad1, n1, c1, he1⟩, hr1, hb1⟩ := e4
                        subst he1
                        have HR1 := Lw.hid hr1; have HI := Lw.hid hI
                        clear hr1 hb1 hI
                        go_wp2_with fail
                        refine (ceq_any w' _ _ _ HR1.out (own_kept HI.out WANT.out (fun _ _ h => h)) HLC.out).mono ?_
                        rintro e w7 ⟨rfl, k7⟩
                        have K7 := Lw.hid k7
                        clear k7
                        go_wp2_with fail
                        exact hK _ _ (HI.out.trans K7.out (fun _ _ h => h)) K7.out rfl
                      iterate 4
                        refine ssteps_cons (fun a' w' hI hag hf K hK => ?_) ?_
                        · obtain ⟨⟨_, h0, rfl⟩, ⟨_, h1, rfl⟩, -⟩ := hf
                          have s19 := hag.same 19 (by decide)
                          clear hag
                          go_wp2_with fail
                          exact hK _ _ hI (Kept.refl _ _) rfl
                      refine ssteps_cons (fun a' w' hI hag hf K hK => ?_) ?_
                      · obtain ⟨⟨_, h10, rfl⟩, ⟨_, h9, rfl⟩, -⟩ : SFacts _ _ a' w' [10, 9] := hf
                        clear hag
                        have HI := Lw.hid hI
                        clear hI
                        go_wp2_with fail
                        refine (jstate_any w' FKx kj BLk spkx vakx _ (JK.out.kept HI.out (fun _ _ h => h))).mono ?_
                        rw [HCS.out.2.1, HCS.out.2.2.1]
                        rintro e w7 ⟨gq, rfl, hs7, k7⟩
                        have S7 := Lw.hid (hs7.mono (G := fun b => w8.heap.size ≤ b) (fun b _ h => Nat.le_trans HI.out.size h)); have K7 := Lw.hid k7
                        clear hs7 k7
                        go_wp2_with fail
                        exact hK _ _ (HI.out.trans K7.out (fun _ _ h => h)) K7.out ⟨gq, rfl, S7.out⟩
                      refine ssteps_cons (fun a' w' hI hag hf K hK => ?_) ?_
                      · obtain ⟨⟨v11, h11, e11⟩, ⟨_, h9, rfl⟩, -⟩ : SFacts _ _ a' w' [11, 9] := hf
                        clear hag
                        obtain ⟨gq, rfl, hs7⟩ := e11
                        have S7 := Lw.hid hs7; have HI := Lw.hid hI
                        clear hs7 hI
                        go_wp2_with fail
                        refine (sb_of w' _ gq _ _ HBX.out S7.out).mono ?_
                        rintro e w7 ⟨vq, rfl, ⟨ho7, hb7⟩, k7⟩
                        have O7 := Lw.hid ho7; have B7 := Lw.hid hb7; have K7 := Lw.hid k7
                        obtain ⟨ad7, c7, he7, _⟩ := own_slice ho7
                        clear ho7 hb7 k7
                        obtain ⟨n7, hn7⟩ : ∃ n7, (stB (runJ (rs ++ [r]))).length = n7 := ⟨_, rfl⟩
                        rw [hn7] at he7
                        subst he7
                        go_wp2_with fail
                        exact hK _ _ (HI.out.trans K7.out (fun _ _ h => h)) K7.out ⟨O7.out, fun k hk => Nat.le_trans HI.out.size (B7.out k hk)⟩
                      refine ssteps_cons (fun a' w' hI hag hf K hK => ?_) ?_
                      · obtain ⟨⟨_, h0, rfl⟩, -⟩ := hf
                        have s22 := hag.same 22 (by decide)
                        clear hag
                        go_wp2_with fail
                        exact hK _ _ hI (Kept.refl _ _) rfl
                      refine ssteps_cons (fun a' w' hI hag hf K hK => ?_) ?_
                      · obtain ⟨⟨v12, h12, e12⟩, ⟨_, h13, rfl⟩, ⟨_, h9, rfl⟩, -⟩ : SFacts _ _ a' w' [12, 13, 9] := hf
                        clear hag
                        have ho7 := e12.1
                        obtain ⟨ad7, c7, he7, _⟩ := own_slice ho7
                        have O7 := Lw.hid ho7; have HI := Lw.hid hI
                        obtain ⟨n7, hn7⟩ : ∃ n7, (stB (runJ (rs ++ [r]))).length = n7 := ⟨_, rfl⟩
                        rw [hn7] at he7
                        subst he7
                        clear ho7 hI e12 hn7
                        go_wp2_with fail
                        refine (beq_any w' _ _ (stB (runJ (rs ++ [r]))) (RdB.of_own O7.out rfl) (TOLD.out.kept HI.out (fun _ _ h => h))).mono ?_
                        rintro e w7 ⟨rfl, rfl⟩
                        go_wp2_with fail
                        exact hK _ _ HI.out (Kept.refl _ _) rfl
                      iterate 4
                        refine ssteps_cons (fun a' w' hI hag hf K hK => ?_) ?_
                        · obtain ⟨⟨_, h0, rfl⟩, ⟨_, h1, rfl⟩, -⟩ := hf
                          have s19 := hag.same 19 (by decide)
                          clear hag
                          go_wp2_with fail
                          exact hK _ _ hI (Kept.refl _ _) rfl
                      refine ssteps_cons (fun a' w' hI hag hf K hK => ?_) ?_
                      · obtain ⟨⟨_, h18, rfl⟩, ⟨_, h17, rfl⟩, -⟩ : SFacts _ _ a' w' [18, 17] := hf
                        clear hag
                        have HI := Lw.hid hI
                        clear hI
                        go_wp2_with fail
                        refine (jmarked_any w' FKx kj BLk spkx vakx _ (JK.out.kept HI.out (fun _ _ h => h))).mono ?_
                        rw [HCS.out.2.2.2]
                        rintro e w7 ⟨rfl, k7⟩
                        have K7 := Lw.hid k7
                        clear k7
                        go_wp2_with fail
                        exact hK _ _ (HI.out.trans K7.out (fun _ _ h => h)) K7.out rfl
                      iterate 5
                        refine ssteps_cons (fun a' w' hI hag hf K hK => ?_) ?_
                        · obtain ⟨⟨_, h0, rfl⟩, ⟨_, h1, rfl⟩, ⟨_, h2, rfl⟩, -⟩ := hf
                          have s23 := hag.same 23 (by decide)
                          have s24 := hag.same 24 (by decide)
                          clear hag
                          have hbx := hI.heap BMZ.out (fun h => h)
                          have cA := heap_cell hbx 0; have cB := heap_cell hbx 1; have cC := heap_cell hbx 2
                          clear hbx
                          go_wp2_with fail
                          exact hK _ _ hI (Kept.refl _ _) rfl
                      refine ssteps_cons (fun a' w' hI hag hf K hK => ?_) ?_
                      · obtain ⟨⟨_, h24, rfl⟩, ⟨_, h23, rfl⟩, -⟩ : SFacts _ _ a' w' [24, 23] := hf
                        clear hag
                        have HI := Lw.hid hI
                        clear hI
                        go_wp2_with fail
                        refine (commands_any w' FA aj BLa spa vaa _ (JA.out.kept HI.out (fun _ _ h => h)) HLK.out).mono ?_
                        rw [HCS.out.1]
                        rintro e w7 ⟨vq, rfl, hr7, hb7, k7⟩
                        have R7 := Lw.hid (isRow hr7 (b0 := w8.heap.size) (fun k hk => Nat.le_trans HI.out.size (hb7 k hk)))
                        have K7 := Lw.hid k7
                        clear hr7 hb7 k7
                        obtain ⟨ad7, n7, c7, he7⟩ := R7.out.1
                        subst he7
                        go_wp2_with fail
                        exact hK _ _ (HI.out.trans K7.out (fun _ _ h => h)) K7.out R7.out
                      refine ssteps_cons (fun a' w' hI hag hf K hK => ?_) ?_
                      · obtain ⟨⟨_, h0, rfl⟩, -⟩ := hf
                        have s21 := hag.same 21 (by decide)
                        clear hag
                        go_wp2_with fail
                        exact hK _ _ hI (Kept.refl _ _) rfl
                      refine ssteps_cons (fun a' w' hI hag hf K hK => ?_) ?_
                      · obtain ⟨⟨v25, h25, e25⟩, ⟨_, h26, rfl⟩, ⟨_, h23, rfl⟩, -⟩ : SFacts _ _ a' w' [25, 26, 23] := hf
                        clear hag
                        obtain ⟨⟨ad1, n1, c1, he1⟩, hr1, hb1⟩ := e25
                        subst he1
                        have HR1 := Lw.hid hr1; have HI := Lw.hid hI
                        clear hr1 hb1 hI
                        go_wp2_with fail
                        refine (ceq_any w' _ _ _ HR1.out (own_kept HI.out WANT.out (fun _ _ h => h)) HLC.out).mono ?_
                        rintro e w7 ⟨rfl, k7⟩
                        have K7 := Lw.hid k7
                        clear k7
                        go_wp2_with fail
                        exact hK _ _ (HI.out.trans K7.out (fun _ _ h => h)) K7.out rfl
                      iterate 2
                        refine ssteps_cons (fun a' w' hI hag hf K hK => ?_) ?_
                        · obtain ⟨⟨_, h0, rfl⟩, ⟨_, h1, rfl⟩, -⟩ := hf
                          clear hag
                          go_wp2_with fail
                          exact hK _ _ hI (Kept.refl _ _) rfl
                      exact trivial
                    · intro vs wy hI hvs
                      have q4 := hvs 4 _ _ rfl rfl
                      have q11 := hvs 11 _ _ rfl rfl
                      have q12 := hvs 12 _ _ rfl rfl
                      have q25 := hvs 25 _ _ rfl rfl
                      simp only [pzz, putAll, Act.put, Nat.reduceAdd, spv (hvs 0 _ _ rfl rfl) rfl, spv (hvs 1 _ _ rfl rfl) rfl, spv (hvs 2 _ _ rfl rfl) rfl, spv (hvs 3 _ _ rfl rfl) rfl, spv (hvs 5 _ _ rfl rfl) rfl, spv (hvs 6 _ _ rfl rfl) rfl, spv (hvs 7 _ _ rfl rfl) rfl, spv (hvs 8 _ _ rfl rfl) rfl, spv (hvs 9 _ _ rfl rfl) rfl, spv (hvs 10 _ _ rfl rfl) rfl, spv (hvs 13 _ _ rfl rfl) rfl, spv (hvs 14 _ _ rfl rfl) rfl, spv (hvs 15 _ _ rfl rfl) rfl, spv (hvs 16 _ _ rfl rfl) rfl, spv (hvs 17 _ _ rfl rfl) rfl, spv (hvs 18 _ _ rfl rfl) rfl, spv (hvs 19 _ _ rfl rfl) rfl, spv (hvs 20 _ _ rfl rfl) rfl, spv (hvs 21 _ _ rfl rfl) rfl, spv (hvs 22 _ _ rfl rfl) rfl, spv (hvs 23 _ _ rfl rfl) rfl, spv (hvs 24 _ _ rfl rfl) rfl, spv (hvs 26 _ _ rfl rfl) rfl, spv (hvs 27 _ _ rfl rfl) rfl, spv (hvs 28 _ _ rfl rfl) rfl, spv (hvs 29 _ _ rfl rfl) rfl]
                      clear hvs
                      generalize vs 4 = x4 at *
                      generalize vs 11 = x11 at *
                      generalize vs 12 = x12 at *
                      generalize vs 25 = x25 at *
                      have KY9 := Lw.hid (KY8.out.trans hI (fun _ _ h => h))
                      clear hI q4 q11 q12 q25
                      go_wp2_with fail
                      go_roundg (92 - (q + 1))
                      case measure => omega
                      case rel => exact ⟨q + 1, rfl, by omega, by go_num, KQ.out.trans KY9.out (fun _ _ h => h)⟩
              · have eqm : decide ((M : Int) ≤ (q : Int)) = false := by simp; omega
                obtain ⟨y3, hy3⟩ : ∃ y3, y2 = y3 := ⟨_, rfl⟩
                obtain ⟨vc3, hvc3⟩ : ∃ vc3, vc2 = vc3 := ⟨_, rfl⟩
                rw [hy3] at C2 KY2 hzy2
                rw [hvc3] at C2 HV2
                have C3 := C2; have HV3 := HV2; have KY3 := KY2; have hzy3 := hzy2
                rw [hy3]
                clear hy3 hvc3
                go_wp2_with fail
                have DD3 := Lw.hid ((JX5.out.l.d.kept KQ.out (fun h => h) (fun _ _ h => h)).kept KY3.out (fun h => h) (fun _ _ h => h))
                refine (dread_any y3 g v10 _ DD3.out (Nat.le_trans RD10.out.hold.m RD10.out.hold.c) (LD : Int) (M : Int) (by omega) (by omega)).mono ?_
                have hrr : (App D rs r).rd (LD : Int) (M : Int) = frm (pays rs) r.bytes := by have := HRDX.out; rw [HLD.out, HM.out] at this; exact this
                rw [hrr]
                rintro e y4 ⟨fr, rfl, hfr, ky4, hfb⟩
                obtain ⟨adf, capf, hef, _⟩ := own_slice hfr
                obtain ⟨nf, hnf⟩ : ∃ nf, (frm (pays rs) r.bytes).length = nf := ⟨_, rfl⟩
                rw [hnf] at hef
                subst hef
                have FR4 : Hid (RdB y4 (.slice adf nf capf) (frm (pays rs) r.bytes)) := Lw.hid (RdB.of_own hfr rfl)
                have HFB := Lw.hid hfb
                have C4 := Lw.hid (C3.out.kept ky4 (fun h => h) (fun _ _ h => h))
                have KY4 := Lw.hid (KY3.out.trans ky4 (fun _ _ h => h))
                have hc3l := heap_lt C3.out.box
                have HC3L := Lw.hid (own_lt C3.out.own)
                have hzy4 : wr.heap.size ≤ y4.heap.size := KY4.out.size
                have hok : ({ D with is := true, np := 0, nb := (q : Int) } : Dsk).ok := ⟨RD.out.ok.len, RD.out.ok.cap, RD.out.ok.puts, by show _ < (0 : Int); omega, by show (0 : Int) ≤ _; omega, fun _ => ⟨Int.le_refl _, by show (0 : Int) ≤ (q : Int); omega⟩, by show -1 < (q : Int) ∧ (q : Int) ≤ _; omega⟩
                have HOK := Lw.hid hok
                clear hfr ky4 hfb hnf hrr hok
                go_wp2_with fail
                refine (dput_any y4 gc vc3 _ C4.out HOK.out (LD : Int) (by omega) _ _ FR4.out (fun _ b hb => ⟨fun e => by have := HFB.out b hb; omega, fun e => by have := HFB.out b hb; have := HC3L.out b e; omega⟩)).mono ?_
                have hst := HSTEP q
                rw [HLD.out] at hst
                rw [hst.2.2.1]
                rintro e y5 ⟨rfl, hp5⟩
                obtain ⟨vc5, hc5, hv5, ky5⟩ := hp5.go (lo := wr.heap.size) hgc HV3.out hzy4
                have C5 := Lw.hid hc5; have HV5 := Lw.hid hv5
                have KY5 : Hid (Kept (fun _ => False) wr y5) := Lw.hid (KY4.out.trans ky5 (fun i hi h => by omega))
                have hzy5 : wr.heap.size ≤ y5.heap.size := KY5.out.size
                clear hp5 hc5 hv5 ky5
                go_wp2_with fail
                refine (drevive_any y5 gc vc5 _ C5.out).mono ?_
                rw [hst.2.2.2]
                rintro e y6 ⟨rfl, hp6⟩
                obtain ⟨vc6, hc6, hv6, ky6⟩ := hp6.go (lo := wr.heap.size) hgc HV5.out hzy5
                have C6 := Lw.hid hc6; have HV6 := Lw.hid hv6
                have KY6 : Hid (Kept (fun _ => False) wr y6) := Lw.hid (KY5.out.trans ky6 (fun i hi h => by omega))
                have hzy6 : wr.heap.size ≤ y6.heap.size := KY6.out.size
                have KW6 := Lw.hid ((KWX.out.trans KQ.out (fun _ _ h => h)).trans KY6.out (fun _ _ h => h))
                obtain ⟨htr, htd⟩ := torn_rdt RD.out HFIT.out (by rw [HCAP.out]; omega) (by omega) q
                have hRS : tornR rs r q = rs := by unfold tornR; rw [HM.out]; exact if_pos (by omega)
                rw [hRS] at htr
                have TR := Lw.hid htr; have TD := Lw.hid htd
                clear hp6 hc6 hv6 ky6 hst htr htd hRS HSTEP
                go_wp2_with fail
                have hlx : rs.length ≤ 20 := by omega
                refine (open_env w0 y6 HE.out KW6.out gc vc6 _ rs _ (2 + k) C6.out (by omega) (fun b hb => by have := HV6.out b hb; omega) TR.out TD.out (by rw [torn_cap, HCAP.out]; omega) (by omega) (by omega)).mono ?_
                rintro e y7 ⟨v7, kj, BLk, D7, m7, rfl, hj7, hr7, hc7, k7, f7, -⟩
                obtain ⟨FK, vak, spk, jk7, -, -⟩ := hj7.m
                obtain ⟨FK, hFKe⟩ : ∃ FK2, FK2 = FK := ⟨_, rfl⟩
                subst hFKe
                obtain ⟨FKx, vakx, spkx, jkx, hfx, -⟩ := hj7.m
                have JK7 := Lw.hid jkx; have HFX := Lw.hid hfx
                have C7 := Lw.hid hj7.l.d
                have HV7 : Hid (∀ b, blk v7 b → wr.heap.size ≤ b) := Lw.hid (fun b hb => (f7 b hb).elim (HV6.out b) (fun h => by omega))
                have KY7 : Hid (Kept (fun _ => False) wr y7) := Lw.hid (KY6.out.trans k7 (fun i hi e => by rcases e with e | e; omega; have := HV6.out i e; omega))
                have R7 := Lw.hid hr7; have HC7 := Lw.hid hc7
                have hzy7 : wr.heap.size ≤ y7.heap.size := KY7.out.size
                have HCL := Lw.hid (opnR_closed rs)
                clear hj7 hr7 hc7 k7 f7 jk7 jkx hfx
                go_wp2_with fail
                refine (jbusy_any y7 FKx kj BLk spkx vakx _ JK7.out).mono ?_
                rw [HCL.out]
                rintro e _ ⟨rfl, rfl⟩
                obtain ⟨wz, hwz⟩ : ∃ wz, y7 = wz := ⟨_, rfl⟩
                rw [hwz] at JK7 C7 KY7 hzy7 ⊢
                clear hwz
                have KX7 := Lw.hid (KQ.out.trans KY7.out (fun _ _ h => h))
                have WASQ := Lw.hid (own_kept KX7.out WASX.out (fun _ _ h => h)); have WASQL := HLR
                have STQ := Lw.hid (STX.out.kept KX7.out (fun _ _ h => h)); have B11Q := Lw.hid (KX7.out.heap B11X.out (fun h => h))
                have NOWQ := Lw.hid (own_kept KX7.out NOW5.out (fun _ _ h => h)); have NOWQL := HLR2
                have THQ := Lw.hid ((TH5.out).kept KX7.out (fun _ _ h => h)); have B15Q := Lw.hid (KX7.out.heap B15.out (fun h => h))
                go_wp2_with fail
                refine wp_region_tail 7 [stV (.slice adw0 nw0 cw0), stRow wz.heap.size (cutC (runJ rs).cs), stV (.slice ads ns cs9), stV (.agg #[.int .u32 ((runJ rs).mark.a : Int), .int .u32 ((runJ rs).mark.b : Int), .int .u32 ((runJ rs).mark.c : Int)]), stMk wz.heap.size, stRow wz.heap.size (cutC (runJ rs).cs), stV (.slice ads ns cs9)] (by kernel_rfl) (by kernel_rfl) ?_ ?_
                · refine ssteps_cons (fun a' w' hI hag hf K hK => ?_) ?_
                  · have s9 := hag.same 9 (by decide)
                    clear hag
                    go_wp2_with fail
                    exact hK _ _ hI (Kept.refl _ _) rfl
                  refine ssteps_cons (fun a' w' hI hag hf K hK => ?_) ?_
                  · obtain ⟨⟨_, h0, rfl⟩, -⟩ : SFacts _ _ a' w' [0] := hf
                    clear hag
                    have HI := Lw.hid hI
                    clear hI
                    go_wp2_with fail
                    refine (ccut_any w' _ _ (own_kept HI.out WASQ.out (fun _ _ h => h)) WASQL.out).mono ?_
                    rintro e w6 ⟨vq, rfl, hr6, hb6, k6⟩
                    have R6 := Lw.hid (isRow hr6 (b0 := wz.heap.size) (fun k hk => Nat.le_trans HI.out.size (hb6 k hk)))
                    have K6 := Lw.hid k6
                    clear hr6 hb6 k6
                    obtain ⟨ad6, n6, c6, he6⟩ := R6.out.1
                    subst he6
                    go_wp2_with fail
                    exact hK _ _ (HI.out.trans K6.out (fun _ _ h => h)) K6.out R6.out
                  iterate 2
                    refine ssteps_cons (fun a' w' hI hag hf K hK => ?_) ?_
                    · have s10 := hag.same 10 (by decide)
                      have s11 := hag.same 11 (by decide)
                      clear hag
                      have hbx := hI.heap B11Q.out (fun h => h)
                      have cA := heap_cell hbx 0; have cB := heap_cell hbx 1; have cC := heap_cell hbx 2
                      clear hbx
                      go_wp2_with fail
                      exact hK _ _ hI (Kept.refl _ _) rfl
                  refine ssteps_cons (fun a' w' hI hag hf K hK => ?_) ?_
                  · clear hag
                    go_wp2_with fail
                    have kk : Kept (fun _ => False) w' (w'.alloc (mC ⟨0, 0, 0⟩)) := (Kept.refl _ w').alloc _
                    exact hK _ _ (hI.trans kk (fun _ _ h => h)) kk ⟨_, rfl, heap_alloc w' _, hI.size⟩
                  refine ssteps_cons (fun a' w' hI hag hf K hK => ?_) ?_
                  · obtain ⟨⟨v1, h1, e1⟩, -⟩ : SFacts _ _ a' w' [1, 0, 4] := hf
                    clear hag
                    obtain ⟨⟨ad1, n1, c1, he1⟩, hr1, hb1⟩ := e1
                    subst he1
                    have R1 := Lw.hid (show IsRow wz.heap.size (cutC (runJ rs).cs) (.slice ad1 n1 c1) w' from ⟨⟨_, _, _, rfl⟩, hr1, hb1⟩)
                    clear hr1 hb1
                    go_wp2_with fail
                    exact hK _ _ hI (Kept.refl _ _) R1.out
                  refine ssteps_cons (fun a' w' hI hag hf K hK => ?_) ?_
                  · obtain ⟨⟨_, h2, rfl⟩, -⟩ : SFacts _ _ a' w' [2, 5, 0, 1, 4] := hf
                    clear hag
                    go_wp2_with fail
                    exact hK _ _ hI (Kept.refl _ _) rfl
                  exact trivial
                · intro vs wy hI hvs
                  have q1 := hvs 1 _ _ rfl rfl
                  have q4 := hvs 4 _ _ rfl rfl
                  have q5 := hvs 5 _ _ rfl rfl
                  simp only [pzz, putAll, Act.put, Nat.reduceAdd, spv (hvs 0 _ _ rfl rfl) rfl, spv (hvs 2 _ _ rfl rfl) rfl, spv (hvs 3 _ _ rfl rfl) rfl, spv (hvs 6 _ _ rfl rfl) rfl]
                  clear hvs
                  generalize vs 1 = x1 at *
                  generalize vs 4 = x4 at *
                  generalize vs 5 = x5 at *
                  obtain ⟨⟨adw, nw, cw, hew⟩, hwr, hwb⟩ := q5
                  subst hew
                  obtain ⟨bm, rfl, hbm, hbl⟩ := q4
                  have BM0 := Lw.hid hbm; have HWR0 := Lw.hid hwr; have KI0 := Lw.hid hI; have HBL0 := Lw.hid hbl; have HWB0 := Lw.hid hwb
                  have hA := heap_set BM0.out 0 (.int .u32 ((runJ rs).mark.a : Int))
                  have hB := heap_set hA 1 (.int .u32 ((runJ rs).mark.b : Int))
                  have hC := heap_set hB 2 (.int .u32 ((runJ rs).mark.c : Int))
                  simp only [List.setIfInBounds_toArray, List.set_cons_zero, List.set_cons_succ] at hA hB hC
                  have j3 := heap_cell BM0.out 0; have f3 := heap_free BM0.out 0
                  have j4 := heap_cell hA 1; have f4 := heap_free hA 1
                  have j5 := heap_cell hB 2; have f5 := heap_free hB 2
                  have ks := (((Kept.refl (fun k => k = bm) wy).set bm 0 (fun _ => rfl) (.int .u32 ((runJ rs).mark.a : Int))).set bm 1 (fun _ => rfl) (.int .u32 ((runJ rs).mark.b : Int))).set bm 2 (fun _ => rfl) (.int .u32 ((runJ rs).mark.c : Int))
                  obtain ⟨wn1, hwn1⟩ : ∃ wn1, ((wy.setCell ⟨bm, 0, none⟩ (.int .u32 ((runJ rs).mark.a : Int))).setCell ⟨bm, 1, none⟩ (.int .u32 ((runJ rs).mark.b : Int))).setCell ⟨bm, 2, none⟩ (.int .u32 ((runJ rs).mark.c : Int)) = wn1 := ⟨_, rfl⟩
                  rw [hwn1] at hC ks
                  have BM := Lw.hid hC; have KMwn1 := Lw.hid ks; have HNwn1 := Lw.hid hwn1
                  clear hA hB hC ks hwn1
                  have WANT1 : Hid (RowC wn1 (.slice adw nw cw) (cutC (runJ rs).cs)) := Lw.hid (own_kept KMwn1.out HWR0.out (fun b hb e => row_ne HWR0.out BM0.out (by rw [← e]; exact hb)))
                  have KN1 : Hid (Kept (fun _ => False) wz wn1) := Lw.hid (KI0.out.trans KMwn1.out (fun i hi e => by omega))
                  have BM1 := BM
                  have HWL1 : Hid (∀ b, blk (.slice adw nw cw) b → wz.heap.size ≤ b) := HWB0
                  clear hI hwr hwb hbm BM q1
                  go_wp2_with fail
                  rw [HNwn1.out]
                  clear j3 f3 j4 f4 j5 f5
                  have WANTF := WANT1; have KNF := KN1; have HWLF := HWL1; have BMF := BM1
                  have KYF : Hid (Kept (fun _ => False) wr wn1) := Lw.hid (KY7.out.trans KNF.out (fun _ _ h => h))
                  have CF := Lw.hid (C7.out.kept KNF.out (fun h => h) (fun _ _ h => h)); have JKF := Lw.hid (JK7.out.kept KNF.out (fun _ _ h => h))
                  have Kwn1 := Lw.hid ((KWX.out.trans KQ.out (fun _ _ h => h)).trans KYF.out (fun _ _ h => h))
                  have hlo : (opnR rs).length ≤ 30 := by unfold opnR; split; omega; simp; omega
                  have hcl := heap_lt C7.out.box; have HCV := Lw.hid (own_lt C7.out.own)
                  refine (open_env w0 wn1 HE.out Kwn1.out gc v7 _ (opnR rs) _ (2 + k + 2) CF.out (by omega) (fun b hb => by have := HV7.out b hb; omega) R7.out (.inr ⟨_, rfl⟩) (by rw [HC7.out, torn_cap, HCAP.out]; omega) (by omega) (by omega)).mono ?_
                  rintro e w8 ⟨v8, aj, BLa, D8, m8, rfl, hj8, -, -, k8, -, -⟩
                  rw [opnR_idem] at hj8
                  obtain ⟨FA, vaa, spa, ja8, -, -⟩ := hj8.m
                  have JA := Lw.hid ja8
                  have hzz := KNF.out.size
                  have JK := Lw.hid (JKF.out.kept k8 (fun b hb e => by have := HFX.out b hb; rcases e with e | e; exact this.2.2.1 e; exact this.2.2.2 e))
                  have WANT := Lw.hid (own_kept k8 WANTF.out (fun b hb e => by have := HWLF.out b hb; rcases e with e | e; omega; have := HCV.out b e; omega))
                  have BMZ := Lw.hid (k8.heap BMF.out (fun e => by have := HBL0.out; rcases e with e | e; omega; have := HCV.out _ e; omega))
                  have KY8 : Hid (Kept (fun _ => False) wr w8) := Lw.hid (KYF.out.trans k8 (fun i hi e => by rcases e with e | e; omega; have := HV7.out i e; omega))
                  have TOLD := Lw.hid (STX.out.kept (KQ.out.trans KY8.out (fun _ _ h => h)) (fun _ _ h => h))
                  have HCS := Lw.hid (opnR_cs rs); have HBX := Lw.hid TR.out.good.bnd
                  have HLK : Hid ((runJ (opnR rs)).cs.length ≤ 1000) := Lw.hid (by have := runJ_len (opnR rs); omega)
                  have HLC : Hid ((cutC (runJ rs).cs).length ≤ 1000) := Lw.hid (by rw [← HCS.out.1]; exact HLK.out)
                  clear hj8 k8 ja8
                  go_wp2_with fail
                  refine wp_region_tail 30 [stV (.int .i64 0), stV (.bool false), stV (.bool false), stV (.pointer (some ⟨kj, 0, none⟩)), stRow w8.heap.size (cutC (runJ rs).cs), stV (.slice adw nw cw), stV (.bool true), stV (.bool false), stV (.bool false), stV (.bool false), stV (.pointer (some ⟨kj, 0, none⟩)), stSt w8.heap.size (runJ rs).st (runJ rs).v, stOwn w8.heap.size (stB (runJ rs)), stV (.slice ads ns cs9), stV (.bool true), stV (.bool false), stV (.bool false), stV (.bool false), stV (.pointer (some ⟨kj, 0, none⟩)), stV (.agg #[.int .u32 ((runJ rs).mark.a : Int), .int .u32 ((runJ rs).mark.b : Int), .int .u32 ((runJ rs).mark.c : Int)]), stV (.agg #[.int .u32 ((runJ rs).mark.a : Int), .int .u32 ((runJ rs).mark.b : Int), .int .u32 ((runJ rs).mark.c : Int)]), stV (.bool false), stV (.bool false), stV (.bool false), stV (.pointer (some ⟨aj, 0, none⟩)), stRow w8.heap.size (cutC (runJ rs).cs), stV (.slice adw nw cw), stV (.bool true), stV (.bool false), stV (.bool false)] (by kernel_rfl) (by kernel_rfl) ?_ ?_
                  · iterate 4
                      refine ssteps_cons (fun a' w' hI hag hf K hK => ?_) ?_
                      · obtain ⟨⟨_, h0, rfl⟩, -⟩ := hf
                        have s19 := hag.same 19 (by decide)
                        have s25 := hag.same 25 (by decide)
                        clear hag
                        go_wp2_with fail
                        exact hK _ _ hI (Kept.refl _ _) rfl
                    refine ssteps_cons (fun a' w' hI hag hf K hK => ?_) ?_
                    · obtain ⟨⟨_, h3, rfl⟩, ⟨_, h2, rfl⟩, -⟩ : SFacts _ _ a' w' [3, 2] := hf
                      clear hag
                      have HI := Lw.hid hI
                      clear hI
                      go_wp2_with fail
                      refine (commands_any w' FKx kj BLk spkx vakx _ (JK.out.kept HI.out (fun _ _ h => h)) HLK.out).mono ?_
                      rw [HCS.out.1]
                      rintro e w7 ⟨vq, rfl, hr7, hb7, k7⟩
                      have R7 := Lw.hid (isRow hr7 (b0 := w8.heap.size) (fun k hk => Nat.le_trans HI.out.size (hb7 k hk)))
                      have K7 := Lw.hid k7
                      clear hr7 hb7 k7
                      obtain ⟨ad7, n7, c7, he7⟩ := R7.out.1
                      subst he7
                      go_wp2_with fail
                      exact hK _ _ (HI.out.trans K7.out (fun _ _ h => h)) K7.out R7.out
                    refine ssteps_cons (fun a' w' hI hag hf K hK => ?_) ?_
                    · obtain ⟨⟨_, h0, rfl⟩, -⟩ := hf
                      have s21 := hag.same 21 (by decide)
                      clear hag
                      go_wp2_with fail
                      exact hK _ _ hI (Kept.refl _ _) rfl
                    refine ssteps_cons (fun a' w' hI hag hf K hK => ?_) ?_
                    · obtain ⟨⟨v4, h4, e4⟩, ⟨_, h5, rfl⟩, ⟨_, h2, rfl⟩, -⟩ : SFacts _ _ a' w' [4, 5, 2] := hf
                      clear hag
                      obtain ⟨⟨ad1, n1, c1, he1⟩, hr1, hb1⟩ := e4
                      subst he1
                      have HR1 := Lw.hid hr1; have HI := Lw.hid hI
                      clear hr1 hb1 hI
                      go_wp2_with fail
                      refine (ceq_any w' _ _ _ HR1.out (own_kept HI.out WANT.out (fun _ _ h => h)) HLC.out).mono ?_
                      rintro e w7 ⟨rfl, k7⟩
                      have K7 := Lw.hid k7
                      clear k7
                      go_wp2_with fail
                      exact hK _ _ (HI.out.trans K7.out (fun _ _ h => h)) K7.out rfl
                    iterate 4
                      refine ssteps_cons (fun a' w' hI hag hf K hK => ?_) ?_
                      · obtain ⟨⟨_, h0, rfl⟩, ⟨_, h1, rfl⟩, -⟩ := hf
                        have s19 := hag.same 19 (by decide)
                        clear hag
                        go_wp2_with fail
                        exact hK _ _ hI (Kept.refl _ _) rfl
                    refine ssteps_cons (fun a' w' hI hag hf K hK => ?_) ?_
                    · obtain ⟨⟨_, h10, rfl⟩, ⟨_, h9, rfl⟩, -⟩ : SFacts _ _ a' w' [10, 9] := hf
                      clear hag
                      have HI := Lw.hid hI
                      clear hI
                      go_wp2_with fail
                      refine (jstate_any w' FKx kj BLk spkx vakx _ (JK.out.kept HI.out (fun _ _ h => h))).mono ?_
                      rw [HCS.out.2.1, HCS.out.2.2.1]
                      rintro e w7 ⟨gq, rfl, hs7, k7⟩
                      have S7 := Lw.hid (hs7.mono (G := fun b => w8.heap.size ≤ b) (fun b _ h => Nat.le_trans HI.out.size h)); have K7 := Lw.hid k7
                      clear hs7 k7
                      go_wp2_with fail
                      exact hK _ _ (HI.out.trans K7.out (fun _ _ h => h)) K7.out ⟨gq, rfl, S7.out⟩
                    refine ssteps_cons (fun a' w' hI hag hf K hK => ?_) ?_
                    · obtain ⟨⟨v11, h11, e11⟩, ⟨_, h9, rfl⟩, -⟩ : SFacts _ _ a' w' [11, 9] := hf
                      clear hag
                      obtain ⟨gq, rfl, hs7⟩ := e11
                      have S7 := Lw.hid hs7; have HI := Lw.hid hI
                      clear hs7 hI
                      go_wp2_with fail
                      refine (sb_of w' _ gq _ _ HBX.out S7.out).mono ?_
                      rintro e w7 ⟨vq, rfl, ⟨ho7, hb7⟩, k7⟩
                      have O7 := Lw.hid ho7; have B7 := Lw.hid hb7; have K7 := Lw.hid k7
                      obtain ⟨ad7, c7, he7, _⟩ := own_slice ho7
                      clear ho7 hb7 k7
                      obtain ⟨n7, hn7⟩ : ∃ n7, (stB (runJ rs)).length = n7 := ⟨_, rfl⟩
                      rw [hn7] at he7
                      subst he7
                      go_wp2_with fail
                      exact hK _ _ (HI.out.trans K7.out (fun _ _ h => h)) K7.out ⟨O7.out, fun k hk => Nat.le_trans HI.out.size (B7.out k hk)⟩
                    refine ssteps_cons (fun a' w' hI hag hf K hK => ?_) ?_
                    · obtain ⟨⟨_, h0, rfl⟩, -⟩ := hf
                      have s22 := hag.same 22 (by decide)
                      clear hag
                      go_wp2_with fail
                      exact hK _ _ hI (Kept.refl _ _) rfl
                    refine ssteps_cons (fun a' w' hI hag hf K hK => ?_) ?_
                    · obtain ⟨⟨v12, h12, e12⟩, ⟨_, h13, rfl⟩, ⟨_, h9, rfl⟩, -⟩ : SFacts _ _ a' w' [12, 13, 9] := hf
                      clear hag
                      have ho7 := e12.1
                      obtain ⟨ad7, c7, he7, _⟩ := own_slice ho7
                      have O7 := Lw.hid ho7; have HI := Lw.hid hI
                      obtain ⟨n7, hn7⟩ : ∃ n7, (stB (runJ rs)).length = n7 := ⟨_, rfl⟩
                      rw [hn7] at he7
                      subst he7
                      clear ho7 hI e12 hn7
                      go_wp2_with fail
                      refine (beq_any w' _ _ (stB (runJ rs)) (RdB.of_own O7.out rfl) (TOLD.out.kept HI.out (fun _ _ h => h))).mono ?_
                      rintro e w7 ⟨rfl, rfl⟩
                      go_wp2_with fail
                      exact hK _ _ HI.out (Kept.refl _ _) rfl
                    iterate 4
                      refine ssteps_cons (fun a' w' hI hag hf K hK => ?_) ?_
                      · obtain ⟨⟨_, h0, rfl⟩, ⟨_, h1, rfl⟩, -⟩ := hf
                        have s19 := hag.same 19 (by decide)
                        clear hag
                        go_wp2_with fail
                        exact hK _ _ hI (Kept.refl _ _) rfl
                    refine ssteps_cons (fun a' w' hI hag hf K hK => ?_) ?_
                    · obtain ⟨⟨_, h18, rfl⟩, ⟨_, h17, rfl⟩, -⟩ : SFacts _ _ a' w' [18, 17] := hf
                      clear hag
                      have HI := Lw.hid hI
                      clear hI
                      go_wp2_with fail
                      refine (jmarked_any w' FKx kj BLk spkx vakx _ (JK.out.kept HI.out (fun _ _ h => h))).mono ?_
                      rw [HCS.out.2.2.2]
                      rintro e w7 ⟨rfl, k7⟩
                      have K7 := Lw.hid k7
                      clear k7
                      go_wp2_with fail
                      exact hK _ _ (HI.out.trans K7.out (fun _ _ h => h)) K7.out rfl
                    iterate 5
                      refine ssteps_cons (fun a' w' hI hag hf K hK => ?_) ?_
                      · obtain ⟨⟨_, h0, rfl⟩, ⟨_, h1, rfl⟩, ⟨_, h2, rfl⟩, -⟩ := hf
                        have s23 := hag.same 23 (by decide)
                        have s24 := hag.same 24 (by decide)
                        clear hag
                        have hbx := hI.heap BMZ.out (fun h => h)
                        have cA := heap_cell hbx 0; have cB := heap_cell hbx 1; have cC := heap_cell hbx 2
                        clear hbx
                        go_wp2_with fail
                        exact hK _ _ hI (Kept.refl _ _) rfl
                    refine ssteps_cons (fun a' w' hI hag hf K hK => ?_) ?_
                    · obtain ⟨⟨_, h24, rfl⟩, ⟨_, h23, rfl⟩, -⟩ : SFacts _ _ a' w' [24, 23] := hf
                      clear hag
                      have HI := Lw.hid hI
                      clear hI
                      go_wp2_with fail
                      refine (commands_any w' FA aj BLa spa vaa _ (JA.out.kept HI.out (fun _ _ h => h)) HLK.out).mono ?_
                      rw [HCS.out.1]
                      rintro e w7 ⟨vq, rfl, hr7, hb7, k7⟩
                      have R7 := Lw.hid (isRow hr7 (b0 := w8.heap.size) (fun k hk => Nat.le_trans HI.out.size (hb7 k hk)))
                      have K7 := Lw.hid k7
                      clear hr7 hb7 k7
                      obtain ⟨ad7, n7, c7, he7⟩ := R7.out.1
                      subst he7
                      go_wp2_with fail
                      exact hK _ _ (HI.out.trans K7.out (fun _ _ h => h)) K7.out R7.out
                    refine ssteps_cons (fun a' w' hI hag hf K hK => ?_) ?_
                    · obtain ⟨⟨_, h0, rfl⟩, -⟩ := hf
                      have s21 := hag.same 21 (by decide)
                      clear hag
                      go_wp2_with fail
                      exact hK _ _ hI (Kept.refl _ _) rfl
                    refine ssteps_cons (fun a' w' hI hag hf K hK => ?_) ?_
                    · obtain ⟨⟨v25, h25, e25⟩, ⟨_, h26, rfl⟩, ⟨_, h23, rfl⟩, -⟩ : SFacts _ _ a' w' [25, 26, 23] := hf
                      clear hag
                      obtain ⟨⟨ad1, n1, c1, he1⟩, hr1, hb1⟩ := e25
                      subst he1
                      have HR1 := Lw.hid hr1; have HI := Lw.hid hI
                      clear hr1 hb1 hI
                      go_wp2_with fail
                      refine (ceq_any w' _ _ _ HR1.out (own_kept HI.out WANT.out (fun _ _ h => h)) HLC.out).mono ?_
                      rintro e w7 ⟨rfl, k7⟩
                      have K7 := Lw.hid k7
                      clear k7
                      go_wp2_with fail
                      exact hK _ _ (HI.out.trans K7.out (fun _ _ h => h)) K7.out rfl
                    iterate 2
                      refine ssteps_cons (fun a' w' hI hag hf K hK => ?_) ?_
                      · obtain ⟨⟨_, h0, rfl⟩, ⟨_, h1, rfl⟩, -⟩ := hf
                        clear hag
                        go_wp2_with fail
                        exact hK _ _ hI (Kept.refl _ _) rfl
                    exact trivial
                  · intro vs wy hI hvs
                    have q4 := hvs 4 _ _ rfl rfl
                    have q11 := hvs 11 _ _ rfl rfl
                    have q12 := hvs 12 _ _ rfl rfl
                    have q25 := hvs 25 _ _ rfl rfl
                    simp only [pzz, putAll, Act.put, Nat.reduceAdd, spv (hvs 0 _ _ rfl rfl) rfl, spv (hvs 1 _ _ rfl rfl) rfl, spv (hvs 2 _ _ rfl rfl) rfl, spv (hvs 3 _ _ rfl rfl) rfl, spv (hvs 5 _ _ rfl rfl) rfl, spv (hvs 6 _ _ rfl rfl) rfl, spv (hvs 7 _ _ rfl rfl) rfl, spv (hvs 8 _ _ rfl rfl) rfl, spv (hvs 9 _ _ rfl rfl) rfl, spv (hvs 10 _ _ rfl rfl) rfl, spv (hvs 13 _ _ rfl rfl) rfl, spv (hvs 14 _ _ rfl rfl) rfl, spv (hvs 15 _ _ rfl rfl) rfl, spv (hvs 16 _ _ rfl rfl) rfl, spv (hvs 17 _ _ rfl rfl) rfl, spv (hvs 18 _ _ rfl rfl) rfl, spv (hvs 19 _ _ rfl rfl) rfl, spv (hvs 20 _ _ rfl rfl) rfl, spv (hvs 21 _ _ rfl rfl) rfl, spv (hvs 22 _ _ rfl rfl) rfl, spv (hvs 23 _ _ rfl rfl) rfl, spv (hvs 24 _ _ rfl rfl) rfl, spv (hvs 26 _ _ rfl rfl) rfl, spv (hvs 27 _ _ rfl rfl) rfl, spv (hvs 28 _ _ rfl rfl) rfl, spv (hvs 29 _ _ rfl rfl) rfl]
                    clear hvs
                    generalize vs 4 = x4 at *
                    generalize vs 11 = x11 at *
                    generalize vs 12 = x12 at *
                    generalize vs 25 = x25 at *
                    have KY9 := Lw.hid (KY8.out.trans hI (fun _ _ h => h))
                    clear hI q4 q11 q12 q25
                    go_wp2_with fail
                    go_roundg (92 - (q + 1))
                    case measure => omega
                    case rel => exact ⟨q + 1, rfl, by omega, by go_num, KQ.out.trans KY9.out (fun _ _ h => h)⟩
          · obtain rfl : q = 92 := by omega
            have KXQ := Lw.hid (KX5.out.trans KQ.out (fun _ _ h => h))
            go_wp2_with fail
            go_roundg (na - (k + 1))
            case measure => omega
            case rel => exact ⟨k + 1, v10, App D rs r, rs ++ [r], rfl, hkn, by go_num, JR10.out.kept KXQ.out (fun _ _ h => h), RD10.out.mono (by omega) (by omega), by simp; omega, by rw [App_cap, HCAP.out], KR10.out.trans KXQ.out (fun _ _ h => h.elim)⟩
    · obtain rfl : k = na := by omega
      go_wp2_with fail
      refine (book_any w0 wr HE.out KW.out).mono ?_
      rintro e wz ⟨rfl, kz⟩
      have KZ := Lw.hid kz
      clear kz
      go_wp2_with fail
      rw [Exit.noGoto_ret]
      go_ret
      exact ⟨rfl, KZ.out⟩
end Go.Proofs.YtgegjjnfcnalfaaGreatDoor
