/- Of the proof of TopBooks: JN, JO. -/
import Derived.Test.YtgegjjnfcnalfaaGreatDoorG31
namespace Go.Proofs.YtgegjjnfcnalfaaGreatDoor
open Go Go.RowKit Go.Lw
set_option maxRecDepth 100000
set_option linter.unusedVariables false
set_option linter.unusedSimpArgs false
attribute [local go_sem] BA_toList
theorem JL.len {w : World} {B : Nat → Prop} {j BL g : Nat} {v : Value} {D : Dsk} {rs : List Rc} {K : Nat} (hd : Rdy K D rs) : (runJ rs).cs.length % 4294967296 = (runJ rs).cs.length := by
  have := runJ_len rs; have := hd.few
  exact Nat.mod_eq_of_lt (by omega)
theorem StAt.sets {w : World} {F : Nat → Prop} {g : Nat} {st : Int} {o : Option (List UInt8)} (h : StAt w F g st o) (n : Int) : StAt (w.setCell ⟨g, 0, none⟩ (.int .i64 n)) F g n o ∧ Kept F w (w.setCell ⟨g, 0, none⟩ (.int .i64 n)) := by
  obtain ⟨ft, m, h1, h2, h3, h4, h5, h6⟩ := h.mem
  have k : Kept (fun k => k = g) w (w.setCell ⟨g, 0, none⟩ (.int .i64 n)) := (Kept.refl (fun k => k = g) w).set g 0 (fun _ => rfl) _
  exact ⟨⟨ft, m, heap_set h1 0 _, h2.kept k (fun b hb e => hb.2.1 e), h3.kept k h6, h4, h5, h6⟩, k.mono (fun i _ e => by rw [e]; exact h4)⟩
def IPost (w : World) (B : Nat → Prop) (j BL g : Nat) (D : Dsk) (rs : List Rc) (e : Ending) (w' : World) : Prop :=
  ∃ (er : Int) (id : Nat), e = .returned (.tuple #[.int .u32 (id : Int), .int .i64 er]) ∧ ((er ≠ 0 ∧ Kept (fun _ => False) w w') ∨ (er = 0 ∧ id = (runJ rs).cs.length + 1 ∧ ∃ r, r.Fit (runJ rs) ∧ AOk w B j BL g D rs r w'))
set_option maxHeartbeats 4000000 in
theorem signal_any (w : World) (B : Nat → Prop) (j BL g : Nat) (v : Value) (D : Dsk) (rs : List Rc) (K : Nat) (h : JL w B j BL g v D rs) (hd : Rdy K D rs) (ht : Tab w) (hr : 89 * rs.length + 89 ≤ D.cap) (hk : K + 1 ≤ 1000000) (hn : rs.length < 100) (n : Int) :
    Calls Tryz.prog 46 #[.pointer (some ⟨j, 0, none⟩), .int .i64 n] w (RPost w B j BL g D rs) := by
  obtain ⟨F, va, sp, h1, h2, h3⟩ := h.m
  have hlen := JL.len (w := w) (B := B) (j := j) (BL := BL) (g := g) (v := v) hd
  have H1 := Lw.hid h1; have HLN := Lw.hid hlen
  have HC := Lw.hid (sig_core w B j BL g v D rs K h hd ht hr hk hn n)
  clear h hd ht hr hk hn h1 h2 h3 hlen
  unfold rv at HC
  go_enter Tryz.func46, Tryz.ntmps46
  go_wp2_with fail
  refine (jnone_any w j BL sp va _ H1.out.box).mono ?_
  rintro e _ ⟨rfl, rfl⟩
  go_wp2_with fail
  refine (jlast_any w F j BL sp va _ H1.out).mono ?_
  rw [HLN.out]
  rintro e _ ⟨rfl, rfl⟩
  go_wp2_with fail
  refine HC.out.mono ?_
  rintro e w2 ⟨er, rfl, hp⟩
  have HP := Lw.hid hp
  clear hp
  go_wp2_with fail
  go_ret
  exact ⟨er, by simp, HP.out⟩
set_option maxHeartbeats 4000000 in
theorem mark_any (w : World) (B : Nat → Prop) (j BL g : Nat) (v : Value) (D : Dsk) (rs : List Rc) (K : Nat) (h : JL w B j BL g v D rs) (hd : Rdy K D rs) (ht : Tab w) (hr : 89 * rs.length + 89 ≤ D.cap) (hk : K + 1 ≤ 1000000) (hn : rs.length < 100) (m : Mk) (hm : m.a < 4294967296 ∧ m.b < 4294967296 ∧ m.c < 4294967296) :
    Calls Tryz.prog 49 #[.pointer (some ⟨j, 0, none⟩), .agg #[.int .u32 (m.a : Int), .int .u32 (m.b : Int), .int .u32 (m.c : Int)]] w (RPost w B j BL g D rs) := by
  obtain ⟨F, va, sp, h1, h2, h3⟩ := h.m
  obtain ⟨w1, hw1⟩ : ∃ w1, w.alloc (.cells #[.int .u32 (m.a : Int), .int .u32 (m.b : Int), .int .u32 (m.c : Int)] 42) = w1 := ⟨_, rfl⟩
  have k1 : Kept (fun _ => False) w w1 := by rw [← hw1]; exact (Kept.refl _ w).alloc _
  have H1 := Lw.hid (h1.kept k1 (fun _ _ h => h)); have K1 := Lw.hid k1; have HW := Lw.hid hw1
  have hm0 : w1.heap[w.heap.size]? = some (.cells #[.int .u32 (m.a : Int), .int .u32 (m.b : Int), .int .u32 (m.c : Int)] 42 (0, 0)) := by rw [← hw1]; exact heap_alloc w _
  have c0 := heap_cell hm0 0; have c1 := heap_cell hm0 1; have c2 := heap_cell hm0 2
  have HC := Lw.hid (app_mark w1 B j BL g v D rs K (h.kept k1 (fun _ _ h => h)) hd (ht.below (k1.below (Nat.le_refl _) (fun _ _ h => h))) hr hk hn m 0 hm)
  clear h hd ht hr hk hn h1 h2 h3 hm0 k1 hw1
  unfold rv at HC
  go_enter Tryz.func49, Tryz.ntmps49
  go_wp2_with fail
  rw [HW.out]
  refine (jnone_any w1 j BL sp va _ H1.out.box).mono ?_
  rintro e _ ⟨rfl, rfl⟩
  go_wp2_with fail
  refine HC.out.mono ?_
  rintro e w2 hp
  have HP := Lw.hid (RPost.kept K1.out (RPost.yes (.mark m) hm hp))
  obtain rfl := hp.1
  clear hp
  go_wp2_with fail
  go_ret
  exact HP.out
set_option maxHeartbeats 4000000 in
theorem intent_any (w : World) (B : Nat → Prop) (j BL g : Nat) (v : Value) (D : Dsk) (rs : List Rc) (K : Nat) (h : JL w B j BL g v D rs) (hd : Rdy K D rs) (ht : Tab w) (hr : 89 * rs.length + 89 ≤ D.cap) (hk : K + 1 ≤ 1000000) (hn : rs.length < 100) (t : List UInt8) (htl : t.length ≤ 60) :
    Calls Tryz.prog 44 #[.pointer (some ⟨j, 0, none⟩), .string (BA t)] w (IPost w B j BL g D rs) := by
  obtain ⟨F, va, sp, h1, h2, h3⟩ := h.m
  have hlen := JL.len (w := w) (B := B) (j := j) (BL := BL) (g := g) (v := v) hd
  have hsm : (runJ rs).cs.length ≤ 100 := by have := runJ_len rs; omega
  have H1 := Lw.hid h1; have HLN := Lw.hid hlen
  have HC := Lw.hid (int_core w B j BL g v D rs K h hd ht hr hk hn t htl)
  obtain ⟨n, hnn⟩ : ∃ n, (runJ rs).cs.length = n := ⟨_, rfl⟩
  rw [hnn] at hsm
  have HN := Lw.hid hnn
  rw [hnn] at HC
  clear h hd ht hr hk hn h1 h2 h3 hlen hnn
  unfold rv at HC
  have e1 : (((n + 1 : Nat) : Int)) = (n : Int) + 1 := rfl
  rw [e1] at HC
  clear e1
  go_enter Tryz.func44, Tryz.ntmps44
  go_wp2_with fail
  refine (jnone_any w j BL sp va _ H1.out.box).mono ?_
  rintro e _ ⟨rfl, rfl⟩
  go_wp2_with fail
  refine (jlast_any w F j BL sp va _ H1.out).mono ?_
  rw [HLN.out, HN.out]
  rintro e _ ⟨rfl, rfl⟩
  go_wp2_with fail
  refine HC.out.mono ?_
  rintro e w2 ⟨er, rfl, hp⟩
  rcases hp with ⟨he, hp⟩ | ⟨he, hp⟩
  · have HP := Lw.hid hp
    have g1 : (er == 0) = false := by simpa using he
    have g2 : (er != 0) = true := by simpa using he
    have HE := Lw.hid he
    clear hp he
    go_wp2_with fail
    exact bodyPost_ret (v := .tuple #[.int .u32 0, .int .i64 er]) (by simp [results, go_sem]) rfl ⟨er, 0, rfl, .inl ⟨HE.out, HP.out⟩⟩
  · have HP := Lw.hid hp
    subst he
    clear hp
    go_wp2_with fail
    exact bodyPost_ret (v := .tuple #[.int .u32 ((n : Int) + 1), .int .i64 0]) (by simp [results, go_sem]) rfl ⟨0, n + 1, rfl, .inr ⟨rfl, by rw [HN.out], HP.out⟩⟩
set_option maxHeartbeats 4000000 in
theorem put_any (w : World) (B : Nat → Prop) (j BL g : Nat) (v : Value) (D : Dsk) (rs : List Rc) (K : Nat) (h : JL w B j BL g v D rs) (hd : Rdy K D rs) (ht : Tab w) (hr : 89 * rs.length + 89 ≤ D.cap) (hk : K + 1 ≤ 1000000) (hn : rs.length < 100) (ch : Int) (t : List UInt8) (htl : t.length ≤ 60) :
    Calls Tryz.prog 45 #[.pointer (some ⟨j, 0, none⟩), .int .i64 ch, .string (BA t)] w (RPost w B j BL g D rs) := by
  obtain ⟨F, va, sp, h1, h2, h3⟩ := h.m
  have hlen := JL.len (w := w) (B := B) (j := j) (BL := BL) (g := g) (v := v) hd
  have H1 := Lw.hid h1; have HLN := Lw.hid hlen
  obtain ⟨n, hnn⟩ : ∃ n, (runJ rs).cs.length = n := ⟨_, rfl⟩
  have HCC : Hid (∀ (w1 : World) (off : Nat), Kept (fun _ => False) w w1 → (∀ c, (runJ rs).opn = some c → off = (if ch = 2 then c.out else c.err).length) → Calls Tryz.prog 30 #[.pointer (some ⟨j, 0, none⟩), .agg #[.int .u8 2, .int .u32 (n : Int), .string (BA t), .int .i64 ch, .int .i64 (off : Int), .int .i64 0, .pointer none, .int .u32 0, .int .u32 0, .int .u32 0]] w1 (RPost w B j BL g D rs)) := Lw.hid (by
    intro w1 off k ho
    have := put_core w1 B j BL g v D rs K (h.kept k (fun _ _ h => h)) hd (ht.below (k.below (Nat.le_refl _) (fun _ _ h => h))) hr hk hn ch off t htl ho
    rw [hnn] at this
    exact this.mono (fun e w' hp => RPost.kept k hp))
  have HN := Lw.hid hnn
  have hbn := hd.good.bnd.o
  have hfw := hd.few
  have HBN : Hid (∀ c ∈ (runJ rs).cs, c.out.length + c.err.length ≤ 60 * rs.length) := Lw.hid hbn
  clear h hd ht hr hk h2 h3 hlen hnn hbn
  go_enter Tryz.func45, Tryz.ntmps45
  go_wp2_with fail
  refine (jnone_any w j BL sp va _ H1.out.box).mono ?_
  rintro e _ ⟨rfl, rfl⟩
  go_wp2_with fail
  refine (jlast_any w F j BL sp va _ H1.out).mono ?_
  rw [HLN.out, HN.out]
  rintro e _ ⟨rfl, rfl⟩
  go_wp2_with fail
  obtain ⟨w1, hw1⟩ : ∃ w1, w.alloc (.cells #[.int .u8 2, .int .u32 (n : Int), .string (BA t), .int .i64 ch, .int .i64 0, .int .i64 0, .pointer none, .int .u32 0, .int .u32 0, .int .u32 0] 69) = w1 := ⟨_, rfl⟩
  obtain ⟨r, hr⟩ : ∃ r, w.heap.size = r := ⟨_, rfl⟩
  have K1 : Hid (Kept (fun _ => False) w w1) := Lw.hid (by rw [← hw1]; exact (Kept.refl _ w).alloc _)
  have HRB : Hid (w1.heap[r]? = some (.cells #[.int .u8 2, .int .u32 (n : Int), .string (BA t), .int .i64 ch, .int .i64 0, .int .i64 0, .pointer none, .int .u32 0, .int .u32 0, .int .u32 0] 69 (0, 0))) := Lw.hid (by rw [← hw1, ← hr]; exact heap_alloc w _)
  have H2 := Lw.hid (H1.out.kept K1.out (fun _ _ h => h))
  rw [hw1, hr]
  have HR := Lw.hid hr
  clear hw1 hr
  have r0 := heap_cell HRB.out 0; have r1 := heap_cell HRB.out 1; have r2 := heap_cell HRB.out 2; have r3 := heap_cell HRB.out 3; have r4 := heap_cell HRB.out 4; have r5 := heap_cell HRB.out 5; have r6 := heap_cell HRB.out 6; have r7 := heap_cell HRB.out 7; have r8 := heap_cell HRB.out 8; have r9 := heap_cell HRB.out 9
  have f4 := heap_free HRB.out 4
  cases ho : (runJ rs).opn with
  | none =>
    have HC := Lw.hid (HCC.out w1 0 K1.out (fun c hc => by rw [ho] at hc; cases hc))
    have HO := Lw.hid ho
    clear ho
    refine (jopen_no w1 F j BL sp va _ H2.out HO.out).mono ?_
    rintro e _ ⟨rfl, rfl⟩
    go_wp2_with fail
    refine HC.out.mono ?_
    rintro e w2 ⟨er, rfl, hp⟩
    have HP := Lw.hid hp
    clear hp
    go_wp2_with fail
    go_ret
    exact ⟨er, by simp, HP.out⟩
  | some c =>
    obtain ⟨cs, hc, hov⟩ := opn_last ho
    obtain ⟨b0, cap, hva, _, hq2, hcl⟩ := H2.out.cell hc
    have c2 := hcl 2 (by decide); have c3 := hcl 3 (by decide)
    simp only [Cmd.cells, List.getElem?_cons_zero, List.getElem?_cons_succ] at c2 c3
    obtain ⟨m, hm⟩ : ∃ m, cs.length = m := ⟨_, rfl⟩
    rw [hm] at c2 c3
    have hb := HBN.out c (by rw [hc]; simp)
    have so : (BA c.out).size = c.out.length := BA_size _
    have se : (BA c.err).size = c.err.length := BA_size _
    have HOP := Lw.hid ho; have HC1 := Lw.hid hc; have HOV := Lw.hid hov; have HVA := Lw.hid hva; have HM := Lw.hid hm
    obtain ⟨lo, hlo⟩ : ∃ lo, c.out.length = lo := ⟨_, rfl⟩
    obtain ⟨le, hle⟩ : ∃ le, c.err.length = le := ⟨_, rfl⟩
    rw [hlo, hle] at hb
    rw [hlo] at so
    rw [hle] at se
    have HLO := Lw.hid hlo; have HLE := Lw.hid hle
    have HSO := Lw.hid so; have HSE := Lw.hid se
    have hlo2 : lo ≤ 6000 := by omega
    have hle2 : le ≤ 6000 := by omega
    have hne : b0 ≠ r := fun e => by
      have h9 := H1.out.fr b0 (by rw [hva]; rfl)
      have := own_lt H1.out.row b0 (by rw [hva]; rfl)
      have := HR.out
      omega
    clear ho hc hov hva hcl hm hlo hle so se hb hfw hn
    refine (jopen_yes w1 F j BL sp va _ H2.out cs c HC1.out HOV.out b0 cap HVA.out).mono ?_
    rw [HM.out]
    rintro e _ ⟨rfl, rfl⟩
    by_cases h2 : ch = 2
    · subst h2
      have HC := fun w2 k => Lw.hid (HCC.out w2 lo k (fun c' hc' => by rw [HOP.out] at hc'; cases hc'; rw [if_pos rfl, HLO.out]))
      go_wp2_with fail
      refine (channel_any w1 b0 (m * 8) 2).mono ?_
      rintro e _ ⟨rfl, rfl⟩
      have c2' : w1.cell? ⟨b0, m * 8 + 2, none⟩ = some (.string (BA c.out)) := c2
      have hz := heap_set HRB.out 4 (.int .i64 (lo : Int))
      simp only [List.setIfInBounds_toArray, List.set_cons_zero, List.set_cons_succ] at hz
      have kz : Kept (fun k => k = r) w1 (w1.setCell ⟨r, 4, none⟩ (.int .i64 (lo : Int))) := (Kept.refl (fun k => k = r) w1).set r 4 (fun _ => rfl) _
      have HKZ : Hid (Kept (fun _ => False) w (w1.setCell ⟨r, 4, none⟩ (.int .i64 (lo : Int)))) := Lw.hid (K1.out.trans kz (fun i hi e => by have := HR.out; omega))
      have q0 := heap_cell hz 0; have q1 := heap_cell hz 1; have q2 := heap_cell hz 2; have q3 := heap_cell hz 3; have q4 := heap_cell hz 4; have q5 := heap_cell hz 5; have q6 := heap_cell hz 6; have q7 := heap_cell hz 7; have q8 := heap_cell hz 8; have q9 := heap_cell hz 9
      clear hz kz
      have hso := HSO.out
      clear HSO HSE
      go_wp2_with fail
      refine (HC _ HKZ.out).out.mono ?_
      rintro e w2 ⟨er, rfl, hp⟩
      have HP := Lw.hid hp
      clear hp
      go_wp2_with fail
      go_ret
      exact ⟨er, by simp, HP.out⟩
    · have h2' : (ch == 2) = false := by simp [h2]
      have HC := fun w2 k => Lw.hid (HCC.out w2 le k (fun c' hc' => by rw [HOP.out] at hc'; cases hc'; rw [if_neg h2, HLE.out]))
      go_wp2_with fail
      refine (channel_any w1 b0 (m * 8) ch).mono ?_
      rw [if_neg h2]
      rintro e _ ⟨rfl, rfl⟩
      have c3' : w1.cell? ⟨b0, m * 8 + 3, none⟩ = some (.string (BA c.err)) := c3
      have hz := heap_set HRB.out 4 (.int .i64 (le : Int))
      simp only [List.setIfInBounds_toArray, List.set_cons_zero, List.set_cons_succ] at hz
      have kz : Kept (fun k => k = r) w1 (w1.setCell ⟨r, 4, none⟩ (.int .i64 (le : Int))) := (Kept.refl (fun k => k = r) w1).set r 4 (fun _ => rfl) _
      have HKZ : Hid (Kept (fun _ => False) w (w1.setCell ⟨r, 4, none⟩ (.int .i64 (le : Int)))) := Lw.hid (K1.out.trans kz (fun i hi e => by have := HR.out; omega))
      have q0 := heap_cell hz 0; have q1 := heap_cell hz 1; have q2 := heap_cell hz 2; have q3 := heap_cell hz 3; have q4 := heap_cell hz 4; have q5 := heap_cell hz 5; have q6 := heap_cell hz 6; have q7 := heap_cell hz 7; have q8 := heap_cell hz 8; have q9 := heap_cell hz 9
      clear hz kz
      have hse := HSE.out
      clear HSO HSE
      go_wp2_with fail
      refine (HC _ HKZ.out).out.mono ?_
      rintro e w2 ⟨er, rfl, hp⟩
      have HP := Lw.hid hp
      clear hp
      go_wp2_with fail
      go_ret
      exact ⟨er, by simp, HP.out⟩
set_option maxHeartbeats 4000000 in
theorem endc_any (w : World) (B : Nat → Prop) (j BL g : Nat) (v : Value) (D : Dsk) (rs : List Rc) (K : Nat) (h : JL w B j BL g v D rs) (hd : Rdy K D rs) (ht : Tab w) (hr : 89 * rs.length + 89 ≤ D.cap) (hk : K + 1 ≤ 1000000) (hn : rs.length < 100) (G : Nat → Prop) (q : Nat) (st n : Int) (t : List UInt8) (htl : t.length ≤ 60) (hs : StAt w G q st (some t)) (hBl : ∀ k, B k → k < w.heap.size) :
    Calls Tryz.prog 48 #[.pointer (some ⟨j, 0, none⟩), .int .i64 n, .pointer (some ⟨q, 0, none⟩)] w (RPost w (fun k => B k ∨ w.heap.size ≤ k) j BL g D rs) := by
  have hlen := JL.len (w := w) (B := B) (j := j) (BL := BL) (g := g) (v := v) hd
  have H := Lw.hid h; have HLN := Lw.hid hlen; have HS := Lw.hid hs; have HT := Lw.hid ht; have HD := Lw.hid hd; have HBL := Lw.hid hBl
  clear h hd ht hs hlen hBl
  go_enter Tryz.func48, Tryz.ntmps48
  go_wp2_with fail
  refine (scopy_any w G q st (some t) HS.out).mono ?_
  rintro e w1 ⟨q1, rfl, hs1, k1⟩
  have HS1 := Lw.hid hs1; have K1 := Lw.hid k1
  obtain ⟨F, va, sp, h1, h2, h3⟩ := (H.out.kept k1 (fun _ _ h => h)).m
  have H1 := Lw.hid h1
  obtain ⟨ft, mm, hb1, -, -, -, -, -⟩ := hs1.mem
  have c0 := heap_cell hb1 0; have f0 := heap_free hb1 0
  obtain ⟨hs2, ks2⟩ := hs1.sets n
  have HS2 := Lw.hid hs2
  obtain ⟨w2, hw2⟩ : ∃ w2, w1.setCell ⟨q1, 0, none⟩ (.int .i64 n) = w2 := ⟨_, rfl⟩
  rw [hw2] at hs2 ks2 HS2
  have k2 : Kept (fun _ => False) w w2 := k1.trans ks2 (fun i hi h => by omega)
  have K2 := Lw.hid k2
  obtain ⟨F2, va2, sp2, g1, g2, g3⟩ := (H.out.kept k2 (fun _ _ h => h)).m
  have G1 := Lw.hid g1
  have HC := Lw.hid (fin_core w2 B j BL g v D rs K (H.out.kept k2 (fun _ _ h => h)) HD.out (HT.out.below (k2.below (Nat.le_refl _) (fun _ _ h => h))) hr hk hn (fun k => B k ∨ w.heap.size ≤ k) (fun k => w.heap.size ≤ k ∧ k < w2.heap.size) q1 n t htl (hs2.mono (fun b hb h => ⟨h, hb⟩)) (fun k h => .inl h) (fun k h => ⟨h.2, .inr h.1⟩) (fun k h hB => by have := HBL.out k hB; omega))
  have HW2 := Lw.hid hw2
  clear hs1 k1 h1 h2 h3 hb1 hs2 ks2 hw2 k2 g1 g2 g3
  unfold rv at HC
  go_wp2_with fail
  refine (jnone_any w1 j BL sp va _ H1.out.box).mono ?_
  rintro e _ ⟨rfl, rfl⟩
  go_wp2_with fail
  rw [HW2.out]
  refine (jlast_any w2 F2 j BL sp2 va2 _ G1.out).mono ?_
  rw [HLN.out]
  rintro e _ ⟨rfl, rfl⟩
  go_wp2_with fail
  refine HC.out.mono ?_
  rintro e w3 ⟨er, rfl, hp⟩
  have HP := Lw.hid hp
  clear hp
  go_wp2_with fail
  go_ret
  refine ⟨er, by simp, HP.out.imp (fun h => ⟨h.1, K2.out.trans h.2 (fun _ _ h => h)⟩) (fun ⟨h3, r, hr, v', h4, h5⟩ => ⟨h3, r, hr, v', h4.mono (fun i _ hi => hi.imp (fun h => h) (fun h => Nat.le_trans K2.out.size h)), (K2.out.mono (fun _ _ h => h.elim)).trans h5 (fun _ _ h => h)⟩)⟩
end Go.Proofs.YtgegjjnfcnalfaaGreatDoor
