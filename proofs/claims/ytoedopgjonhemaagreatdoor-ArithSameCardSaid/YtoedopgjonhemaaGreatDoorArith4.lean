/- arith: row, all, read. -/
import Derived.Test.YtoedopgjonhemaaGreatDoorArith3
import Derived.Test.YtoedopgjonhemaaGreatDoorChain
namespace Go.Proofs.YtoedopgjonhemaaGreatDoor
open Go Go.RowKit Go.Lw
set_option maxRecDepth 100000
set_option linter.unusedVariables false
set_option linter.unusedSimpArgs false
attribute [local go_sem] BA_toList
def rT {R : World → World → Prop} : StableR R := ⟨fun _ _ => True, fun _ _ _ _ h => h⟩
theorem node_cond {w : World} {F : Nat → Prop} {p q r : Value} {x y z : Ex} {k : Nat} (hp : NAt w F p x) (hq : NAt w F q y) (hr : NAt w F r z) (hk : w.heap[k]? = some (.cells #[p, q, r] 53 (0, 0))) (h1 : F k) (h2 : F w.heap.size) :
    NAt (w.alloc (.cells #[.string ⟨#[63]⟩, .string ⟨#[]⟩, .int .i64 0, .slice (some ⟨k, 0, none⟩) 3 3] 91)) F (.pointer (some ⟨w.heap.size, 0, none⟩)) (.cond x y z) := by
  have k1 := (Kept.refl (fun _ => False) w).alloc (.cells #[.string ⟨#[63]⟩, .string ⟨#[]⟩, .int .i64 0, .slice (some ⟨k, 0, none⟩) 3 3] 91)
  exact .cond _ k p q r x y z (heap_alloc w _) (k1.heap hk (fun h => h)) h2 h1 (hp.kept k1 (fun _ _ h => h)) (hq.kept k1 (fun _ _ h => h)) (hr.kept k1 (fun _ _ h => h))
theorem containsS_rows (l : List (List UInt8)) (sg : List UInt8) : Lib.containsS ((l.map BA).take l.length) (BA sg) = decide (sg ∈ l) := by
  rw [List.take_of_length_le (by rw [List.length_map]; exact Nat.le_refl _)]
  rw [Bool.eq_iff_iff, Lib.containsS_iff, decide_eq_true_eq, List.mem_map]
  constructor
  · rintro ⟨a, ha, e⟩
    rw [← BA_inj e]; exact ha
  · exact fun h => ⟨sg, h, rfl⟩
/-- Is a sign one of a row's? -/
theorem inrow_any (B : Nat) (w : World) (k : Nat) (sg : List UInt8) (hE : AEnv B w) (hk : k < 10) :
    ∃ (b off c : Nat), w.cell? ⟨2, k, none⟩ = some (.slice (some ⟨b, off, none⟩) (rowsL.getD k []).length c) ∧
    Calls Tryz.prog 63 #[.slice (some ⟨b, off, none⟩) (rowsL.getD k []).length c, .string (BA sg)] w fun x w' => x = .returned (.bool (decide (sg ∈ rowsL.getD k []))) ∧ w' = w := by
  obtain ⟨b, off, c, h1, h2, h3⟩ := hE.rows k hk
  refine ⟨b, off, c, h1, ?_⟩
  obtain ⟨l, hl⟩ : ∃ l, rowsL.getD k [] = l := ⟨_, rfl⟩
  rw [hl] at h1 h3 ⊢
  have hl4 : l.length ≤ 4 := by
    have : ∀ k, k < 10 → (rowsL.getD k []).length ≤ 4 := by decide
    rw [← hl]; exact this k hk
  refine (Tryz.slices_Contains_string b off l.length c (l.map BA) (BA sg) w (by rw [List.length_map]; exact Nat.le_refl _) (by omega) (fun j hj => ?_)).mono ?_
  · rw [List.length_map] at hj
    rw [h3 j hj, List.getD_eq_getElem?_getD, List.getD_eq_getElem?_getD, List.getElem?_map, List.getElem?_eq_getElem hj]
    rfl
  · rintro x w' ⟨rfl, rfl⟩
    rw [containsS_rows]
    exact ⟨rfl, rfl⟩
def rowK (k d : Nat) (R : Rx) : Rx := match R with
  | .error e => .error e
  | .ok y => rdA (.loop k y.1) d y.2
def binK (k d : Nat) (sg : List UInt8) (x : Ex) (R : Rx) : Rx := match R with
  | .error e => .error e
  | .ok y => rdA (.loop k (.bin sg x y.1)) d y.2
theorem rdA_rowK (k d : Nat) (s : List UInt8) (h : k < 10) : rdA (.row k) d s = rowK k d (rdA (.row (k + 1)) d s) := rdA_row k d s h
theorem rdA_loopK (k : Nat) (x : Ex) (d : Nat) (s : List UInt8) : rdA (.loop k x) d s = if signF (trimA s) ∈ rowsL.getD k [] then binK k d (signF (trimA s)) x (rdA (.row (k + 1)) d ((trimA s).drop (signF (trimA s)).length)) else .ok (x, trimA s) := rdA_loop k x d s
/-- Where row's loop stands. -/
def RowRel (B : Nat) (w : World) (lo g k d n : Nat) (RES : Rx) (gk : Nat) (s5 s6 : Value) (wx : World) : Prop :=
  ∃ sg, s6 = .string (BA sg) ∧ KG g w wx ∧
    ((∃ (x : Ex) (r : List UInt8), NAt wx (fun b => lo ≤ b) s5 x ∧ AR wx g (trimA r) (d : Int) 0 ∧ sg = signF (trimA r) ∧ rdA (.loop k x) d r = RES ∧ gk = r.length + 1 ∧ r.length ≤ n) ∨
     (∃ (e : Nat) (d' : Int) (a : Addr), s5 = .pointer (some a) ∧ AR wx g [] d' (e : Int) ∧ e ≠ 0 ∧ RES = .error e ∧ gk = 0 ∧ sg = []))
set_option maxHeartbeats 16000000 in
theorem row_step (B k n : Nat) (hk : k < 10) (hn9 : n ≤ 1000000) (HU : CRowA B (k + 1) n) (HL : ∀ m, m < n → CRowA B (k + 1) m) : CRowA B k n := by
  intro w lo g s d hE hg hgl hlo h hsn hd
  show Calls Tryz.prog 43 #[.pointer (some ⟨g, 0, none⟩), .int .i64 (k : Int)] w _
  have HC := Lw.hid (HU w lo g s d hE hg hgl hlo h hsn hd)
  have HE := Lw.hid hE; have HLL := Lw.hid HL
  have hb10 : ((k : Int) == 10) = false := beq_eq_false_iff_ne.2 (by omega)
  obtain ⟨RES, hRES⟩ : ∃ R, rdA (.row k) d s = R := ⟨_, rfl⟩
  have HRES : Hid (rowK k d (rdA (.row (k + 1)) d s) = RES) := Lw.hid (by rw [← rdA_rowK k d s hk]; exact hRES)
  have HYL : Hid (∀ y, rdA (.row (k + 1)) d s = .ok y → y.2.length ≤ n) := Lw.hid (fun y hy => Nat.le_trans (rdA_len hy) hsn)
  rw [hRES]
  obtain ⟨R0, hR0⟩ : ∃ R, rdA (.row (k + 1)) d s = R := ⟨_, rfl⟩
  have hc2 : Calls Tryz.prog 43 #[.pointer (some ⟨g, 0, none⟩), .int .i64 ((k : Int) + 1)] w fun x w' => RdPost lo g R0 d x w' ∧ KG g w w' := by rw [← hR0]; exact HC.out
  have HC2 := Lw.hid hc2
  rw [hR0] at HRES HYL
  clear h hE HU HL HC hc2 hRES hR0
  go_enter Tryz.func43, Tryz.ntmps43
  go_wp2_with fail
  refine HC2.out.mono ?_
  rintro x w1 ⟨hp, k1⟩
  have K1 := Lw.hid k1
  have HE1 := Lw.hid (HE.out.kept k1 (fun i hi => by omega))
  have START : Hid (∃ (p : Value) (w2 : World → Prop), True) := Lw.hid ⟨.nilIface, fun _ => True, trivial⟩
  -- the first part, its sign, the loop's start
  have first : ∃ p : Value, x = .returned p ∧ ((∃ y : Ex × List UInt8, R0 = .ok y ∧ NAt w1 (fun b => lo ≤ b) p y.1 ∧ AR w1 g y.2 (d : Int) 0) ∨ (∃ (e : Nat) (d' : Int) (a : Addr), R0 = .error e ∧ p = .pointer (some a) ∧ AR w1 g [] d' (e : Int) ∧ e ≠ 0)) := by
    cases R0 with
    | error e =>
      obtain ⟨he, ⟨a, rfl⟩, d', ha⟩ := hp
      exact ⟨_, rfl, .inr ⟨e, d', a, rfl, rfl, ha, he⟩⟩
    | ok y =>
      obtain ⟨p, rfl, hn, ha⟩ := hp
      exact ⟨p, rfl, .inl ⟨y, rfl, hn, ha⟩⟩
  obtain ⟨p, rfl, hfirst⟩ := first
  have HSGN : Hid (∃ (r0 : List UInt8) (dd ee : Int), AR w1 g r0 dd ee ∧ r0.length ≤ 1000000) := Lw.hid (by
    rcases hfirst with ⟨y, hy, _, ha⟩ | ⟨e, d', a, _, _, ha, _⟩
    · exact ⟨y.2, _, _, ha, Nat.le_trans (HYL.out y hy) hn9⟩
    · exact ⟨[], d', _, ha, Nat.zero_le _⟩)
  have HF := Lw.hid hfirst
  clear hp hfirst k1 START
  go_wp2_with fail
  obtain ⟨r0, dd, ee, har0, hrl0⟩ := HSGN.out
  refine (sign_any B w1 g r0 dd ee HE1.out hg har0 hrl0).mono ?_
  rintro x w2 ⟨rfl, h2, k2⟩
  have HREL : Hid (∃ gk, RowRel B w lo g k d n RES gk p (.string (BA (signF (trimA r0)))) w2) := Lw.hid (by
    rcases HF.out with ⟨y, hy, hn, ha⟩ | ⟨e, d', a, hy, hpa, ha, he⟩
    · have e0 := har0.symm.trans ha
      have e1 : r0 = y.2 := by
        have := Option.some.inj e0
        injection this with this _ _
        have := congrArg (fun a => a[0]?) this
        simp at this
        exact BA_inj this
      have e2 : dd = (d : Int) ∧ ee = 0 := by
        have := Option.some.inj e0
        injection this with this _ _
        have h1 := congrArg (fun a => a[1]?) this
        have h2 := congrArg (fun a => a[2]?) this
        simp at h1 h2
        exact ⟨h1, h2⟩
      obtain ⟨rfl, rfl⟩ := e2
      subst e1
      refine ⟨y.2.length + 1, _, rfl, K1.out.tr k2, .inl ⟨y.1, y.2, hn.kept k2 (fun b hb e => by omega), h2, rfl, ?_, rfl, HYL.out y hy⟩⟩
      have := HRES.out
      rw [hy] at this
      exact this
    · have e0 := har0.symm.trans ha
      have e1 : r0 = [] := by
        have := Option.some.inj e0
        injection this with this _ _
        have := congrArg (fun a => a[0]?) this
        simp at this
        exact BA_inj this
      have e2 : dd = d' ∧ ee = (e : Int) := by
        have := Option.some.inj e0
        injection this with this _ _
        have h1 := congrArg (fun a => a[1]?) this
        have h2 := congrArg (fun a => a[2]?) this
        simp at h1 h2
        exact ⟨h1, h2⟩
      obtain ⟨rfl, rfl⟩ := e2
      subst e1
      refine ⟨0, _, rfl, K1.out.tr k2, .inr ⟨e, dd, a, hpa, h2, he, ?_, rfl, by decide⟩⟩
      have := HRES.out
      rw [hy] at this
      exact this.symm)
  obtain ⟨gk0, hrel0⟩ := HREL.out
  have HR0 := Lw.hid hrel0
  clear HF HSGN h2 k2 har0 hrl0 HREL hrel0 HC2 HRES HYL HE1 K1
  go_wp2_with fail
  go_loopg [5, 6] gk0 (fun gk s5 s6 wx => RowRel B w lo g k d n RES gk s5 s6 wx)
  case atStart => exact HR0.out
  case round =>
    obtain ⟨sg, rfl, kx, hcase⟩ := hrel
    have KX := Lw.hid kx
    have HEX := Lw.hid (HE.out.kept kx (fun i hi => by omega))
    clear kx HR0
    rcases hcase with ⟨x, r, hn, ha, hsg, hres, rfl, hrn⟩ | ⟨e, d', a, rfl, ha, he, hres, rfl, rfl⟩
    · obtain ⟨bp, rfl, hbp⟩ := hn.ptr
      obtain ⟨⟨x0, x1, x2⟩, z0, z1, z2⟩ := ha.cells
      obtain ⟨rb, roff, rc, hrow, hcall⟩ := inrow_any B wr k sg HEX.out hk
      have HCALL := Lw.hid hcall
      have HA := Lw.hid ha; have HN := Lw.hid hn
      have hk0 : (0 : Int) ≤ (k : Int) := by omega
      have hk1 : (k : Int) < 10 := by omega
      rw [rdA_loopK, ← hsg] at hres
      have HRS := Lw.hid hres; have HSG := Lw.hid hsg
      have HTL : Hid (trimA r = trimA r) := Lw.hid rfl
      clear hres hsg ha hn hcall
      by_cases hin : sg ∈ rowsL.getD k []
      · have hdi : decide (sg ∈ rowsL.getD k []) = true := decide_eq_true hin
        have hs0 := rows_mem_ne hin
        have hless := drop_less (s := r) HSG.out.symm hs0
        have hsl := signF_len (r := trimA r) (by rw [← HSG.out]; exact hs0)
        have hs2 : sg.length ≤ 2 := by rw [HSG.out]; exact hsl.2.2
        have HRS2 := Lw.hid HRS.out
        rw [if_pos hin] at HRS2
        have HIN := Lw.hid hin; have HLS := Lw.hid hless
        have HTR : Hid ((trimA r).length ≤ 1000000) := Lw.hid (by have := trimA_len r; omega)
        have HTK := Lw.hid (takes_any B wr g (trimA r) sg (d : Int) HEX.out hg HA.out HTR.out hs2)
        rw [trimA_idem, (tk_hit HSG.out.symm).1, (tk_hit HSG.out.symm).2] at HTK
        rw [hdi] at HCALL
        clear hin hdi hs0 hless hsl hs2 HTR
        go_wp2_with fail
        refine HCALL.out.mono ?_
        rintro x9 w3 ⟨rfl, hw3⟩
        subst hw3
        go_wp2_with fail
        refine HTK.out.mono ?_
        rintro x9 w4 ⟨rfl, h4, k4⟩
        have KX4 := Lw.hid (KX.out.tr k4)
        have HE4 := Lw.hid (HEX.out.kept k4 (fun i hi => by omega))
        have HN4 := Lw.hid (HN.out.kept k4 (fun b hb e => by omega))
        have hcc := HLL.out ((trimA r).drop sg.length).length (by have := HLS.out; omega) w4 lo g ((trimA r).drop sg.length) d HE4.out hg hgl (Nat.le_trans hlo KX4.out.size) h4 (Nat.le_refl _) hd
        have hcc2 : Calls Tryz.prog 43 #[.pointer (some ⟨g, 0, none⟩), .int .i64 ((k : Int) + 1)] w4 fun x w' => RdPost lo g (rdA (.row (k + 1)) d ((trimA r).drop sg.length)) d x w' ∧ KG g w4 w' := hcc
        obtain ⟨R1, hR1⟩ : ∃ R, rdA (.row (k + 1)) d ((trimA r).drop sg.length) = R := ⟨_, rfl⟩
        have HY1 : Hid (∀ y, R1 = .ok y → y.2.length < r.length) := Lw.hid (fun y hy => by have h0 := rdA_len (hR1.trans hy); have := HLS.out; omega)
        rw [hR1] at hcc2 HRS2
        have HCC := Lw.hid hcc2
        clear hcc hcc2 h4 k4 HTK HCALL hR1
        go_wp2_with fail
        refine HCC.out.mono ?_
        rintro x9 w5 ⟨hp5, k5⟩
        have KX5 := Lw.hid (KX4.out.tr k5)
        have HE5 := Lw.hid (HE4.out.kept k5 (fun i hi => by omega))
        have HN5 := Lw.hid (HN4.out.kept k5 (fun b hb e => by omega))
        have hlo5 : lo ≤ w5.heap.size := Nat.le_trans hlo KX5.out.size
        cases R1 with
        | error e =>
          obtain ⟨he, ⟨a, rfl⟩, d', ha5⟩ := hp5
          have HA5 := Lw.hid ha5
          clear ha5 k5 HCC x0 x1 x2 z0 z1 z2
          go_wp2_with fail
          obtain ⟨w6, hw6⟩ : ∃ w6, (w5.alloc (.cells #[.pointer (some ⟨bp, 0, none⟩), .pointer (some a)] 53)).alloc (.cells #[.string (BA sg), .string ⟨#[]⟩, .int .i64 0, .slice (some ⟨w5.heap.size, 0, none⟩) 2 2] 91) = w6 := ⟨_, rfl⟩
          have K6 : Hid (Kept (fun _ => False) w5 w6) := Lw.hid (by rw [← hw6]; exact ((Kept.refl _ w5).alloc _).alloc _)
          rw [hw6]
          clear hw6
          refine (sign_any B w6 g [] d' (e : Int) (HE5.out.kept K6.out (fun _ h => h.elim)) hg (HA5.out.kept K6.out (fun h => h)) (Nat.zero_le _)).mono ?_
          rintro x9 w7 ⟨rfl, h7, k7⟩
          have H7 := Lw.hid h7; have K7 := Lw.hid ((KX5.out.tr (KG.of K6.out)).tr k7)
          have HER : Hid (RES = .error e) := Lw.hid HRS2.out.symm
          clear h7 k7
          go_wp2_with fail
          go_roundg 0
          case measure => omega
          case rel => exact ⟨_, rfl, K7.out, .inr ⟨e, d', _, rfl, H7.out, he, HER.out, rfl, by decide⟩⟩
        | ok y =>
          obtain ⟨q, rfl, hn5, ha5⟩ := hp5
          obtain ⟨y1, y2⟩ := y
          obtain ⟨bq, rfl, _⟩ := hn5.ptr
          have HA5 := Lw.hid ha5
          have hnode := node_bin (F := fun b => lo ≤ b) ⟨k, hk, HIN.out⟩ HN5.out hn5 hlo5 (Nat.le_trans hlo5 (Nat.le_succ _)) w5.heap.size (w5.heap.size + 1) rfl rfl
          have HND := Lw.hid hnode
          have HL5 : Hid (y2.length ≤ 1000000 ∧ y2.length ≤ n ∧ y2.length < r.length) := Lw.hid (by have := HY1.out _ rfl; dsimp only at this; omega)
          clear ha5 hn5 k5 HCC x0 x1 x2 z0 z1 z2 hnode
          go_wp2_with fail
          obtain ⟨w6, hw6⟩ : ∃ w6, (w5.alloc (.cells #[.pointer (some ⟨bp, 0, none⟩), .pointer (some ⟨bq, 0, none⟩)] 53)).alloc (.cells #[.string (BA sg), .string ⟨#[]⟩, .int .i64 0, .slice (some ⟨w5.heap.size, 0, none⟩) 2 2] 91) = w6 := ⟨_, rfl⟩
          have K6 : Hid (Kept (fun _ => False) w5 w6) := Lw.hid (by rw [← hw6]; exact ((Kept.refl _ w5).alloc _).alloc _)
          rw [hw6] at HND
          rw [hw6]
          clear hw6
          refine (sign_any B w6 g y2 (d : Int) 0 (HE5.out.kept K6.out (fun _ h => h.elim)) hg (HA5.out.kept K6.out (fun h => h)) HL5.out.1).mono ?_
          rintro x9 w7 ⟨rfl, h7, k7⟩
          have H7 := Lw.hid h7; have K7 := Lw.hid ((KX5.out.tr (KG.of K6.out)).tr k7)
          have HN7 := Lw.hid (HND.out.kept k7 (fun b hb e => by omega))
          clear h7 k7
          go_wp2_with fail
          go_roundg (y2.length + 1)
          case measure => have := HL5.out; omega
          case rel => exact ⟨_, rfl, K7.out, .inl ⟨_, y2, HN7.out, H7.out, rfl, HRS2.out, rfl, HL5.out.2.1⟩⟩
      · have hdi : decide (sg ∈ rowsL.getD k []) = false := decide_eq_false hin
        have HRS2 := Lw.hid HRS.out
        rw [if_neg hin] at HRS2
        rw [hdi] at HCALL
        clear hin hdi
        go_wp2_with fail
        refine HCALL.out.mono ?_
        rintro x9 w3 ⟨rfl, hw3⟩
        subst hw3
        go_wp2_with fail
        go_ret
        exact ⟨rp_ok HRS2.out.symm rfl HN.out HA.out, KX.out⟩
    · obtain ⟨⟨x0, x1, x2⟩, z0, z1, z2⟩ := ha.cells
      have HA := Lw.hid ha; have HRS := Lw.hid hres
      have hbe : ((e : Int) == 0) = false := beq_eq_false_iff_ne.2 (by omega)
      clear ha hres
      go_wp2_with fail
      go_ret
      exact ⟨rp_err HRS.out he ⟨_, rfl⟩ d' HA.out, KX.out⟩
set_option maxHeartbeats 4000000 in
theorem row_top (B k n : Nat) (hk : k = 10) (HU : COneA B n) : CRowA B k n := by
  subst hk
  intro w lo g s d hE hg hgl hlo h hsn hd
  show Calls Tryz.prog 43 #[.pointer (some ⟨g, 0, none⟩), .int .i64 (10 : Int)] w _
  have HC := Lw.hid (HU w lo g s d hE hg hgl hlo h hsn hd)
  rw [rdA_row10 10 d s (Nat.le_refl _)]
  have hc2 : Calls Tryz.prog 62 #[.pointer (some ⟨g, 0, none⟩)] w fun x w' => RdPost lo g (rdA .one d s) d x w' ∧ KG g w w' := HC.out
  have HC2 := Lw.hid hc2
  generalize rdA .one d s = R0 at HC2 ⊢
  clear HC hc2 h hE HU
  go_enter Tryz.func43, Tryz.ntmps43
  go_wp2_with fail
  refine HC2.out.mono ?_
  rintro x w1 ⟨hp, k1⟩
  obtain ⟨a, ha⟩ : ∃ a, x = .returned (.pointer (some a)) := by
    cases R0 with
    | error e => obtain ⟨_, h, _⟩ := hp; exact h
    | ok y => obtain ⟨p, h, hn, _⟩ := hp; obtain ⟨b, rfl, _⟩ := hn.ptr; exact ⟨_, h⟩
  subst ha
  have HP := Lw.hid hp; have K1 := Lw.hid k1
  clear hp k1
  go_wp2_with fail
  go_ret
  exact ⟨HP.out, K1.out⟩
/-! Stages: one thing ahead of the call, another behind it. -/
def stg (s : Nat) (A B : Prop) : Prop := (s = 0 → A) ∧ (s = 1 → B)
theorem stg.zero {A B : Prop} (h : stg 0 A B) : A := h.1 rfl
theorem stg.one {A B : Prop} (h : stg 1 A B) : B := h.2 rfl
theorem stg.mk0 {A B : Prop} (h : A) : stg 0 A B := ⟨fun _ => h, fun e => by cases e⟩
theorem stg.mk1 {A B : Prop} (h : B) : stg 1 A B := ⟨fun e => (by cases e), fun _ => h⟩
theorem stg.imp {s : Nat} {A B A' B' : Prop} (h : stg s A B) (f : A → A') (g : B → B') : stg s A' B' := ⟨fun e => f (h.1 e), fun e => g (h.2 e)⟩
/-! A condition. -/
def condG (x y : Ex) (R : Rx) : Rx := match R with
  | .error e => .error e
  | .ok z => .ok (.cond x y z.1, z.2)
def condF (x : Ex) (d : Nat) (R : Rx) : Rx := match R with
  | .error e => .error e
  | .ok y => if signF (trimA y.2) = [58] then condG x y.1 (rdA .all d ((trimA y.2).drop 1)) else .error 5
def allF (d : Nat) (R : Rx) : Rx := match R with
  | .error e => .error e
  | .ok x => if signF (trimA x.2) = [63] then dnF d (condF x.1 (d + 1) (rdA .all (d + 1) ((trimA x.2).drop 1))) else .ok (x.1, trimA x.2)
theorem rdA_allF (d : Nat) (s : List UInt8) : rdA .all d s = allF d (rdA (.row 0) d s) := by
  rw [rdA_all]
  unfold allF condF condG dnF
  rfl
set_option maxHeartbeats 16000000 in
theorem all1_any (B m : Nat) (hm9 : m ≤ 1000000) (HA0 : ∀ j, j ≤ m → CAllA B j) (w : World) (lo g c1 c2 : Nat) (s : List UInt8) (d : Nat) (p : Value) (x : Ex) (hE : AEnv B w) (hg : B ≤ g) (hgl : g < lo) (hlo : lo ≤ w.heap.size) (h : AR w g s (d : Int) 0) (hsn : s.length ≤ m) (hd : d ≤ 16)
    (h1 : w.heap[c1]? = some (.cells #[.pointer (some ⟨g, 0, none⟩)] 81 (0, 0))) (h2 : w.heap[c2]? = some (.cells #[p] 53 (0, 0))) (n1 : c1 ≠ g) (n2 : c2 ≠ g) (hx : NAt w (fun b => lo ≤ b) p x) :
    Calls Tryz.prog 46 #[.pointer (some ⟨c1, 0, none⟩), .pointer (some ⟨c2, 0, none⟩)] w fun e w' => RdPost lo g (condF x d (rdA .all d s)) d e w' ∧ KG g w w' := by
  have hc1 := HA0 m (Nat.le_refl _) w lo g s d hE hg hgl hlo h hsn hd
  have hc2 : Calls Tryz.prog 28 #[.pointer (some ⟨g, 0, none⟩)] w fun e w' => RdPost lo g (rdA .all d s) d e w' ∧ KG g w w' := hc1
  obtain ⟨R0, hR0⟩ : ∃ R, rdA .all d s = R := ⟨_, rfl⟩
  have HYL : Hid (∀ y, R0 = .ok y → y.2.length ≤ m) := Lw.hid (fun y hy => Nat.le_trans (rdA_len (hR0.trans hy)) hsn)
  rw [hR0] at hc2 ⊢
  have HC := Lw.hid hc2; have HE := Lw.hid hE; have HB1 := Lw.hid h1; have HB2 := Lw.hid h2; have HX := Lw.hid hx; have HAA := Lw.hid HA0
  obtain ⟨bp, rfl, hbp⟩ := hx.ptr
  have q1 := heap_cell h1 0; have q2 := heap_cell h2 0
  clear h hE h1 h2 hx hc1 hc2 hR0 HA0
  go_enter Tryz.func46, Tryz.ntmps46
  go_wp2_with fail
  refine HC.out.mono ?_
  rintro e w1 ⟨hp, k1⟩
  have K1 := Lw.hid k1
  have HE1 := Lw.hid (HE.out.kept k1 (fun i hi => by omega))
  have HB11 := Lw.hid (k1.heap HB1.out n1); have HB21 := Lw.hid (k1.heap HB2.out n2); have HX1 := Lw.hid (HX.out.kept k1 (fun b hb e => by omega))
  cases R0 with
  | error e =>
    obtain ⟨he, ⟨a, rfl⟩, d', ha⟩ := hp
    have HA := Lw.hid ha
    have HTB := Lw.hid (takes_bad w1 g [] [58] d' e ha he)
    have q3 := heap_cell HB11.out 0
    clear ha k1 HC q1 q2
    go_wp2_with fail
    refine HTB.out.mono ?_
    rintro e9 w1 ⟨rfl, rfl⟩
    go_wp2_with fail
    refine (fail_any _ g [] d' e 5 HA.out).mono ?_
    rintro e9 w4 ⟨⟨a2, rfl⟩, h4, k4⟩
    have H4 := Lw.hid h4; have K4 := Lw.hid (K1.out.tr k4)
    clear h4 k4
    go_wp2_with fail
    go_ret
    exact ⟨rp_err rfl he ⟨_, rfl⟩ d' (by have := H4.out; rw [show errN e 5 = e from if_neg he] at this; exact this), K4.out⟩
  | ok y =>
    obtain ⟨q, rfl, hn, ha⟩ := hp
    obtain ⟨y1, y2⟩ := y
    obtain ⟨bq, rfl, _⟩ := hn.ptr
    have HN := Lw.hid hn
    have hy2 : y2.length ≤ m := HYL.out _ rfl
    have HY2 := Lw.hid hy2
    have HTK := Lw.hid (takes_any B w1 g y2 [58] (d : Int) HE1.out hg ha (Nat.le_trans hy2 hm9) (by decide))
    have q3 := heap_cell HB11.out 0
    clear ha hn k1 HC q1 q2 hy2
    by_cases hq : signF (trimA y2) = [58]
    · rw [(tk_hit hq).1, (tk_hit hq).2] at HTK
      have HLS := Lw.hid (drop_less hq (by decide))
      obtain ⟨S2, hS2⟩ : ∃ S, (trimA y2).drop ([58] : List UInt8).length = S := ⟨_, rfl⟩
      rw [hS2] at HTK HLS
      have HRE : Hid (condF x d (.ok (y1, y2)) = condG x y1 (rdA .all d S2)) := Lw.hid (by unfold condF; simp only; rw [if_pos hq, ← hS2]; rfl)
      clear hq hS2
      go_wp2_with fail
      refine HTK.out.mono ?_
      rintro e9 w2 ⟨rfl, h2, k2⟩
      have K2 := Lw.hid (K1.out.tr k2); have H2 := Lw.hid h2
      have HE2 := Lw.hid (HE1.out.kept k2 (fun i hi => by omega))
      have HB12 := Lw.hid (k2.heap HB11.out n1); have HB22 := Lw.hid (k2.heap HB21.out n2); have HX2 := Lw.hid (HX1.out.kept k2 (fun b hb e => by omega)); have HN2 := Lw.hid (HN.out.kept k2 (fun b hb e => by omega))
      have HLO2 : Hid (lo ≤ w2.heap.size) := Lw.hid (Nat.le_trans hlo K2.out.size)
      have hcc : ∀ W, KG g w2 W → AR W g S2 (d : Int) 0 → Calls Tryz.prog 28 #[.pointer (some ⟨g, 0, none⟩)] W fun e w' => RdPost lo g (rdA .all d S2) d e w' ∧ KG g W w' := fun W kW aW => HAA.out m (Nat.le_refl _) W lo g S2 d (HE2.out.kept kW (fun i hi => by omega)) hg hgl (Nat.le_trans HLO2.out kW.size) aW (by have := HLS.out; have := HY2.out; omega) hd
      have q4 := heap_cell HB12.out 0; have q5 := heap_cell HB22.out 0
      clear h2 k2 HTK q3
      cases hR2 : rdA .all d S2 with
      | error e =>
        rw [hR2] at hcc HRE
        have HCC := Lw.hid hcc
        clear hcc hR2
        go_wp2_with fail
        refine wp_region_chain 8 [3] (fun s w' => KG g w2 w' ∧ stg s (AR w' g S2 (d : Int) 0) (e ≠ 0 ∧ ∃ d' : Int, AR w' g [] d' (e : Int))) (KG g) [rV (.pointer (some ⟨bp, 0, none⟩)), rV (.pointer (some ⟨bq, 0, none⟩)), rV (.pointer (some ⟨g, 0, none⟩)), ⟨fun v W => ∃ a, v = .pointer (some a), fun _ _ _ _ h => h⟩, ⟨fun v W => ∃ kb : Nat, v = .slice (some ⟨kb, 0, none⟩) 3 3, fun _ _ _ _ h => h⟩, ⟨fun v W => ∃ kb : Nat, v = .agg #[.string ⟨#[63]⟩, .string ⟨#[]⟩, .int .i64 0, .slice (some ⟨kb, 0, none⟩) 3 3], fun _ _ _ _ h => h⟩, ⟨fun v W => ∃ a, v = .pointer (some a), fun _ _ _ _ h => h⟩, ⟨fun v W => ∃ a, v = .pointer (some a), fun _ _ _ _ h => h⟩] (by kernel_rfl) (by kernel_rfl) ?_ ?_ ?_
        case refine_1 => exact ⟨(KG.refl g w2).drew, .mk0 H2.out⟩
        case refine_2 =>
          refine csteps_free (by decide) (fun s a' w' hI hag hf K hK => ?_) ?_
          · have s1 := hag.same 1 (by decide)
            clear hag
            have HI := Lw.hid hI
            have cc := hI.1.cell q5 n2
            clear hI
            go_wp2_with fail
            exact hK _ _ HI.out (KG.refl _ _) rfl
          refine csteps_free (by decide) (fun s a' w' hI hag hf K hK => ?_) ?_
          · have s3 := hag.same 3 (by decide)
            clear hag
            have HI := Lw.hid hI
            clear hI
            go_wp2_with fail
            exact hK _ _ HI.out (KG.refl _ _) rfl
          refine csteps_free (by decide) (fun s a' w' hI hag hf K hK => ?_) ?_
          · have s0 := hag.same 0 (by decide)
            clear hag
            have HI := Lw.hid hI
            have cc := hI.1.cell q4 n1
            clear hI
            go_wp2_with fail
            exact hK _ _ HI.out (KG.refl _ _) rfl
          refine csteps_hit 0 rfl (fun a' w' hI hag hf K hK => ?_) ?_
          · obtain ⟨⟨_, h2, rfl⟩, -⟩ : SFacts _ _ a' w' [2] := hf
            clear hag
            have HI := Lw.hid hI
            clear hI
            go_wp2_with fail
            refine (HCC.out w' HI.out.1 HI.out.2.zero).mono ?_
            rintro e9 w9 ⟨⟨he9, ⟨a9, rfl⟩, d9, ha9⟩, k9⟩
            have K9 := Lw.hid k9; have HA9 := Lw.hid ha9
            clear k9 ha9
            go_wp2_with fail
            exact hK _ _ ⟨HI.out.1.tr K9.out, .mk1 ⟨he9, d9, HA9.out⟩⟩ K9.out ⟨_, rfl⟩
          refine csteps_free (by decide) (fun s a' w' hI hag hf K hK => ?_) ?_
          · obtain ⟨⟨_, h0, rfl⟩, ⟨_, h1, rfl⟩, ⟨v3, h3, e3⟩, -⟩ : SFacts _ _ a' w' [0, 1, 3] := hf
            clear hag
            have HI := Lw.hid hI
            obtain ⟨a3, rfl⟩ := e3
            clear hI
            go_wp2_with fail
            exact hK _ _ ⟨HI.out.1.alloc _, HI.out.2.imp (fun h => h.kept ((Kept.refl (fun _ => False) _).alloc _) (fun h => h)) (fun h => ⟨h.1, by obtain ⟨d', h'⟩ := h.2; exact ⟨d', h'.kept ((Kept.refl (fun _ => False) _).alloc _) (fun h => h)⟩⟩)⟩ (KG.of ((Kept.refl (fun _ => False) _).alloc _)) ⟨_, rfl⟩
          refine csteps_free (by decide) (fun s a' w' hI hag hf K hK => ?_) ?_
          · obtain ⟨⟨v4, h4, e4⟩, -⟩ : SFacts _ _ a' w' [4] := hf
            clear hag
            have HI := Lw.hid hI
            obtain ⟨kb, rfl⟩ := e4
            clear hI
            go_wp2_with fail
            exact hK _ _ HI.out (KG.refl _ _) ⟨kb, rfl⟩
          refine csteps_free (by decide) (fun s a' w' hI hag hf K hK => ?_) ?_
          · obtain ⟨⟨v5, h5, e5⟩, -⟩ : SFacts _ _ a' w' [5] := hf
            clear hag
            have HI := Lw.hid hI
            obtain ⟨kb, rfl⟩ := e5
            clear hI
            go_wp2_with fail
            exact hK _ _ ⟨HI.out.1.alloc _, HI.out.2.imp (fun h => h.kept ((Kept.refl (fun _ => False) _).alloc _) (fun h => h)) (fun h => ⟨h.1, by obtain ⟨d', h'⟩ := h.2; exact ⟨d', h'.kept ((Kept.refl (fun _ => False) _).alloc _) (fun h => h)⟩⟩)⟩ (KG.of ((Kept.refl (fun _ => False) _).alloc _)) ⟨_, rfl⟩
          refine csteps_free (by decide) (fun s a' w' hI hag hf K hK => ?_) ?_
          · obtain ⟨⟨v6, h6, e6⟩, -⟩ : SFacts _ _ a' w' [6, 3, 0, 1, 2, 4, 5] := hf
            clear hag
            have HI := Lw.hid hI
            obtain ⟨a3, rfl⟩ := e6
            clear hI
            go_wp2_with fail
            exact hK _ _ HI.out (KG.refl _ _) ⟨a3, rfl⟩
          exact trivial
        case refine_3 =>
          intro vs w9 hI hvs
          have q0 : vs 0 = (.pointer (some ⟨bp, 0, none⟩)) := hvs 0 _ _ rfl rfl
          have q1 : vs 1 = (.pointer (some ⟨bq, 0, none⟩)) := hvs 1 _ _ rfl rfl
          have q2 : vs 2 = (.pointer (some ⟨g, 0, none⟩)) := hvs 2 _ _ rfl rfl
          have q3 := hvs 3 _ _ rfl rfl
          have q4 := hvs 4 _ _ rfl rfl
          have q5 := hvs 5 _ _ rfl rfl
          have q6 := hvs 6 _ _ rfl rfl
          have q7 := hvs 7 _ _ rfl rfl
          clear hvs
          simp only [List.take_succ_cons, List.take_zero, List.drop_succ_cons, List.drop_zero, putAll, Act.put, List.setIfInBounds_toArray, List.set_cons_zero, List.set_cons_succ, Nat.reduceAdd, q0, q1, q2]
          clear q0 q1 q2
          generalize vs 3 = x3 at *
          generalize vs 4 = x4 at *
          generalize vs 5 = x5 at *
          generalize vs 6 = x6 at *
          generalize vs 7 = x7 at *
          obtain ⟨a7, hbr⟩ := q7
          subst hbr
          have HI := Lw.hid hI
          clear hI q3 q4 q5 q6
          simp only [wpList]
          go_wp2_with fail
          go_ret
          obtain ⟨he9, d9, h9⟩ := HI.out.2.one
          exact ⟨rp_err HRE.out he9 ⟨_, rfl⟩ d9 h9, K2.out.tr HI.out.1⟩
      | ok z =>
        obtain ⟨z1, z2⟩ := z
        rw [hR2] at hcc HRE
        have HCC := Lw.hid hcc
        clear hcc hR2
        go_wp2_with fail
        refine wp_region_chain 8 [3] (fun s w' => KG g w2 w' ∧ stg s (AR w' g S2 (d : Int) 0) (AR w' g z2 (d : Int) 0)) (KG g) [rV (.pointer (some ⟨bp, 0, none⟩)), rV (.pointer (some ⟨bq, 0, none⟩)), rV (.pointer (some ⟨g, 0, none⟩)), ⟨fun v W => NAt W (fun b => lo ≤ b) v z1, fun v a b hr h => h.kept hr (fun i hi e => by omega)⟩, ⟨fun v W => ∃ (kb : Nat) (r : Value), v = .slice (some ⟨kb, 0, none⟩) 3 3 ∧ W.heap[kb]? = some (.cells #[(.pointer (some ⟨bp, 0, none⟩)), (.pointer (some ⟨bq, 0, none⟩)), r] 53 (0, 0)) ∧ lo ≤ kb ∧ NAt W (fun b => lo ≤ b) r z1, fun v a b hr h => by obtain ⟨kb, r, e1, e2, e3, e4⟩ := h; exact ⟨kb, r, e1, hr.heap e2 (by omega), e3, e4.kept hr (fun i hi e => by omega)⟩⟩, ⟨fun v W => ∃ (kb : Nat) (r : Value), v = .agg #[.string ⟨#[63]⟩, .string ⟨#[]⟩, .int .i64 0, .slice (some ⟨kb, 0, none⟩) 3 3] ∧ W.heap[kb]? = some (.cells #[(.pointer (some ⟨bp, 0, none⟩)), (.pointer (some ⟨bq, 0, none⟩)), r] 53 (0, 0)) ∧ lo ≤ kb ∧ NAt W (fun b => lo ≤ b) r z1, fun v a b hr h => by obtain ⟨kb, r, e1, e2, e3, e4⟩ := h; exact ⟨kb, r, e1, hr.heap e2 (by omega), e3, e4.kept hr (fun i hi e => by omega)⟩⟩, ⟨fun v W => NAt W (fun b => lo ≤ b) v (.cond x y1 z1), fun v a b hr h => h.kept hr (fun i hi e => by omega)⟩, ⟨fun v W => NAt W (fun b => lo ≤ b) v (.cond x y1 z1), fun v a b hr h => h.kept hr (fun i hi e => by omega)⟩] (by kernel_rfl) (by kernel_rfl) ?_ ?_ ?_
        case refine_1 => exact ⟨(KG.refl g w2).drew, .mk0 H2.out⟩
        case refine_2 =>
          refine csteps_free (by decide) (fun s a' w' hI hag hf K hK => ?_) ?_
          · have s1 := hag.same 1 (by decide)
            clear hag
            have HI := Lw.hid hI
            have cc := hI.1.cell q5 n2
            clear hI
            go_wp2_with fail
            exact hK _ _ HI.out (KG.refl _ _) rfl
          refine csteps_free (by decide) (fun s a' w' hI hag hf K hK => ?_) ?_
          · have s3 := hag.same 3 (by decide)
            clear hag
            have HI := Lw.hid hI
            clear hI
            go_wp2_with fail
            exact hK _ _ HI.out (KG.refl _ _) rfl
          refine csteps_free (by decide) (fun s a' w' hI hag hf K hK => ?_) ?_
          · have s0 := hag.same 0 (by decide)
            clear hag
            have HI := Lw.hid hI
            have cc := hI.1.cell q4 n1
            clear hI
            go_wp2_with fail
            exact hK _ _ HI.out (KG.refl _ _) rfl
          refine csteps_hit 0 rfl (fun a' w' hI hag hf K hK => ?_) ?_
          · obtain ⟨⟨_, h2, rfl⟩, -⟩ : SFacts _ _ a' w' [2] := hf
            clear hag
            have HI := Lw.hid hI
            clear hI
            go_wp2_with fail
            refine (HCC.out w' HI.out.1 HI.out.2.zero).mono ?_
            rintro e9 w9 ⟨⟨r, rfl, hn9, ha9⟩, k9⟩
            have K9 := Lw.hid k9; have HN9 := Lw.hid hn9; have HA9 := Lw.hid ha9
            clear k9 hn9 ha9
            go_wp2_with fail
            exact hK _ _ ⟨HI.out.1.tr K9.out, .mk1 HA9.out⟩ K9.out HN9.out
          refine csteps_free (by decide) (fun s a' w' hI hag hf K hK => ?_) ?_
          · obtain ⟨⟨_, h0, rfl⟩, ⟨_, h1, rfl⟩, ⟨v3, h3, e3⟩, -⟩ : SFacts _ _ a' w' [0, 1, 3] := hf
            clear hag
            have HI := Lw.hid hI
            obtain ⟨br, rfl, _⟩ := NAt.ptr e3
            have HN3 : Hid (NAt w' (fun b => lo ≤ b) (.pointer (some ⟨br, 0, none⟩)) z1) := Lw.hid e3
            clear hI e3
            go_wp2_with fail
            exact hK _ _ ⟨HI.out.1.alloc _, HI.out.2.imp (fun h => h.kept ((Kept.refl (fun _ => False) _).alloc _) (fun h => h)) (fun h => h.kept ((Kept.refl (fun _ => False) _).alloc _) (fun h => h))⟩ (KG.of ((Kept.refl (fun _ => False) _).alloc _)) ⟨_, _, rfl, heap_alloc _ _, Nat.le_trans HLO2.out HI.out.1.size, HN3.out.kept ((Kept.refl (fun _ => False) _).alloc _) (fun _ _ h => h)⟩
          refine csteps_free (by decide) (fun s a' w' hI hag hf K hK => ?_) ?_
          · obtain ⟨⟨v4, h4, e4⟩, -⟩ : SFacts _ _ a' w' [4] := hf
            clear hag
            have HI := Lw.hid hI
            obtain ⟨kb, r, rfl, b2, b3, b4⟩ := e4
            have B2 := Lw.hid b2; have B4 := Lw.hid b4
            clear hI b2 b4
            go_wp2_with fail
            exact hK _ _ HI.out (KG.refl _ _) ⟨kb, r, rfl, B2.out, b3, B4.out⟩
          refine csteps_free (by decide) (fun s a' w' hI hag hf K hK => ?_) ?_
          · obtain ⟨⟨v5, h5, e5⟩, -⟩ : SFacts _ _ a' w' [5] := hf
            clear hag
            have HI := Lw.hid hI
            obtain ⟨kb, r, rfl, b2, b3, b4⟩ := e5
            have B2 := Lw.hid b2; have B4 := Lw.hid b4
            have HXX := Lw.hid (HX2.out.kept hI.1 (fun i hi e => by omega)); have HYY := Lw.hid (HN2.out.kept hI.1 (fun i hi e => by omega))
            clear hI b2 b4
            go_wp2_with fail
            exact hK _ _ ⟨HI.out.1.alloc _, HI.out.2.imp (fun h => h.kept ((Kept.refl (fun _ => False) _).alloc _) (fun h => h)) (fun h => h.kept ((Kept.refl (fun _ => False) _).alloc _) (fun h => h))⟩ (KG.of ((Kept.refl (fun _ => False) _).alloc _)) (node_cond HXX.out HYY.out B4.out B2.out b3 (Nat.le_trans HLO2.out HI.out.1.size))
          refine csteps_free (by decide) (fun s a' w' hI hag hf K hK => ?_) ?_
          · obtain ⟨⟨v6, h6, e6⟩, -⟩ : SFacts _ _ a' w' [6, 3, 0, 1, 2, 4, 5] := hf
            clear hag
            have HI := Lw.hid hI
            obtain ⟨br, rfl, _⟩ := NAt.ptr e6
            have HN3 : Hid (NAt w' (fun b => lo ≤ b) (.pointer (some ⟨br, 0, none⟩)) (.cond x y1 z1)) := Lw.hid e6
            clear hI e6
            go_wp2_with fail
            exact hK _ _ HI.out (KG.refl _ _) HN3.out
          exact trivial
        case refine_3 =>
          intro vs w9 hI hvs
          have q0 : vs 0 = (.pointer (some ⟨bp, 0, none⟩)) := hvs 0 _ _ rfl rfl
          have q1 : vs 1 = (.pointer (some ⟨bq, 0, none⟩)) := hvs 1 _ _ rfl rfl
          have q2 : vs 2 = (.pointer (some ⟨g, 0, none⟩)) := hvs 2 _ _ rfl rfl
          have q3 := hvs 3 _ _ rfl rfl
          have q4 := hvs 4 _ _ rfl rfl
          have q5 := hvs 5 _ _ rfl rfl
          have q6 := hvs 6 _ _ rfl rfl
          have q7 := hvs 7 _ _ rfl rfl
          clear hvs
          simp only [List.take_succ_cons, List.take_zero, List.drop_succ_cons, List.drop_zero, putAll, Act.put, List.setIfInBounds_toArray, List.set_cons_zero, List.set_cons_succ, Nat.reduceAdd, q0, q1, q2]
          clear q0 q1 q2
          generalize vs 3 = x3 at *
          generalize vs 4 = x4 at *
          generalize vs 5 = x5 at *
          generalize vs 6 = x6 at *
          generalize vs 7 = x7 at *
          obtain ⟨br, hbr, _⟩ := NAt.ptr q7
          subst hbr
          have HN9 : Hid (NAt w9 (fun b => lo ≤ b) (.pointer (some ⟨br, 0, none⟩)) (.cond x y1 z1)) := Lw.hid q7
          have HI := Lw.hid hI
          clear hI q3 q4 q5 q6 q7
          simp only [wpList]
          go_wp2_with fail
          go_ret
          exact ⟨rp_ok HRE.out rfl HN9.out HI.out.2.one, K2.out.tr HI.out.1⟩
    · rw [(tk_miss hq).1, (tk_miss hq).2] at HTK
      have HRE : Hid (condF x d (.ok (y1, y2)) = .error 5) := Lw.hid (by unfold condF; simp only; rw [if_neg hq])
      clear hq
      go_wp2_with fail
      refine HTK.out.mono ?_
      rintro e9 w2 ⟨rfl, h2, k2⟩
      have K2 := Lw.hid (K1.out.tr k2); have H2 := Lw.hid h2
      have q4 := heap_cell (k2.heap HB11.out n1) 0
      clear h2 k2 HTK q3
      go_wp2_with fail
      refine (fail_any _ g _ (d : Int) 0 5 H2.out).mono ?_
      rintro e9 w5 ⟨⟨a2, rfl⟩, h5, k5⟩
      have H5 := Lw.hid h5; have K5 := Lw.hid (K2.out.tr k5)
      clear h5 k5
      go_wp2_with fail
      go_ret
      exact ⟨rp_err HRE.out (by decide) ⟨_, rfl⟩ (d : Int) H5.out, K5.out⟩
end Go.Proofs.YtoedopgjonhemaaGreatDoor
