/- Of the proof of TopBooks: LogR. -/
import Derived.Test.YtgegjjnfcnalfaaGreatDoorG10
import Derived.Test.YtgegjjnfcnalfaaGreatDoorG11
import Derived.Test.YtgegjjnfcnalfaaGreatDoorG05
import Derived.BigQuiet
namespace Go.Proofs.YtgegjjnfcnalfaaGreatDoor
open Go Go.RowKit Go.Lw
set_option maxRecDepth 100000
set_option linter.unusedVariables false
set_option linter.unusedSimpArgs false
attribute [local go_sem] Oper.semAt_some
def nextN (s : Fd) : Nat := (s.num + 1) % 4294967296
abbrev logC (g : Nat) (at_ sum next : Nat) : Obj := .cells #[.pointer (some ⟨g, 0, none⟩), .int .i64 (at_ : Int), .int .u32 (sum : Int), .int .u32 (next : Int)] 110 (0, 0)
abbrev logB (g : Nat) (s : Fd) : Obj := logC g s.fin s.sum (nextN s)
def lastF (b : List UInt8) : Fd := (framesF b (b.length + 1) Fd.zero).getLastD Fd.zero
def zeros (n : Nat) : List UInt8 := List.replicate n 0
def recF (D : Dsk) : Dsk × Nat := if D.stopped then (D, 10) else if (lastF D.b).fin < D.b.length then D.put ((lastF D.b).fin : Int) (zeros (D.b.length - (lastF D.b).fin)) else (D, 0)
theorem framesF_fin {b : List UInt8} : ∀ (n : Nat) (s : Fd), s.fin ≤ b.length → ∀ f ∈ framesF b n s, f.fin ≤ b.length ∧ f.num < 4294967296 ∧ f.sum < 4294967296
  | 0, _, _, f, h => by cases h
  | n + 1, s, hs, f, h => by
    unfold framesF at h
    cases hst : stepF b s with
    | none => rw [hst] at h; cases h
    | some f1 =>
      rw [hst] at h
      have h1 := step_fin hst hs
      obtain ⟨_, _, _, _, _, h5, h6⟩ := step_some hst
      rcases List.mem_cons.1 h with rfl | h
      · exact ⟨h1.1, by rw [h5]; omega, by rw [h6]; exact checkN_lt _ _ _⟩
      · exact framesF_fin n f1 h1.1 f h
theorem getLastD_mem {α : Type} : ∀ (l : List α) (z : α), l.getLastD z = z ∨ l.getLastD z ∈ l
  | [], z => .inl rfl
  | a :: l, z => .inr (by
    rw [List.getLastD_cons]
    rcases getLastD_mem l a with h | h
    · rw [h]; exact List.mem_cons_self
    · exact List.mem_cons_of_mem _ h)
theorem lastF_ok (b : List UInt8) : (lastF b).fin ≤ b.length ∧ (lastF b).num < 4294967296 ∧ (lastF b).sum < 4294967296 := by
  unfold lastF
  rcases getLastD_mem (framesF b (b.length + 1) Fd.zero) Fd.zero with h | h
  · rw [h]; exact ⟨Nat.zero_le _, by decide, by decide⟩
  · exact framesF_fin _ _ (Nat.zero_le _) _ h
theorem snocLast {α : Type} (l : List α) (x z : α) : (l ++ [x]).getLastD z = x := by simp [List.getLastD_eq_getLast?]
structure RcI (w : World) (lo B4 BL g : Nat) (X : Nat → Prop) (s : Fd) (V : World) : Prop where
  own : Own1 w lo X V
  b4 : V.heap[B4]? = some (.cells #[.pointer (some ⟨BL, 0, none⟩)] 61 (0, 0))
  bl : V.heap[BL]? = some (logB g s)
  h4 : w.heap.size ≤ B4 ∧ B4 < lo
  hl : w.heap.size ≤ BL ∧ BL < lo
  ne : B4 ≠ BL
theorem RcI.ab {w A A' : World} {lo B4 BL g : Nat} {X X' : Nat → Prop} {s : Fd} (h : RcI w lo B4 BL g X s A) (hk : Kept X A A') (hx : ∀ k, X' k → X k ∨ (A.heap.size ≤ k ∧ k < A'.heap.size)) : RcI w lo B4 BL g X' s A' :=
  ⟨h.own.ab hk hx, h.own.heap hk h.b4 h.h4.2, h.own.heap hk h.bl h.hl.2, h.h4, h.hl, h.ne⟩
structure FcAt (lo k : Nat) (v : Value) (f : Fd) (X : Nat → Prop) (V : World) : Prop where
  box : V.heap[k]? = some (fcell v f)
  no : ¬ X k
  lo : lo ≤ k
theorem FcAt.ab {lo k : Nat} {v : Value} {f : Fd} {A A' : World} {X X' : Nat → Prop} (h : FcAt lo k v f X A) (hk : Kept X A A') (hx : ∀ k, X' k → X k ∨ (A.heap.size ≤ k ∧ k < A'.heap.size)) : FcAt lo k v f X' A' :=
  ⟨hk.heap h.box h.no, fun h' => by
    have := (Array.getElem?_eq_some_iff.1 h.box).1
    rcases hx k h' with h2 | h2
    · exact h.no h2
    · omega, h.lo⟩
def RcPost (w : World) (g : Nat) (v : Value) (D : Dsk) (e : Ending) (w' : World) : Prop :=
  ∃ v', DiskAt w' g v' (recF D).1 ∧ Kept (fun k => k = g ∨ blk v k) w w' ∧ (∀ k, blk v' k → blk v k ∨ w.heap.size ≤ k) ∧
    (((recF D).2 ≠ 0 ∧ e = .returned (.tuple #[.pointer none, .int .i64 ((recF D).2 : Int)])) ∨
     ((recF D).2 = 0 ∧ ∃ BL, e = .returned (.tuple #[.pointer (some ⟨BL, 0, none⟩), .int .i64 0]) ∧ w'.heap[BL]? = some (logB g (lastF D.b)) ∧ w.heap.size ≤ BL ∧ ¬ blk v' BL))
theorem heap_alloc_lt {w : World} {k : Nat} {o o' : Obj} (h : w.heap[k]? = some o) : (w.alloc o').heap[k]? = some o := ((Kept.refl (fun _ => False) w).alloc o').heap h (fun h => h)
theorem wp_nm {P : Program} {c : Code} {Q : Exit → Act → World → Prop} {a : Act} {w : World} (h : ∀ b, Hid (b = a) → c.wp P Q b w) : c.wp P Q a w := h a (Lw.hid rfl)
theorem made_fc (V : World) (vv : Value) (x : Fd) : Kept (fun _ => False) V (V.alloc (fcell vv x)) ∧ (V.alloc (fcell vv x)).heap[V.heap.size]? = some (fcell vv x) :=
  ⟨(Kept.refl _ V).alloc _, heap_alloc V _⟩
theorem wpList_mkg {P : Program} {w : World} {ops : Array Oper} {rest : List Oper} {o : Oper} {a : Act} {Q : Exit → Act → World → Prop} (hw : Region.wanted o (yielded ops a.tmps) = true) (l c : Operand) (t : TypeId) (hop : o.op = Op.makeSlice t l c)
    {e : TypeId} {i : TypeInfo} (h1 : P.underlying t = some (.slice e)) (h2 : P.info? e = some i) (h3 : i.zero = some (.int .u8 0)) (h4 : i.size = 1) (h5 : i.bytes = 1)
    (kl kc : IntKind) (L C : Int) (n : Nat) (hl : a.eval l = .int kl L) (hc : a.eval c = .int kc C) (hL : L = (n : Int)) (hC : C = (n : Int)) (b2 : n ≤ 281474976710656)
    (hK : ∀ g w', g = w.heap.size → w'.ownsRow 0 e 1 (.slice (some ⟨g, 0, none⟩) n n) n ((List.replicate n (0 : UInt8)).map bv) → Kept (fun _ => False) w w' → wpList P ops Q rest (a.put o.dst (.slice (some ⟨g, 0, none⟩) n n)) w') :
    wpList P ops Q (o :: rest) a w := by
  refine wpList_step fun K hK' => ?_
  rw [if_pos hw]
  obtain ⟨w', hrun, r1, r2⟩ := run_make_full (P := P) w 0 t e i (.int .u8 0) 1 h1 h2 h3 h4 kl kc n (by rw [h5, Nat.one_mul]; exact b2) (by unfold maxLen; omega) (Nat.zero_le _)
  subst hL
  subst hC
  have hm : (madeCells (Value.int .u8 0).cells (n * 1)).toList = (List.replicate n (0 : UInt8)).map bv := by
    apply List.ext_getElem
    · simp [madeCells, Value.cells]
    · intro j h1 h2
      simp [madeCells, Value.cells, bv, Nat.mod_one]
  rw [hm] at r1
  unfold Oper.wp
  simp [execOp, hop, hl, hc, hrun, Result.andThen]
  exact hK' _ _ (hK _ w' rfl r1 ⟨r2.os, r2.tape, r2.output, r2.size, fun k hk _ => r2.block k hk (by simp)⟩)
theorem diskInfoB : ∃ i, Tryz.prog.info? 5 = some i ∧ i.zero = some (.int .u8 0) ∧ i.size = 1 ∧ i.bytes = 1 := by
  obtain ⟨i, h1, h2, h3, h4⟩ := info_parts (P := Tryz.prog) (e := 5) (z := .int .u8 0) (size := 1) (bytes := 1) (by kernel_rfl)
  exact ⟨i, h1, h2, h3, h4⟩
theorem rc_leaves {w V V' : World} {g lg D' : Nat} {v v' : Value} {D D1 : Dsk} {er : Nat} {e : Ending} (hD' : w.heap.size ≤ D') (hgl : g < w.heap.size) (hvl : ∀ k, blk v k → k < w.heap.size) (hlw : w.heap.size ≤ lg)
    (hr : recF D = (D1, er)) (d : DiskAt V g v' D1) (k : Kept (fun k => k = g ∨ blk v k) w V) (f : ∀ k, blk v' k → blk v k ∨ (w.heap.size ≤ k ∧ k ≠ lg ∧ k ≠ D')) (hk : Kept (fun k => k ∈ [D']) V V')
    (h : (er ≠ 0 ∧ e = .returned (.tuple #[.pointer none, .int .i64 (er : Int)])) ∨ (er = 0 ∧ e = .returned (.tuple #[.pointer (some ⟨lg, 0, none⟩), .int .i64 0]) ∧ V.heap[lg]? = some (logB g (lastF D.b)) ∧ lg ≠ D')) : RcPost w g v D e V' := by
  refine ⟨v', ?_, ?_, ?_, ?_⟩
  · rw [hr]
    exact d.kept hk (fun h => by rw [List.mem_singleton.1 h] at hgl; omega) (fun b hb hm => by
      rw [List.mem_singleton.1 hm] at hb
      rcases f _ hb with h | h
      · have := hvl _ h; omega
      · exact h.2.2 rfl)
  · exact k.trans hk (fun i hi hm => by rw [List.mem_singleton.1 hm] at hi; omega)
  · exact fun k hk => (f k hk).imp id (fun h => h.1)
  · rw [hr]
    rcases h with ⟨h1, h2⟩ | ⟨h1, h2, h3, h4⟩
    · exact .inl ⟨h1, h2⟩
    · refine .inr ⟨h1, lg, h2, hk.heap h3 (fun hm => h4 (List.mem_singleton.1 hm)), hlw, fun hb => ?_⟩
      rcases f _ hb with h | h
      · have := hvl _ h; omega
      · exact h.2.1 rfl
def rT {R : World → World → Prop} : StableR R := ⟨fun _ _ => True, fun _ _ _ _ h => h⟩
def nthO (g : Nat) (s f : Fd) (k : Nat) : Obj := [logB g s, logC g f.fin s.sum (nextN s), logC g f.fin f.sum (nextN s), logB g f].getD k (logB g f)
set_option maxHeartbeats 8000000 in
theorem recover_any (w : World) (g : Nat) (v : Value) (D : Dsk) (h : DiskAt w g v D) (ok : D.ok) (ht : Tab w) :
    Calls Tryz.prog 23 #[.pointer (some ⟨g, 0, none⟩)] w (RcPost w g v D) := by
  have H := Lw.hid h; have HT := Lw.hid ht; have OK := Lw.hid ok
  have hgl := heap_lt h.box
  have hD : D.b.length ≤ 1048576 := Nat.le_trans ok.len ok.cap
  clear h ht ok
  refine calls_of_wp_marks Tryz.func23 rfl ?_
  simp only [Tryz.ntmps23, List.size_toArray, List.length_cons, List.length_nil, Nat.reduceAdd, Nat.reduceSub, Array.replicate_succ, Array.replicate_zero, List.push_toArray, List.append_toArray, List.nil_append, List.cons_append]
  go_wp2_with fail
  refine (dcopy_any w g v D H.out hD).mono ?_
  rintro e w1 ⟨g1, v1, rfl, _, k1, _, _⟩
  have K1 := Lw.hid k1
  have H1 := Lw.hid (H.out.kept k1 (fun h => h) (fun _ _ h => h))
  clear k1
  go_wp2_with fail
  refine (dstopped_any w1 g v D H1.out).mono ?_
  rintro e w2 ⟨rfl, rfl⟩
  cases hst : D.stopped with
  | true =>
    have HR : Hid (recF D = (D, 10)) := Lw.hid (by unfold recF; rw [if_pos hst])
    go_wp2_with fail
    refine ⟨.tuple #[.pointer none, .int .i64 10], by simp [results, go_sem], ?_⟩
    refine ⟨v, by rw [HR.out]; exact H1.out, K1.out.mono (fun _ _ h => h.elim), fun k hk => .inl hk, .inl ⟨by rw [HR.out]; exact (by decide : (10 : Nat) ≠ 0), by rw [HR.out]; rfl⟩⟩
  | false =>
  go_wp2_with fail
  obtain ⟨lg, hlg⟩ : ∃ lg, w1.heap.size = lg := ⟨_, rfl⟩
  have hlg1 : (w1.alloc (logB g Fd.zero)).heap.size = lg + 1 := by simp [hlg]
  obtain ⟨w3, hw3⟩ : ∃ w3, (w1.alloc (logB g Fd.zero)).alloc (.cells #[.pointer (some ⟨lg, 0, none⟩)] 61) = w3 := ⟨_, rfl⟩
  have hb3 : w3.heap[lg]? = some (logB g Fd.zero) := by rw [← hw3]; exact heap_alloc_lt (by rw [← hlg]; exact heap_alloc w1 _)
  have hb4 : w3.heap[lg + 1]? = some (.cells #[.pointer (some ⟨lg, 0, none⟩)] 61 (0, 0)) := by rw [← hw3, ← hlg1]; exact heap_alloc _ _
  have k3 : Kept (fun _ => False) w1 w3 := by rw [← hw3]; exact ((Kept.refl _ w1).alloc _).alloc _
  change Calls _ _ _ ((w1.alloc (logB g Fd.zero)).alloc _) _
  rw [hlg, hw3]
  have K3 := Lw.hid (K1.out.trans k3 (fun _ _ h => h)); have B3 := Lw.hid hb3; have B4 := Lw.hid hb4; have LG := Lw.hid hlg
  have H3 := Lw.hid (H1.out.kept k3 (fun h => h) (fun _ _ h => h))
  have hlw : w.heap.size ≤ lg := by rw [← hlg]; exact K1.out.size
  have hl3 : lg + 1 < w3.heap.size := (Array.getElem?_eq_some_iff.1 hb4).1
  clear hw3 hlg hlg1 hb3 hb4 k3
  refine (dread_any w3 g v D H3.out hD 0 1048576 (by decide) (by decide)).mono ?_
  rintro e w4 ⟨r, rfl, ho, k4, hb⟩
  have hrd : D.rd 0 1048576 = D.b := by
    unfold Dsk.rd
    rw [if_neg (by omega)]
    simp only [Int.toNat_zero, List.drop_zero]
    exact List.take_of_length_le (by simpa using hD)
  rw [hrd] at ho
  have HRB : Hid (RdB w4 r D.b) := Lw.hid (RdB.of_own ho rfl)
  obtain ⟨adr, capr, rfl, _, _, _⟩ := own_slice ho
  obtain ⟨n, hn⟩ : ∃ n, D.b.length = n := ⟨_, rfl⟩
  have HN := Lw.hid hn
  rw [hn] at HRB hD
  have K4 := Lw.hid (K3.out.trans k4 (fun _ _ h => h)); have B34 := Lw.hid (k4.heap B3.out (fun h => h)); have B44 := Lw.hid (k4.heap B4.out (fun h => h))
  have hl4 := k4.size
  have HBR : Hid (∀ k, blk (.slice adr n capr) k → w3.heap.size ≤ k) := Lw.hid (by rw [← hn]; exact hb)
  rw [hn]
  clear ho hrd hb k4 hn
  go_wp2_with fail
  refine (frames_any w4 _ D.b HRB.out).mono ?_
  rintro e w5 ⟨BX, rfl, hbx, k5, hbx2⟩
  have K5 := Lw.hid (K4.out.trans k5 (fun _ _ h => h)); have B35 := Lw.hid (k5.heap B34.out (fun h => h)); have B45 := Lw.hid (k5.heap B44.out (fun h => h))
  have hl5 := k5.size
  have FR : Hid (FrAt w5 BX (.slice adr n capr) D.b) := Lw.hid ⟨hbx, HRB.out.kept k5 (fun _ _ h => h), HT.out.below (K5.out.below (Nat.le_refl _) (fun _ _ h => h))⟩
  have IT := Lw.hid (frames_iter w5 BX _ D.b FR.out (by rw [HN.out]; exact hD))
  clear hbx k5
  go_wp2_with fail
  obtain ⟨lo, hlo⟩ : ∃ lo, w5.heap.size = lo := ⟨_, rfl⟩
  have hlo5 : lg + 1 < lo := by omega
  have RC : Hid (RcI w lo (lg + 1) lg g (fun _ => False) Fd.zero w5) := Lw.hid ⟨⟨K5.out, fun _ h => h.elim, by have := K5.out.size; omega, by omega⟩, B45.out, B35.out, by omega, by omega, by omega⟩
  have FRL := Lw.hid FR.out.lt
  have FRN : Hid (∀ k, FrR BX (.slice adr n capr) D.b k → k ≠ lg) := Lw.hid (fun k hk e => by
    rcases hk with h | ⟨_, h⟩ | h
    · omega
    · have := HBR.out k h; omega
    · have := World.block_lt_of_cell? w _ (HT.out 0 (by decide)); dsimp only at this; omega)
  have LO := Lw.hid hlo
  rw [HN.out] at IT
  clear hlo
  refine wp_nm (fun ac hac => ?_)
  refine wp_rangeE (gf := 89) (lb := #[.pointer (some ⟨BX, 0, none⟩)]) (by rw [hac.out]; rfl) (Go.Proofs.enters_of Tryz.func89 (by kernel_rfl) rfl)
    IT.out FdE.mono FRL.out (fun _ _ _ x A W h => by obtain ⟨v, rfl, _⟩ := h; rfl)
    (fun X pre V => RcI w lo (lg + 1) lg g X (pre.getLastD Fd.zero) V)
    (fun c X pre V => False)
    ?_ ?_ ?_ (fun X Xp q V => ∃ k vv, FcAt lo k vv q.2.1 X V ∧ q.2.2 = { tmps := (ac.tmps.setIfInBounds 20 (.agg #[vv, .int .u32 (q.2.1.num : Int), .int .u32 (q.2.1.sum : Int), .int .i64 (q.2.1.fin : Int)])).setIfInBounds 5 (.pointer (some ⟨k, 0, none⟩)), defers := [] }) ?_ ?assign ?body ?done ?stop
  · rintro X X' s V V' h hk hx
    exact h.ab hk hx
  · rintro c X X' s V V' h hk hx
    exact h
  · exact RC.out
  · rintro X X' Xp Xp' s V V' ⟨k, vv, h1, h2⟩ hk hx _
    exact ⟨k, vv, h1.ab hk hx, h2⟩
  case assign =>
    rintro y X Xp pre x A V K hi hXX ⟨vv, rfl, hrdv, hbv⟩ hXb hpx hsz hK
    obtain ⟨adv, capv, rfl, _, _, _⟩ := hrdv.open
    obtain ⟨pl, hpl⟩ : ∃ pl, x.p.length = pl := ⟨_, rfl⟩
    rw [hpl]
    clear hrdv hbv
    have hac' := hac.out
    rw [hac'] at hK ⊢
    have HM := Lw.hid (made_fc V (.slice adv pl capv) x)
    have HI := Lw.hid hi
    have HXB := Lw.hid hXb
    gi_wp2
    refine hK _ _ (HM.out.1.keeps (fun _ _ _ h => h)) (HI.out.ab (HM.out.1.mono (fun _ _ h => h.elim)) (fun _ h => .inl h)) ⟨V.heap.size, .slice adv pl capv, ⟨HM.out.2, fun h => by have := (HXB.out _ (hXX _ h)).2; omega, by have := LO.out; omega⟩, rfl⟩
  case body =>
    rintro y X Xp pre x a' V hip hXX ⟨k, vv, hfc, hax⟩ hXbp hpx hsz
    have hi := hip.ab (Kept.refl _ _) (fun k h => .inl (hXX k h))
    have hXb : ∀ k, X k → w5.heap.size ≤ k ∧ k < V.heap.size := fun k h => hXbp k (hXX k h)
    clear hip hXbp hXX
    dsimp only at hax
    subst hax
    rw [hac.out]
    simp only [List.setIfInBounds_toArray, List.set_cons_zero, List.set_cons_succ]
    obtain ⟨s, hs⟩ : ∃ s, pre.getLastD Fd.zero = s := ⟨_, rfl⟩
    have HS := Lw.hid hs
    rw [hs] at hi
    have HI := Lw.hid hi; have HFC := Lw.hid hfc; have HXB := Lw.hid hXb
    have hkl : k ≠ lg := by have := hfc.lo; omega
    have c4 : V.cell? ⟨lg + 1, 0, none⟩ = some (.pointer (some ⟨lg, 0, none⟩)) := heap_cell hi.b4 0
    obtain ⟨xp, xn, xs, xf⟩ := x
    have k1 : V.cell? ⟨k, 1, none⟩ = some (.int .u32 (xn : Int)) := heap_cell hfc.box 1
    have k2 : V.cell? ⟨k, 2, none⟩ = some (.int .u32 (xs : Int)) := heap_cell hfc.box 2
    have k3 : V.cell? ⟨k, 3, none⟩ = some (.int .i64 (xf : Int)) := heap_cell hfc.box 3
    clear hi hfc hXb hs
    dsimp only
    refine wpIn_block ?_
    refine wpIn_round_any (by kernel_rfl) (by kernel_rfl) (fun ⟨a, w, h⟩ => h.elim) (wpAny_chain 19 [12, 15, 18] (fun t w' => w'.heap[lg]? = some (nthO g s ⟨xp, xn, xs, xf⟩ t) ∧ Kept (fun i => i = lg) V w') (Kept (fun i => i = lg)) [rV (.pointer (some ⟨lg, 0, none⟩)), rV (.pointer (some ⟨lg, 0, none⟩)), rV (.pointer (some ⟨lg, 0, none⟩)), rV (.pointer (some ⟨k, 3, none⟩)), rV (.int .i64 (xf : Int)), rV (.pointer (some ⟨k, 2, none⟩)), rV (.int .u32 (xs : Int)), rV (.pointer (some ⟨k, 1, none⟩)), rV (.int .u32 (xn : Int)), rV (.int .u32 (nextN ⟨xp, xn, xs, xf⟩ : Int)), rV (.pointer (some ⟨lg, 0, none⟩)), rV (.pointer (some ⟨lg, 1, none⟩)), rT, rV (.pointer (some ⟨lg, 0, none⟩)), rV (.pointer (some ⟨lg, 2, none⟩)), rT, rV (.pointer (some ⟨lg, 0, none⟩)), rV (.pointer (some ⟨lg, 3, none⟩)), rT] (by kernel_rfl) ?c1 ?c2 ?c3)
    case c1 => exact ⟨HI.out.bl, (Kept.refl _ _).drew⟩
    case c2 =>
      refine csteps_free (by decide) (fun s a' w' hI hag hf K hK => ?_) ?_
      · have s4 := hag.same 4 (by decide)
        clear hag
        have HI := Lw.hid hI
        have cc := hI.2.cell c4 (by intro e; dsimp only at e; omega)
        clear hI
        go_wp2_with fail
        exact hK _ _ HI.out (Kept.refl _ _) rfl
      refine csteps_free (by decide) (fun s a' w' hI hag hf K hK => ?_) ?_
      · have s4 := hag.same 4 (by decide)
        clear hag
        have HI := Lw.hid hI
        have cc := hI.2.cell c4 (by intro e; dsimp only at e; omega)
        clear hI
        go_wp2_with fail
        exact hK _ _ HI.out (Kept.refl _ _) rfl
      refine csteps_free (by decide) (fun s a' w' hI hag hf K hK => ?_) ?_
      · have s4 := hag.same 4 (by decide)
        clear hag
        have HI := Lw.hid hI
        have cc := hI.2.cell c4 (by intro e; dsimp only at e; omega)
        clear hI
        go_wp2_with fail
        exact hK _ _ HI.out (Kept.refl _ _) rfl
      refine csteps_free (by decide) (fun s a' w' hI hag hf K hK => ?_) ?_
      · have s5 := hag.same 5 (by decide)
        clear hag
        go_wp2_with fail
        exact hK _ _ hI (Kept.refl _ _) rfl
      refine csteps_free (by decide) (fun s a' w' hI hag hf K hK => ?_) ?_
      · obtain ⟨⟨_, h3, rfl⟩, -⟩ : SFacts _ _ a' w' [3] := hf
        clear hag
        have HI := Lw.hid hI
        have cc := hI.2.cell k3 hkl
        clear hI
        go_wp2_with fail
        exact hK _ _ HI.out (Kept.refl _ _) rfl
      refine csteps_free (by decide) (fun s a' w' hI hag hf K hK => ?_) ?_
      · have s5 := hag.same 5 (by decide)
        clear hag
        go_wp2_with fail
        exact hK _ _ hI (Kept.refl _ _) rfl
      refine csteps_free (by decide) (fun s a' w' hI hag hf K hK => ?_) ?_
      · obtain ⟨⟨_, h5, rfl⟩, -⟩ : SFacts _ _ a' w' [5] := hf
        clear hag
        have HI := Lw.hid hI
        have cc := hI.2.cell k2 hkl
        clear hI
        go_wp2_with fail
        exact hK _ _ HI.out (Kept.refl _ _) rfl
      refine csteps_free (by decide) (fun s a' w' hI hag hf K hK => ?_) ?_
      · have s5 := hag.same 5 (by decide)
        clear hag
        go_wp2_with fail
        exact hK _ _ hI (Kept.refl _ _) rfl
      refine csteps_free (by decide) (fun s a' w' hI hag hf K hK => ?_) ?_
      · obtain ⟨⟨_, h7, rfl⟩, -⟩ : SFacts _ _ a' w' [7] := hf
        clear hag
        have HI := Lw.hid hI
        have cc := hI.2.cell k1 hkl
        clear hI
        go_wp2_with fail
        exact hK _ _ HI.out (Kept.refl _ _) rfl
      refine csteps_free (by decide) (fun s a' w' hI hag hf K hK => ?_) ?_
      · obtain ⟨⟨_, h8, rfl⟩, -⟩ : SFacts _ _ a' w' [8] := hf
        clear hag
        have HI := Lw.hid hI
        clear hI
        go_wp2_with fail
        exact hK _ _ HI.out (Kept.refl _ _) (congrArg (Value.int .u32) (by show ((xn : Int) + 1) % 4294967296 = (((xn + 1) % 4294967296 : Nat) : Int); omega))
      iterate 2
        refine csteps_free (by decide) (fun s a' w' hI hag hf K hK => ?_) ?_
        · obtain ⟨⟨_, h0, rfl⟩, ⟨_, h1, rfl⟩, ⟨_, h2, rfl⟩, ⟨_, h3, rfl⟩, -⟩ := hf
          clear hag
          go_wp2_with fail
          exact hK _ _ hI (Kept.refl _ _) rfl
      refine csteps_hit 0 rfl (fun a' w' hI hag hf K hK => ?_) ?_
      · obtain ⟨⟨_, h11, rfl⟩, ⟨_, h4, rfl⟩, -⟩ : SFacts _ _ a' w' [11, 4, 0, 3] := hf
        clear hag
        have HI := Lw.hid hI
        have cc := heap_cell hI.1 1
        have ff := heap_free hI.1 1
        clear hI
        go_wp2_with fail
        exact hK undef _ ⟨heap_set HI.out.1 1 _, HI.out.2.set lg 1 (fun _ => rfl) _⟩ ((Kept.refl (fun i => i = lg) w').set lg 1 (fun _ => rfl) _) trivial
      iterate 2
        refine csteps_free (by decide) (fun s a' w' hI hag hf K hK => ?_) ?_
        · obtain ⟨⟨_, h0, rfl⟩, ⟨_, h1, rfl⟩, ⟨_, h2, rfl⟩, ⟨_, h3, rfl⟩, ⟨_, h4, rfl⟩, ⟨_, h5, rfl⟩, ⟨_, h6, rfl⟩, ⟨_, h7, rfl⟩, ⟨_, h8, rfl⟩, ⟨_, h9, rfl⟩, -⟩ := hf
          clear hag
          go_wp2_with fail
          exact hK _ _ hI (Kept.refl _ _) rfl
      refine csteps_hit 1 rfl (fun a' w' hI hag hf K hK => ?_) ?_
      · obtain ⟨⟨_, h14, rfl⟩, ⟨_, h6, rfl⟩, -⟩ : SFacts _ _ a' w' [14, 6, 12, 0, 1, 3, 4, 5, 10, 11] := hf
        clear hag
        have HI := Lw.hid hI
        have cc := heap_cell hI.1 2
        have ff := heap_free hI.1 2
        clear hI
        go_wp2_with fail
        exact hK undef _ ⟨heap_set HI.out.1 2 _, HI.out.2.set lg 2 (fun _ => rfl) _⟩ ((Kept.refl (fun i => i = lg) w').set lg 2 (fun _ => rfl) _) trivial
      iterate 2
        refine csteps_free (by decide) (fun s a' w' hI hag hf K hK => ?_) ?_
        · obtain ⟨⟨_, h0, rfl⟩, ⟨_, h1, rfl⟩, ⟨_, h2, rfl⟩, ⟨_, h3, rfl⟩, ⟨_, h4, rfl⟩, ⟨_, h5, rfl⟩, ⟨_, h6, rfl⟩, ⟨_, h7, rfl⟩, ⟨_, h8, rfl⟩, ⟨_, h9, rfl⟩, ⟨_, h10, rfl⟩, ⟨_, h11, rfl⟩, ⟨_, h12, rfl⟩, ⟨_, h13, rfl⟩, ⟨_, h14, rfl⟩, ⟨_, h15, rfl⟩, ⟨_, h16, rfl⟩, -⟩ := hf
          clear hag
          go_wp2_with fail
          exact hK _ _ hI (Kept.refl _ _) rfl
      refine csteps_hit 2 rfl (fun a' w' hI hag hf K hK => ?_) ?_
      · obtain ⟨⟨_, h17, rfl⟩, ⟨_, h9, rfl⟩, -⟩ : SFacts _ _ a' w' [17, 9, 15, 0, 1, 2, 3, 4, 5, 6, 7, 8, 10, 11, 12, 13, 14] := hf
        clear hag
        have HI := Lw.hid hI
        have cc := heap_cell hI.1 3
        have ff := heap_free hI.1 3
        clear hI
        go_wp2_with fail
        exact hK undef _ ⟨heap_set HI.out.1 3 _, HI.out.2.set lg 3 (fun _ => rfl) _⟩ ((Kept.refl (fun i => i = lg) w').set lg 3 (fun _ => rfl) _) trivial
      exact trivial
    case c3 =>
      intro vs w7 hI hvs
      simp only [pzz, putAll, Act.put, Nat.reduceAdd, rpv (hvs 0 _ _ rfl rfl) rfl, rpv (hvs 1 _ _ rfl rfl) rfl, rpv (hvs 2 _ _ rfl rfl) rfl, rpv (hvs 3 _ _ rfl rfl) rfl, rpv (hvs 4 _ _ rfl rfl) rfl, rpv (hvs 5 _ _ rfl rfl) rfl, rpv (hvs 6 _ _ rfl rfl) rfl, rpv (hvs 7 _ _ rfl rfl) rfl, rpv (hvs 8 _ _ rfl rfl) rfl, rpv (hvs 9 _ _ rfl rfl) rfl, rpv (hvs 10 _ _ rfl rfl) rfl, rpv (hvs 11 _ _ rfl rfl) rfl, rpv (hvs 13 _ _ rfl rfl) rfl, rpv (hvs 14 _ _ rfl rfl) rfl, rpv (hvs 16 _ _ rfl rfl) rfl, rpv (hvs 17 _ _ rfl rfl) rfl]
      clear hvs
      simp only [wpList]
      exact ⟨hI.2.keeps (fun i hi hr e => by
        rcases hr with h | h
        · exact FRN.out i h e
        · have := (HXB.out i h).1; omega), by
        show RcI w lo (lg + 1) lg g X ((pre ++ [(⟨xp, xn, xs, xf⟩ : Fd)]).getLastD Fd.zero) w7
        rw [snocLast]
        have hx := HI.out
        exact ⟨hx.own.step hI.2 (fun i e => by omega), hI.2.heap hx.b4 (by omega), hI.1, hx.h4, hx.hl, hx.ne⟩⟩
  case done =>
    rintro X D' V hD' hXD hXb hi hdf
    rw [hac.out]
    have hls : (framesF D.b (n + 1) Fd.zero).getLastD Fd.zero = lastF D.b := by unfold lastF; rw [HN.out]
    rw [hls] at hi
    have hok := lastF_ok D.b
    obtain ⟨s, hs⟩ : ∃ s, lastF D.b = s := ⟨_, rfl⟩
    rw [hs] at hi hok
    rw [HN.out] at hok
    have hsf0 := hok.1
    obtain ⟨sf, hsf⟩ : ∃ sf, s.fin = sf := ⟨_, rfl⟩
    have c4 : V.cell? ⟨lg + 1, 0, none⟩ = some (.pointer (some ⟨lg, 0, none⟩)) := heap_cell hi.b4 0
    have l1 : V.cell? ⟨lg, 1, none⟩ = some (.int .i64 (sf : Int)) := by rw [← hsf]; exact heap_cell hi.bl 1
    have HS := Lw.hid hs; have HI := Lw.hid hi; have HDF := Lw.hid hdf; have HSF := Lw.hid hsf
    have HV := Lw.hid (H.out.kept hi.own.k (fun h => h) (fun _ _ h => h))
    have hDV : D' < V.heap.size := (Array.getElem?_eq_some_iff.1 hdf).1
    have hlgV : lg < V.heap.size := (Array.getElem?_eq_some_iff.1 hi.bl).1
    have HVL : Hid (∀ k, blk v k → k < w.heap.size) := Lw.hid (own_lt H.out.own)
    have hV5 := hi.own.k.size
    have hlD : lg < D' := by have := LO.out; omega
    rw [hsf] at hsf0
    have HST := Lw.hid hst
    clear hi hok hs hdf hls hXb hsf hst
    by_cases hlt : sf < n
    · have hq : decide ((sf : Int) < (n : Int)) = true := by simp; omega
      obtain ⟨z, hz⟩ : ∃ z, n = sf + z := ⟨n - sf, by omega⟩
      have HZ := Lw.hid hz
      have hz9 : z ≤ 1048576 := by omega
      clear hz
      go_wp2_with fail
      refine wp_region_tail 7 [stV (.pointer (some ⟨g, 0, none⟩)), stV (.int .i64 (n : Int)), stV (.pointer (some ⟨lg, 0, none⟩)), stV (.pointer (some ⟨lg, 0, none⟩)), stV (.pointer (some ⟨lg, 1, none⟩)), stV (.int .i64 (sf : Int)), stV (.bool true)] (by kernel_rfl) (by kernel_rfl) ?_ ?_
      · refine ssteps_cons (fun a' w' hI hag hf K hK => ?_) ?_
        · have s0 := hag.same 0 (by decide)
          clear hag
          go_wp2_with fail
          exact hK _ _ hI (Kept.refl _ _) rfl
        refine ssteps_cons (fun a' w' hI hag hf K hK => ?_) ?_
        · obtain ⟨⟨_, h0, rfl⟩, -⟩ : SFacts _ _ a' w' [0] := hf
          clear hag
          have HI' := Lw.hid hI
          clear hI
          go_wp2_with fail
          refine (dend_any w' g v D (HV.out.kept HI'.out (fun h => h) (fun _ _ h => h))).mono ?_
          rintro e _ ⟨rfl, rfl⟩
          rw [HN.out]
          go_wp2_with fail
          exact hK _ _ HI'.out (Kept.refl _ _) rfl
        refine ssteps_cons (fun a' w' hI hag hf K hK => ?_) ?_
        · have s4 := hag.same 4 (by decide)
          clear hag
          have HI' := Lw.hid hI
          have cc := hI.cell c4 (fun h => h)
          clear hI
          go_wp2_with fail
          exact hK _ _ HI'.out (Kept.refl _ _) rfl
        iterate 2
          refine ssteps_cons (fun a' w' hI hag hf K hK => ?_) ?_
          · obtain ⟨⟨_, h0, rfl⟩, -⟩ := hf
            clear hag
            go_wp2_with fail
            exact hK _ _ hI (Kept.refl _ _) rfl
        refine ssteps_cons (fun a' w' hI hag hf K hK => ?_) ?_
        · obtain ⟨⟨_, h4, rfl⟩, -⟩ : SFacts _ _ a' w' [4] := hf
          clear hag
          have HI' := Lw.hid hI
          have cc := hI.cell l1 (fun h => h)
          clear hI
          go_wp2_with fail
          exact hK _ _ HI'.out (Kept.refl _ _) rfl
        refine ssteps_cons (fun a' w' hI hag hf K hK => ?_) ?_
        · obtain ⟨⟨_, h0, rfl⟩, ⟨_, h1, rfl⟩, -⟩ := hf
          clear hag
          go_wp2_with fail
          exact hK _ _ hI (Kept.refl _ _) rfl
        exact trivial
      · intro vs w8 hI hvs
        simp only [pzz, putAll, Act.put, Nat.reduceAdd, spv (hvs 0 _ _ rfl rfl) rfl, spv (hvs 1 _ _ rfl rfl) rfl, spv (hvs 2 _ _ rfl rfl) rfl, spv (hvs 3 _ _ rfl rfl) rfl, spv (hvs 4 _ _ rfl rfl) rfl, spv (hvs 5 _ _ rfl rfl) rfl, spv (hvs 6 _ _ rfl rfl) rfl]
        clear hvs
        have HK8 := Lw.hid hI
        clear hI
        go_wp2_with fail
        refine wp_region_tail 13 [stV (.pointer (some ⟨g, 0, none⟩)), stV (.pointer (some ⟨lg, 0, none⟩)), stV (.pointer (some ⟨lg, 0, none⟩)), stV (.pointer (some ⟨lg, 1, none⟩)), stV (.int .i64 (sf : Int)), stV (.pointer (some ⟨g, 0, none⟩)), stV (.int .i64 (n : Int)), stV (.pointer (some ⟨lg, 0, none⟩)), stV (.pointer (some ⟨lg, 0, none⟩)), stV (.pointer (some ⟨lg, 1, none⟩)), stV (.int .i64 (sf : Int)), stV (.int .i64 ((n : Int) - (sf : Int))), stOwn w8.heap.size (zeros z)] (by kernel_rfl) (by kernel_rfl) ?_ ?_
        · refine ssteps_cons (fun a' w' hI hag hf K hK => ?_) ?_
          · have s0 := hag.same 0 (by decide)
            clear hag
            go_wp2_with fail
            exact hK _ _ hI (Kept.refl _ _) rfl
          refine ssteps_cons (fun a' w' hI hag hf K hK => ?_) ?_
          · have s4 := hag.same 4 (by decide)
            clear hag
            have HI' := Lw.hid hI
            have cc := (HK8.out.trans hI (fun _ _ h => h)).cell c4 (fun h => h)
            clear hI
            go_wp2_with fail
            exact hK _ _ HI'.out (Kept.refl _ _) rfl
          iterate 2
            refine ssteps_cons (fun a' w' hI hag hf K hK => ?_) ?_
            · obtain ⟨⟨_, h0, rfl⟩, -⟩ := hf
              clear hag
              go_wp2_with fail
              exact hK _ _ hI (Kept.refl _ _) rfl
          refine ssteps_cons (fun a' w' hI hag hf K hK => ?_) ?_
          · obtain ⟨⟨_, h3, rfl⟩, -⟩ : SFacts _ _ a' w' [3] := hf
            clear hag
            have HI' := Lw.hid hI
            have cc := (HK8.out.trans hI (fun _ _ h => h)).cell l1 (fun h => h)
            clear hI
            go_wp2_with fail
            exact hK _ _ HI'.out (Kept.refl _ _) rfl
          refine ssteps_cons (fun a' w' hI hag hf K hK => ?_) ?_
          · have s0 := hag.same 0 (by decide)
            clear hag
            go_wp2_with fail
            exact hK _ _ hI (Kept.refl _ _) rfl
          refine ssteps_cons (fun a' w' hI hag hf K hK => ?_) ?_
          · obtain ⟨⟨_, h5, rfl⟩, -⟩ : SFacts _ _ a' w' [5] := hf
            clear hag
            have HI' := Lw.hid hI
            clear hI
            go_wp2_with fail
            refine (dend_any w' g v D (HV.out.kept (HK8.out.trans HI'.out (fun _ _ h => h)) (fun h => h) (fun _ _ h => h))).mono ?_
            rintro e _ ⟨rfl, rfl⟩
            rw [HN.out]
            go_wp2_with fail
            exact hK _ _ HI'.out (Kept.refl _ _) rfl
          refine ssteps_cons (fun a' w' hI hag hf K hK => ?_) ?_
          · have s4 := hag.same 4 (by decide)
            clear hag
            have HI' := Lw.hid hI
            have cc := (HK8.out.trans hI (fun _ _ h => h)).cell c4 (fun h => h)
            clear hI
            go_wp2_with fail
            exact hK _ _ HI'.out (Kept.refl _ _) rfl
          iterate 2
            refine ssteps_cons (fun a' w' hI hag hf K hK => ?_) ?_
            · obtain ⟨⟨_, h0, rfl⟩, -⟩ := hf
              clear hag
              go_wp2_with fail
              exact hK _ _ hI (Kept.refl _ _) rfl
          refine ssteps_cons (fun a' w' hI hag hf K hK => ?_) ?_
          · obtain ⟨⟨_, h9, rfl⟩, -⟩ : SFacts _ _ a' w' [9] := hf
            clear hag
            have HI' := Lw.hid hI
            have cc := (HK8.out.trans hI (fun _ _ h => h)).cell l1 (fun h => h)
            clear hI
            go_wp2_with fail
            exact hK _ _ HI'.out (Kept.refl _ _) rfl
          refine ssteps_cons (fun a' w' hI hag hf K hK => ?_) ?_
          · obtain ⟨⟨_, h0, rfl⟩, ⟨_, h1, rfl⟩, -⟩ := hf
            clear hag
            go_wp2_with fail
            exact hK _ _ hI (Kept.refl _ _) rfl
          refine ssteps_cons (fun a' w' hI hag hf K hK => ?_) ?_
          · obtain ⟨⟨_, h11, rfl⟩, -⟩ : SFacts _ _ a' w' [11] := hf
            clear hag
            have HI' := Lw.hid hI
            clear hI
            obtain ⟨i, hi, hz0, hz1, hz2⟩ := diskInfoB
            go_wp2_with (refine wpList_mkg rfl _ _ _ rfl Tryz.underlying36 hi hz0 hz1 hz2 .i64 .i64 ((n : Int) - (sf : Int)) ((n : Int) - (sf : Int)) z (by simp [Act.eval, h11]) (by simp [Act.eval, h11]) (by have := HZ.out; omega) (by have := HZ.out; omega) (by omega) ?_; intro gz wz hgz ho hk; have HO := Lw.hid ho; have HK9 := Lw.hid hk; have HGZ := Lw.hid hgz; clear ho hk hgz)
            refine hK _ _ (HI'.out.trans HK9.out (fun _ _ h => h)) HK9.out ⟨by rw [show (zeros z).length = z from List.length_replicate ..]; exact HO.out, fun k hk => by have := blk_some hk; have h2 := HGZ.out; have h3 := HI'.out.size; dsimp only at this; omega⟩
          exact trivial
        · intro vs w9 hI hvs
          have q12 := hvs 12 _ _ rfl rfl
          simp only [pzz, putAll, Act.put, Nat.reduceAdd, spv (hvs 0 _ _ rfl rfl) rfl, spv (hvs 1 _ _ rfl rfl) rfl, spv (hvs 2 _ _ rfl rfl) rfl, spv (hvs 3 _ _ rfl rfl) rfl, spv (hvs 4 _ _ rfl rfl) rfl, spv (hvs 5 _ _ rfl rfl) rfl, spv (hvs 6 _ _ rfl rfl) rfl, spv (hvs 7 _ _ rfl rfl) rfl, spv (hvs 8 _ _ rfl rfl) rfl, spv (hvs 9 _ _ rfl rfl) rfl, spv (hvs 10 _ _ rfl rfl) rfl, spv (hvs 11 _ _ rfl rfl) rfl]
          clear hvs
          generalize vs 12 = x12 at *
          have HK9 := Lw.hid (HK8.out.trans hI (fun _ _ h => h))
          have HQ := Lw.hid q12
          obtain ⟨adz, capz, hz4, _, _, _⟩ := own_slice q12.1
          clear hI q12
          obtain ⟨zl, hzl⟩ : ∃ zl, (zeros z).length = zl := ⟨_, rfl⟩
          have HZL := Lw.hid hzl
          rw [hzl] at hz4
          subst hz4
          clear hzl
          have HV9 := Lw.hid (HV.out.kept HK9.out (fun h => h) (fun _ _ h => h))
          go_wp2_with fail
          refine (dput_any w9 g v D HV9.out OK.out (sf : Int) (by omega) _ (zeros z) (RdB.of_own HQ.out.1 rfl) (fun _ k hk => by have h1 := HQ.out.2 k (by rw [← HZL.out] at hk ⊢; exact hk); have h2 := HK8.out.size; exact ⟨by omega, fun hb => by have := HVL.out k hb; omega⟩)).mono ?_
          rintro e wA ⟨rfl, vA, dA, kA, fA⟩
          obtain ⟨⟨D1, er⟩, hp⟩ : ∃ x, D.put (sf : Int) (zeros z) = x := ⟨_, rfl⟩
          rw [hp] at dA ⊢
          have HREC : Hid (recF D = (D1, er)) := Lw.hid (by unfold recF; rw [if_neg (by rw [HST.out]; simp), HS.out, HSF.out, HN.out, if_pos hlt, show n - sf = z by have := HZ.out; omega]; exact hp)
          have DA := Lw.hid dA; have KA := Lw.hid kA; have FA := Lw.hid fA
          have c4A : wA.cell? ⟨lg + 1, 0, none⟩ = some (.pointer (some ⟨lg, 0, none⟩)) := kA.cell (HK9.out.cell c4 (fun h => h)) (fun e => by rcases e with e | e; dsimp only at e; omega; have := HVL.out _ e; dsimp only at this; omega)
          clear dA kA fA hp
          dsimp only
          by_cases he : er = 0
          · subst he
            go_wp2_with fail
            refine leaves_marks [D'] wA (by simp) (fun r hr => by rw [List.mem_singleton.1 hr]; exact KA.out.heap (HK9.out.heap HDF.out (fun h => h)) (fun e => by rcases e with e | e; omega; have := HVL.out _ e; omega)) (fun V'' hk => ⟨.tuple #[.pointer (some ⟨lg, 0, none⟩), .int .i64 0], by simp [results, go_sem], rc_leaves (D' := D') (lg := lg) (by have := hD'; have := K5.out.size; omega) hgl HVL.out hlw HREC.out DA.out ((HI.out.own.k.trans HK9.out (fun _ _ h => h)).mono (fun _ _ h => h.elim) |>.trans KA.out (fun _ _ h => h)) (fun k hk => by rcases FA.out k hk with h | h; exact .inl h; have h2 := HK9.out.size; exact .inr ⟨by omega, by omega, by omega⟩) hk (.inr ⟨rfl, rfl, by rw [HS.out]; exact KA.out.heap (HK9.out.heap HI.out.bl (fun h => h)) (fun e => by rcases e with e | e; omega; have := HVL.out _ e; omega), by omega⟩)⟩)
          · have hen : ((er : Int) != 0) = true := by rw [bne_iff_ne]; omega
            go_wp2_with fail
            refine leaves_marks [D'] wA (by simp) (fun r hr => by rw [List.mem_singleton.1 hr]; exact KA.out.heap (HK9.out.heap HDF.out (fun h => h)) (fun e => by rcases e with e | e; omega; have := HVL.out _ e; omega)) (fun V'' hk => ⟨.tuple #[.pointer none, .int .i64 (er : Int)], by simp [results, go_sem], rc_leaves (D' := D') (lg := lg) (by have := hD'; have := K5.out.size; omega) hgl HVL.out hlw HREC.out DA.out ((HI.out.own.k.trans HK9.out (fun _ _ h => h)).mono (fun _ _ h => h.elim) |>.trans KA.out (fun _ _ h => h)) (fun k hk => by rcases FA.out k hk with h | h; exact .inl h; have h2 := HK9.out.size; exact .inr ⟨by omega, by omega, by omega⟩) hk (.inl ⟨he, rfl⟩)⟩)
    · have hq : decide ((sf : Int) < (n : Int)) = false := by simp; omega
      go_wp2_with fail
      refine wp_region_tail 7 [stV (.pointer (some ⟨g, 0, none⟩)), stV (.int .i64 (n : Int)), stV (.pointer (some ⟨lg, 0, none⟩)), stV (.pointer (some ⟨lg, 0, none⟩)), stV (.pointer (some ⟨lg, 1, none⟩)), stV (.int .i64 (sf : Int)), stV (.bool false)] (by kernel_rfl) (by kernel_rfl) ?_ ?_
      · refine ssteps_cons (fun a' w' hI hag hf K hK => ?_) ?_
        · have s0 := hag.same 0 (by decide)
          clear hag
          go_wp2_with fail
          exact hK _ _ hI (Kept.refl _ _) rfl
        refine ssteps_cons (fun a' w' hI hag hf K hK => ?_) ?_
        · obtain ⟨⟨_, h0, rfl⟩, -⟩ : SFacts _ _ a' w' [0] := hf
          clear hag
          have HI' := Lw.hid hI
          clear hI
          go_wp2_with fail
          refine (dend_any w' g v D (HV.out.kept HI'.out (fun h => h) (fun _ _ h => h))).mono ?_
          rintro e _ ⟨rfl, rfl⟩
          rw [HN.out]
          go_wp2_with fail
          exact hK _ _ HI'.out (Kept.refl _ _) rfl
        refine ssteps_cons (fun a' w' hI hag hf K hK => ?_) ?_
        · have s4 := hag.same 4 (by decide)
          clear hag
          have HI' := Lw.hid hI
          have cc := hI.cell c4 (fun h => h)
          clear hI
          go_wp2_with fail
          exact hK _ _ HI'.out (Kept.refl _ _) rfl
        iterate 2
          refine ssteps_cons (fun a' w' hI hag hf K hK => ?_) ?_
          · obtain ⟨⟨_, h0, rfl⟩, -⟩ := hf
            clear hag
            go_wp2_with fail
            exact hK _ _ hI (Kept.refl _ _) rfl
        refine ssteps_cons (fun a' w' hI hag hf K hK => ?_) ?_
        · obtain ⟨⟨_, h4, rfl⟩, -⟩ : SFacts _ _ a' w' [4] := hf
          clear hag
          have HI' := Lw.hid hI
          have cc := hI.cell l1 (fun h => h)
          clear hI
          go_wp2_with fail
          exact hK _ _ HI'.out (Kept.refl _ _) rfl
        refine ssteps_cons (fun a' w' hI hag hf K hK => ?_) ?_
        · obtain ⟨⟨_, h0, rfl⟩, ⟨_, h1, rfl⟩, -⟩ := hf
          clear hag
          go_wp2_with fail
          exact hK _ _ hI (Kept.refl _ _) rfl
        exact trivial
      · intro vs w8 hI hvs
        simp only [pzz, putAll, Act.put, Nat.reduceAdd, spv (hvs 0 _ _ rfl rfl) rfl, spv (hvs 1 _ _ rfl rfl) rfl, spv (hvs 2 _ _ rfl rfl) rfl, spv (hvs 3 _ _ rfl rfl) rfl, spv (hvs 4 _ _ rfl rfl) rfl, spv (hvs 5 _ _ rfl rfl) rfl, spv (hvs 6 _ _ rfl rfl) rfl]
        clear hvs
        have HK8 := Lw.hid hI
        have c48 := hI.cell c4 (fun h => h)
        clear hI
        go_wp2_with fail
        have HREC : Hid (recF D = (D, 0)) := Lw.hid (by unfold recF; rw [if_neg (by rw [HST.out]; simp), HS.out, HSF.out, HN.out, if_neg hlt])
        refine leaves_marks [D'] w8 (by simp) (fun r hr => by rw [List.mem_singleton.1 hr]; exact HK8.out.heap HDF.out (fun h => h)) (fun V'' hk => ⟨.tuple #[.pointer (some ⟨lg, 0, none⟩), .int .i64 0], by simp [results, go_sem], rc_leaves (D' := D') (lg := lg) (by have := hD'; have := K5.out.size; omega) hgl HVL.out hlw HREC.out (HV.out.kept HK8.out (fun h => h) (fun _ _ h => h)) ((HI.out.own.k.trans HK8.out (fun _ _ h => h)).mono (fun _ _ h => h.elim)) (fun k hk => .inl hk) hk (.inr ⟨rfl, rfl, by rw [HS.out]; exact HK8.out.heap HI.out.bl (fun h => h), by omega⟩)⟩)
  case stop =>
    rintro X c pre D V _ _ _ _ _ h
    exact h.elim
end Go.Proofs.YtgegjjnfcnalfaaGreatDoor
