/- ArithWorks: the document's machine in memory; bad, wrong, is, deeper. -/
import Derived.Test.YtoedopgjonhemaaGreatDoorWorks2
namespace Go.Proofs.YtoedopgjonhemaaGreatDoor
open Go Go.RowKit Go.Lw
set_option maxRecDepth 100000
set_option linter.unusedVariables false
set_option linter.unusedSimpArgs false
attribute [local go_sem] BA_toList
def tkC (t : Tok) : List Value := [.int .i64 (t.1 : Int), .string (BA t.2)]
def vrC (p : List UInt8 × List UInt8) : List Value := [.string (BA p.1), .string (BA p.2)]
/-- The machine's cells. -/
def MC (w : World) (mb : Nat) (vL vV vA : Value) (at_ d sk bd wr : Int) : Prop := w.heap[mb]? = some (.cells #[vL, .int .i64 at_, .int .i64 d, .int .i64 sk, .int .i64 bd, .int .i64 wr, vV, vA] 50 (0, 0))
section
variable {w w' : World} {mb : Nat} {vL vV vA : Value} {at_ d sk bd wr : Int}
theorem MC.cells (h : MC w mb vL vV vA at_ d sk bd wr) : (w.cell? ⟨mb, 0, none⟩ = some vL ∧ w.cell? ⟨mb, 1, none⟩ = some (.int .i64 at_) ∧ w.cell? ⟨mb, 2, none⟩ = some (.int .i64 d) ∧ w.cell? ⟨mb, 3, none⟩ = some (.int .i64 sk) ∧ w.cell? ⟨mb, 4, none⟩ = some (.int .i64 bd) ∧ w.cell? ⟨mb, 5, none⟩ = some (.int .i64 wr) ∧ w.cell? ⟨mb, 6, none⟩ = some vV ∧ w.cell? ⟨mb, 7, none⟩ = some vA) ∧
    (w.frozen? ⟨mb, 1, none⟩ = false ∧ w.frozen? ⟨mb, 2, none⟩ = false ∧ w.frozen? ⟨mb, 3, none⟩ = false ∧ w.frozen? ⟨mb, 4, none⟩ = false ∧ w.frozen? ⟨mb, 5, none⟩ = false ∧ w.frozen? ⟨mb, 7, none⟩ = false) :=
  ⟨⟨heap_cell h 0, heap_cell h 1, heap_cell h 2, heap_cell h 3, heap_cell h 4, heap_cell h 5, heap_cell h 6, heap_cell h 7⟩, heap_free h 1, heap_free h 2, heap_free h 3, heap_free h 4, heap_free h 5, heap_free h 7⟩
theorem MC.setAt (h : MC w mb vL vV vA at_ d sk bd wr) (x : Int) : MC (w.setCell ⟨mb, 1, none⟩ (.int .i64 x)) mb vL vV vA x d sk bd wr := heap_set h 1 _
theorem MC.setD (h : MC w mb vL vV vA at_ d sk bd wr) (x : Int) : MC (w.setCell ⟨mb, 2, none⟩ (.int .i64 x)) mb vL vV vA at_ x sk bd wr := heap_set h 2 _
theorem MC.setS (h : MC w mb vL vV vA at_ d sk bd wr) (x : Int) : MC (w.setCell ⟨mb, 3, none⟩ (.int .i64 x)) mb vL vV vA at_ d x bd wr := heap_set h 3 _
theorem MC.setB (h : MC w mb vL vV vA at_ d sk bd wr) (x : Int) : MC (w.setCell ⟨mb, 4, none⟩ (.int .i64 x)) mb vL vV vA at_ d sk x wr := heap_set h 4 _
theorem MC.setW (h : MC w mb vL vV vA at_ d sk bd wr) (x : Int) : MC (w.setCell ⟨mb, 5, none⟩ (.int .i64 x)) mb vL vV vA at_ d sk bd x := heap_set h 5 _
theorem MC.setA (h : MC w mb vL vV vA at_ d sk bd wr) (x : Value) : MC (w.setCell ⟨mb, 7, none⟩ x) mb vL vV x at_ d sk bd wr := heap_set h 7 _
theorem MC.kept {S : Nat → Prop} (h : MC w mb vL vV vA at_ d sk bd wr) (k : Kept S w w') (hS : ¬ S mb) : MC w' mb vL vV vA at_ d sk bd wr := k.heap h hS
end
/-- The machine's block and new ones have turned. -/
abbrev KM (mb : Nat) (H : Nat → Prop) (w w' : World) : Prop := Kept (fun i => i = mb ∨ H i) w w'
theorem KM.of {mb : Nat} {H : Nat → Prop} {w w' : World} (h : Kept (fun _ => False) w w') : KM mb H w w' := h.mono (fun _ _ h => h.elim)
theorem KM.refl (mb : Nat) (H : Nat → Prop) (w : World) : KM mb H w w := Kept.refl _ _
theorem KM.set {mb : Nat} {H : Nat → Prop} {w w' : World} (h : KM mb H w w') (i : Nat) (u : Value) : KM mb H w (w'.setCell ⟨mb, i, none⟩ u) := Kept.set h mb i (fun _ => .inl rfl) u
theorem KM.tr {mb : Nat} {H : Nat → Prop} {a b c : World} (h : KM mb H a b) (k : KM mb H b c) : KM mb H a c := h.trans k (fun _ _ h => h)
/-- What the machine reads: its tokens, and names' texts. -/
structure MEnv (w : World) (mb : Nat) (H : Nat → Prop) (L : List Tok) (vL : Value) (V : List (List UInt8 × List UInt8)) (vV : Value) : Prop where
  row : Rd w 2 vL L.length (L.flatMap tkC)
  rowB : ∀ k, blk vL k → ¬ H k ∧ k ≠ mb
  vars : Rd w 2 vV V.length (V.flatMap vrC)
  varB : ∀ k, blk vV k → ¬ H k ∧ k ≠ mb
  lt : ¬ H mb ∧ mb < w.heap.size ∧ ∀ i, w.heap.size ≤ i → H i
  nL : L.length ≤ 1000
  nT : ∀ t ∈ L, t.2.length ≤ 1000
  nV : V.length ≤ 1000
  nX : ∀ p ∈ V, p.1.length ≤ 1000 ∧ p.2.length ≤ 1000
theorem MEnv.kept {w w' : World} {mb : Nat} {H : Nat → Prop} {L : List Tok} {vL : Value} {V : List (List UInt8 × List UInt8)} {vV : Value} (h : MEnv w mb H L vL V vV) (k : KM mb H w w') : MEnv w' mb H L vL V vV :=
  ⟨Rd.kept k h.row (fun i hi hs => hs.elim (h.rowB i hi).2 (h.rowB i hi).1), h.rowB, Rd.kept k h.vars (fun i hi hs => hs.elim (h.varB i hi).2 (h.varB i hi).1), h.varB, ⟨h.lt.1, Nat.lt_of_lt_of_le h.lt.2.1 k.size, fun i hi => h.lt.2.2 i (Nat.le_trans k.size hi)⟩, h.nL, h.nT, h.nV, h.nX⟩
/-- A token's cells. -/
theorem MEnv.tok {w : World} {mb : Nat} {H : Nat → Prop} {L : List Tok} {vL : Value} {V : List (List UInt8 × List UInt8)} {vV : Value} (h : MEnv w mb H L vL V vV) : ∃ (ad : Option Addr) (cap : Nat), vL = .slice ad L.length cap ∧ L.length ≤ cap ∧
    ∀ k t, L[k]? = some t → ∃ g off, ad = some ⟨g, off, none⟩ ∧ w.cell? ⟨g, off + k * 2, none⟩ = some (.int .i64 (t.1 : Int)) ∧ w.cell? ⟨g, off + k * 2 + 1, none⟩ = some (.string (BA t.2)) := by
  obtain ⟨h0, ad, cap, rfl, h1, h2, h3⟩ := h.row
  refine ⟨ad, cap, rfl, h1, fun k t hk => ?_⟩
  obtain ⟨hkl, rfl⟩ := List.getElem?_eq_some_iff.1 hk
  obtain ⟨g, off, e, c0, cj⟩ := Rd.elem (f := tkC) ⟨h0, ad, cap, rfl, h1, h2, h3⟩ (fun _ _ => rfl) (by decide) k hkl
  exact ⟨g, off, e, c0, cj 1 (by decide)⟩
theorem MEnv.var {w : World} {mb : Nat} {H : Nat → Prop} {L : List Tok} {vL : Value} {V : List (List UInt8 × List UInt8)} {vV : Value} (h : MEnv w mb H L vL V vV) : ∃ (ad : Option Addr) (cap : Nat), vV = .slice ad V.length cap ∧ V.length ≤ cap ∧
    ∀ k t, V[k]? = some t → ∃ g off, ad = some ⟨g, off, none⟩ ∧ w.cell? ⟨g, off + k * 2, none⟩ = some (.string (BA t.1)) ∧ w.cell? ⟨g, off + k * 2 + 1, none⟩ = some (.string (BA t.2)) := by
  obtain ⟨h0, ad, cap, rfl, h1, h2, h3⟩ := h.vars
  refine ⟨ad, cap, rfl, h1, fun k t hk => ?_⟩
  obtain ⟨hkl, rfl⟩ := List.getElem?_eq_some_iff.1 hk
  obtain ⟨g, off, e, c0, cj⟩ := Rd.elem (f := vrC) ⟨h0, ad, cap, rfl, h1, h2, h3⟩ (fun _ _ => rfl) (by decide) k hkl
  exact ⟨g, off, e, c0, cj 1 (by decide)⟩
/-- The machine's block alone has turned. -/
abbrev KB (mb : Nat) (w w' : World) : Prop := Kept (fun i => i = mb) w w'
theorem KB.refl (mb : Nat) (w : World) : KB mb w w := Kept.refl _ _
theorem KB.set {mb : Nat} {w w' : World} (h : KB mb w w') (i : Nat) (u : Value) : KB mb w (w'.setCell ⟨mb, i, none⟩ u) := Kept.set h mb i (fun _ => rfl) u
theorem KB.tr {mb : Nat} {a b c : World} (h : KB mb a b) (k : KB mb b c) : KB mb a c := h.trans k (fun _ _ h => h)
theorem KB.km {mb : Nat} {H : Nat → Prop} {w w' : World} (h : KB mb w w') : KM mb H w w' := h.mono (fun _ _ h => .inl h)
/-- The first wrong stays. -/
def wrF (sk : Int) (wr e : Nat) : Nat := if sk = 0 ∧ wr = 0 then e else wr
set_option maxHeartbeats 4000000 in
/-- wrong: the first one stays. -/
theorem wrong_any (w : World) (mb : Nat) (H : Nat → Prop) (vL vV vA : Value) (at_ d sk bd : Int) (wr e : Nat) (h : MC w mb vL vV vA at_ d sk bd (wr : Int)) :
    Calls Tryz.prog 61 #[.pointer (some ⟨mb, 0, none⟩), .int .i64 (e : Int)] w fun x w' => x = .returned (.int .i64 0) ∧ MC w' mb vL vV vA at_ d sk bd (wrF sk wr e : Int) ∧ KB mb w w' := by
  obtain ⟨⟨c0, c1, c2, c3, c4, c5, c6, c7⟩, f1, f2, f3, f4, f5, f7⟩ := h.cells
  have HM := Lw.hid h
  by_cases h1 : sk = 0
  · by_cases h2 : wr = 0
    · subst h1; subst h2
      have HM2 := Lw.hid (h.setW (e : Int))
      clear h
      go_enter Tryz.func61, Tryz.ntmps61
      go_wp2_with fail
      go_ret
      rw [show wrF 0 0 e = e from if_pos ⟨rfl, rfl⟩]
      exact ⟨rfl, HM2.out, (KB.refl mb w).set 5 _⟩
    · have hb : ((wr : Int) == 0) = false := beq_eq_false_iff_ne.2 (by omega)
      subst h1
      rw [show wrF 0 wr e = wr from if_neg (fun h => h2 h.2)]
      clear h
      go_enter Tryz.func61, Tryz.ntmps61
      go_wp2_with fail
      go_ret
      exact ⟨rfl, HM.out, KB.refl mb w⟩
  · have hb : (sk == 0) = false := beq_eq_false_iff_ne.2 h1
    rw [show wrF sk wr e = wr from if_neg (fun h => h1 h.1)]
    clear h
    go_enter Tryz.func61, Tryz.ntmps61
    go_wp2_with fail
    go_ret
    exact ⟨rfl, HM.out, KB.refl mb w⟩
set_option maxHeartbeats 4000000 in
/-- bad: the first one stays; nothing more is read. -/
theorem bad_any (w : World) (mb : Nat) (H : Nat → Prop) (ad : Option Addr) (n cap : Nat) (vV vA : Value) (at_ d sk wr : Int) (bd e : Nat) (h : MC w mb (.slice ad n cap) vV vA at_ d sk (bd : Int) wr) :
    Calls Tryz.prog 16 #[.pointer (some ⟨mb, 0, none⟩), .int .i64 (e : Int)] w fun x w' => x = .returned (.int .i64 0) ∧ MC w' mb (.slice ad n cap) vV vA (n : Int) d sk (errN bd e : Int) wr ∧ KB mb w w' := by
  obtain ⟨⟨c0, c1, c2, c3, c4, c5, c6, c7⟩, f1, f2, f3, f4, f5, f7⟩ := h.cells
  by_cases h2 : bd = 0
  · subst h2
    obtain ⟨⟨d0, d1, d2, d3, d4, d5, d6, d7⟩, g1, g2, g3, g4, g5, g7⟩ := (h.setB (e : Int)).cells
    have HM2 := Lw.hid ((h.setB (e : Int)).setAt (n : Int))
    clear h
    go_enter Tryz.func16, Tryz.ntmps16
    go_wp2_with fail
    go_ret
    rw [show errN 0 e = e from rfl]
    exact ⟨rfl, HM2.out, ((KB.refl mb w).set 4 _).set 1 _⟩
  · have hb : ((bd : Int) == 0) = false := beq_eq_false_iff_ne.2 (by omega)
    have HM2 := Lw.hid (h.setAt (n : Int))
    rw [show errN bd e = bd from if_neg h2]
    clear h
    go_enter Tryz.func16, Tryz.ntmps16
    go_wp2_with fail
    go_ret
    exact ⟨rfl, HM2.out, (KB.refl mb w).set 1 _⟩
def dpA (d : Nat) (at_ : Int) (n : Nat) : Int := if d + 1 ≤ 16 then at_ else n
def dpB (d : Nat) : Int := if d + 1 ≤ 16 then 0 else 12
set_option maxHeartbeats 4000000 in
/-- deeper. -/
theorem deeper_any (w : World) (mb : Nat) (H : Nat → Prop) (ad : Option Addr) (n cap : Nat) (vV vA : Value) (at_ sk wr : Int) (d : Nat) (hd : d ≤ 16) (h : MC w mb (.slice ad n cap) vV vA at_ (d : Int) sk 0 wr) :
    Calls Tryz.prog 27 #[.pointer (some ⟨mb, 0, none⟩)] w fun x w' => x = .returned (.bool (decide (d + 1 ≤ 16))) ∧ KB mb w w' ∧ MC w' mb (.slice ad n cap) vV vA (dpA d at_ n) ((d : Int) + 1) sk (dpB d) wr := by
  obtain ⟨⟨c0, c1, c2, c3, c4, c5, c6, c7⟩, f1, f2, f3, f4, f5, f7⟩ := h.cells
  have h2 := h.setD ((d : Int) + 1)
  obtain ⟨⟨d0, d1, d2, d3, d4, d5, d6, d7⟩, g1, g2, g3, g4, g5, g7⟩ := h2.cells
  have HM2 := Lw.hid h2
  clear h h2
  by_cases hq : d + 1 ≤ 16
  · have hq2 : ¬ (16 < (d : Int) + 1) := by omega
    rw [decide_eq_true hq, show dpA d at_ n = at_ from if_pos hq, show dpB d = 0 from if_pos hq]
    go_enter Tryz.func27, Tryz.ntmps27
    go_wp2_with fail
    go_ret
    exact ⟨rfl, (KB.refl mb w).set 2 _, HM2.out⟩
  · have hq2 : 16 < (d : Int) + 1 := by omega
    have HB := Lw.hid (bad_any _ mb H ad n cap vV vA at_ ((d : Int) + 1) sk wr 0 12 HM2.out)
    rw [decide_eq_false hq, show dpA d at_ n = n from if_neg hq, show dpB d = 12 from if_neg hq]
    go_enter Tryz.func27, Tryz.ntmps27
    go_wp2_with fail
    refine HB.out.mono ?_
    rintro x w2 ⟨rfl, h2, k2⟩
    have H2 := Lw.hid h2; have K2 := Lw.hid (((KB.refl mb w).set 2 (.int .i64 ((d : Int) + 1))).tr k2)
    clear h2 k2
    go_wp2_with fail
    go_ret
    exact ⟨rfl, K2.out, H2.out⟩
/-- Is the token at a place this sign? -/
def isT (L : List Tok) (at_ : Nat) (g : List UInt8) : Bool := match L[at_]? with
  | some t => t.1 == 3 && t.2 == g
  | none => false
set_option maxHeartbeats 8000000 in
theorem is_any (w : World) (mb : Nat) (H : Nat → Prop) (L : List Tok) (vL : Value) (V : List (List UInt8 × List UInt8)) (vV vA : Value) (d sk bd wr : Int) (at_ : Nat) (g : List UInt8) (hE : MEnv w mb H L vL V vV) (h : MC w mb vL vV vA (at_ : Int) d sk bd wr) (hat : at_ ≤ L.length) :
    Calls Tryz.prog 26 #[.pointer (some ⟨mb, 0, none⟩), .string (BA g)] w fun x w' => x = .returned (.bool (isT L at_ g)) ∧ Kept (fun _ => False) w w' := by
  obtain ⟨⟨c0, c1, c2, c3, c4, c5, c6, c7⟩, f1, f2, f3, f4, f5, f7⟩ := h.cells
  obtain ⟨ad, cap, rfl, hcap, htok⟩ := hE.tok
  have hnL := hE.nL
  obtain ⟨n, hn⟩ : ∃ n, L.length = n := ⟨_, rfl⟩
  have HN := Lw.hid hn
  rw [hn] at c0 hcap hat hnL
  clear h hE hn f1 f2 f3 f4 f5 f7
  by_cases hlt : at_ < n
  · obtain ⟨⟨k, t⟩, ht⟩ : ∃ t, L[at_]? = some t := ⟨_, List.getElem?_eq_getElem (by rw [HN.out]; exact hlt)⟩
    obtain ⟨g0, off, rfl, t0, t1⟩ := htok at_ _ ht
    have HR : Hid (isT L at_ g = (k == 3 && t == g)) := Lw.hid (by unfold isT; rw [ht])
    rw [HR.out]
    clear htok ht
    simp only at t0 t1
    have hz : decide ((at_ : Int) < (n : Int)) = true := decide_eq_true (by omega)
    by_cases hk : k = 3
    · subst hk
      have hbe := BA_beq t g
      have hb3 : (((3 : Nat) : Int) == 3) = true := rfl
      go_enter Tryz.func26, Tryz.ntmps26
      go_wp2_with fail
      go_quiet (fail)
      go_wp2_with fail
      go_ret
      exact ⟨rfl, kept_drewN' _ _⟩
    · have hb3 : ((k : Int) == 3) = false := beq_eq_false_iff_ne.2 (by omega)
      have hk2 : (k == 3) = false := beq_eq_false_iff_ne.2 hk
      rw [hk2, Bool.false_and]
      go_enter Tryz.func26, Tryz.ntmps26
      go_wp2_with fail
      go_quiet (fail)
      go_wp2_with fail
      go_ret
      exact ⟨rfl, kept_drewN' _ _⟩
  · have hz : decide ((at_ : Int) < (n : Int)) = false := decide_eq_false (by omega)
    have HR : Hid (isT L at_ g = false) := Lw.hid (by unfold isT; rw [List.getElem?_eq_none (by rw [HN.out]; omega)])
    rw [HR.out]
    go_enter Tryz.func26, Tryz.ntmps26
    go_wp2_with fail
    go_quiet (fail)
    go_wp2_with fail
    go_ret
    exact ⟨rfl, kept_drewN' _ _⟩
/-- The machine, with the names that it has asked. -/
structure MS (w : World) (mb : Nat) (H : Nat → Prop) (vL vV : Value) (at_ d sk bd : Int) (wr : Nat) (lq : List (List UInt8)) : Prop where
  st : ∃ ad cap, MC w mb vL vV (.slice ad lq.length cap) at_ d sk bd (wr : Int) ∧ w.ownsRow 0 9 1 (.slice ad lq.length cap) lq.length (lq.map sV2) ∧ ∀ k, blk (.slice ad lq.length cap) k → H k
theorem MS.keep {w w' : World} {mb : Nat} {H : Nat → Prop} {vL vV : Value} {at_ d sk bd : Int} {wr : Nat} {lq : List (List UInt8)} (h : MS w mb H vL vV at_ d sk bd wr lq) (k : Kept (fun _ => False) w w') : MS w' mb H vL vV at_ d sk bd wr lq := by
  obtain ⟨ad, cap, h1, h2, h3⟩ := h.st
  exact ⟨ad, cap, h1.kept k (fun h => h), own_kept k h2 (fun _ _ h => h), h3⟩
theorem MS.turn {w w' : World} {mb : Nat} {H : Nat → Prop} {vL vV : Value} {ad : Option Addr} {cap : Nat} {at_ d sk bd : Int} {wr : Nat} {lq : List (List UInt8)} (h1 : MC w' mb vL vV (.slice ad lq.length cap) at_ d sk bd (wr : Int)) (h2 : w.ownsRow 0 9 1 (.slice ad lq.length cap) lq.length (lq.map sV2)) (h3 : ∀ k, blk (.slice ad lq.length cap) k → H k) (k : KB mb w w') (hm : ¬ H mb) : MS w' mb H vL vV at_ d sk bd wr lq :=
  ⟨ad, cap, h1, own_kept k h2 (fun g hg hs => hm (hs ▸ h3 g hg)), h3⟩
theorem own_lt {w : World} {base e size n : Nat} {v : Value} {xs : List Value} (h : w.ownsRow base e size v n xs) : ∀ k, blk v k → k < w.heap.size := by
  obtain ⟨h0, h1⟩ := h
  intro k hk
  rcases h1 with ⟨rfl, rfl⟩ | ⟨g, cap, cur, rfl, hb, hg, hn, hm, hs, ht⟩
  · exact (blk_none hk).elim
  · rw [blk_some hk]
    exact heap_lt hg
end Go.Proofs.YtoedopgjonhemaaGreatDoor
