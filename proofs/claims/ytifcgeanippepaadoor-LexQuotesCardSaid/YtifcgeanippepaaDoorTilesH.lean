/- LexTiles: Clone of tokens, Trim of blanks, Split of what holds no newline. -/
import Derived.Test.YtifcgeanippepaaDoorTilesP
import Derived.Test.YtifcgeanippepaaDoorShelf
import Derived.Shelf.Strings.SlTrimAscii
import Derived.Lib.CountLaws
import Derived.Lib.SplitLaws
namespace Go.Proofs.YtifcgeanippepaaDoor
open Go Go.RowKit Go.Lw
set_option maxRecDepth 100000
set_option linter.unusedVariables false
theorem tks_one (l : List Tk) : ∀ u ∈ l.flatMap Tk.cells, u.oneCell' = true := by
  intro u hu
  obtain ⟨t, _, ht⟩ := List.mem_flatMap.1 hu
  exact tk_one t u ht
theorem tks_len (l : List Tk) : (l.flatMap Tk.cells).length = l.length * 3 := by
  induction l with
  | nil => rfl
  | cons t l ih => rw [List.flatMap_cons, List.length_append, ih, List.length_cons]; show 3 + _ = _; omega
set_option maxHeartbeats 400000 in
theorem clone_tk (w : World) (src : Value) (l : List Tk) (hs : Rd w 3 src l.length (l.flatMap Tk.cells)) (hlen : l.length ≤ 100000) :
    Calls Tryd.prog 39 #[src] w fun e w' => ∃ v, e = .returned v ∧ w'.ownsRow 0 28 3 v l.length (l.flatMap Tk.cells) ∧ Kept (fun _ => False) w w' ∧ (∀ k, blk v k → w.heap.size ≤ k) := by
  have HS := Lw.hid hs
  obtain ⟨_, ad, cap, rfl, h1, h2, hc⟩ := hs
  cases ad with
  | none =>
    obtain rfl : l = [] := by
      cases l with
      | nil => rfl
      | cons c l => obtain ⟨g, off, e, _⟩ := hc 0 _ rfl; cases e
    have heq := fun w => Lib.run_eql_slice_nil (P := Tryd.prog) w 22 28 none 0 cap 0 0 Tryd.underlying22
    go_enter Tryd.func39, Tryd.ntmps39
    go_wp2_with fail
    go_ret
    exact ⟨_, rfl, World.ownsRow_nil w 0 _ 3, Kept.refl _ _, fun k hk => by cases hk⟩
  | some ad =>
    clear hc
    have heq := fun w => Lib.run_eql_slice_nil (P := Tryd.prog) w 22 28 (some ad) l.length cap 0 0 Tryd.underlying22
    have ho : (w.alloc (.cells #[] 28)).ownsRow 0 28 3 (.slice (some ⟨w.heap.size, 0, none⟩) 0 0) 0 [] := World.ownsRow_lit w #[] 0 (Nat.zero_le _) (by unfold maxLen; omega) rfl
    go_enter Tryd.func39, Tryd.ntmps39
    go_wp2_with (at_builtin; refine wpList_app rfl _ _ _ rfl ETk _ 0 _ rfl ho _ l.length _ rfl (Rd.alloc HS.out _) (tks_one l) (by unfold maxLen; omega) (by omega) ?_; intro ad' cap' w1 ho' hg hf)
    go_ret
    rw [Nat.zero_add] at ho' hf
    refine ⟨.slice ad' l.length cap', rfl, ho', ((Kept.refl _ w).alloc _).grown hg (fun k hk hl => ?_), fun k hk => ?_⟩
    · have e : k = w.heap.size := blk_some hk
      omega
    · rcases hf k hk with h | h
      · have e : k = w.heap.size := blk_some h
        omega
      · simp at h; omega
/-- Trim of blanks, of what stands between tokens. -/
def BareT (b : List UInt8) : Prop := b = [] ∨ ∃ r, b = 35 :: r
theorem trim_bare {g : List UInt8} (h : gapOK g) : BareT (Lib.trimS g [32, 9]) := by
  unfold Lib.trimS Lib.trimLeftS Lib.trimRightS
  obtain ⟨_, h⟩ := h
  have key : ∀ g : List UInt8, ∃ z, g = (g.reverse.dropWhile ([32, 9].contains ·)).reverse ++ z ∧ (∀ c ∈ z, blankB c = true) := fun g => by
    refine ⟨(g.reverse.takeWhile ([32, 9].contains ·)).reverse, ?_, fun c hc => ?_⟩
    · rw [← List.reverse_append, List.takeWhile_append_dropWhile, List.reverse_reverse]
    · exact List.all_eq_true.1 (List.all_takeWhile (p := ([32, 9].contains ·)) (l := g.reverse)) c (List.mem_reverse.1 hc)
  obtain ⟨z, hz, hb⟩ := key g
  obtain ⟨q, hq⟩ : ∃ q, (g.reverse.dropWhile ([32, 9].contains ·)).reverse = q := ⟨_, rfl⟩
  rw [hq] at hz ⊢
  show BareT (q.dropWhile blankB)
  cases e : q.dropWhile blankB with
  | nil => exact .inl rfl
  | cons x y =>
    right
    have hx := drop_head e
    have h2 : ∀ q : List UInt8, q.dropWhile blankB = x :: y → (q ++ z).dropWhile blankB = x :: (y ++ z) := fun q => by
      induction q with
      | nil => intro h; cases h
      | cons c q ih =>
        intro h
        rw [List.cons_append, List.dropWhile_cons]
        rw [List.dropWhile_cons] at h
        split at h
        · rename_i e1; rw [if_pos e1]; exact ih h
        · rename_i e1; rw [if_neg e1]; cases h; rfl
    rw [hz, h2 q e] at h
    rcases h with h | ⟨r, h⟩
    · cases h
    · cases h; exact ⟨y, rfl⟩
theorem trim_any (w : World) (g : List UInt8) (h : gapOK g) (hl : g.length ≤ 1000000) :
    Calls Tryd.prog 41 #[.string (BA g), .string ⟨#[32, 9]⟩] w fun e w' => ∃ b, e = .returned (.string (BA b)) ∧ BareT b ∧ Kept (fun _ => False) w w' := by
  refine (Go.Proofs.Any.strings_Trim_laid Tryd.lays160 (by kernel_rfl) (BA g) (BA [32, 9]) w (by rw [BA_size]; omega) (by rw [BA_size]; decide) (Go.Proofs.ascii_of_all (by decide))).mono ?_
  rintro e w' ⟨rfl, hb⟩
  exact ⟨_, rfl, trim_bare h, (Kept.of_below hb).mono (fun k hk h => by omega)⟩
theorem index_none {g : List UInt8} (h : ∀ c ∈ g, c ≠ 10) : Lib.indexB (BA g) (BA [10]) = -1 := by
  show Lib.index g [10] = -1
  rw [Lib.index_one]
  induction g with
  | nil => rfl
  | cons c g ih =>
    unfold Lib.indexByte
    have hc : (c == 10) = false := beq_eq_false_iff_ne.2 (h c List.mem_cons_self)
    rw [hc, ih (fun x hx => h x (List.mem_cons_of_mem _ hx))]
    rfl
theorem split_any (w : World) (g : List UInt8) (h : gapOK g) (hE : LEnv w) (hl : g.length ≤ 1000000) :
    Calls Tryd.prog 40 #[.string (BA g), .string ⟨#[10]⟩] w fun e w' => e = .returned (.slice (some ⟨w.heap.size, 0, none⟩) 1 1) ∧ w' = w.alloc (.cells #[.string (BA g)] 9) := by
  obtain ⟨m, hm⟩ := hE.max
  have hi := index_none h.1
  have hc := Lib.countB_miss _ _ hi
  refine (Tryd.strings_Split (BA g) (BA [10]) m w (by rw [BA_size]; omega) hm (by rw [BA_size]; decide)).mono ?_
  rintro e w' ⟨rfl, rfl⟩
  rw [hc, Lib.splitB_zero]
  exact ⟨rfl, rfl⟩
end Go.Proofs.YtifcgeanippepaaDoor
