/- Words in memory: a slice of parts, and the words in them. -/
import Derived.Test.YtifcgeanippepaaDoorWordP
namespace Go.Proofs.YtifcgeanippepaaDoor
open Go Go.RowKit Go.Lw
set_option linter.unusedVariables false
set_option linter.unusedSimpArgs false
/-- A part's cells; its Or lies at a slice value. -/
def PC (x : Prt × Value) : List Value := [.int .i64 x.1.kind, .string (BA x.1.text), x.2, .bool x.1.quoted]
theorem PC_len (x : Prt × Value) : (PC x).length = 4 := rfl
/-- A slice of parts, in blocks of F. -/
inductive WAt (w : World) (F : Nat → Prop) : Value → List Prt → Prop
  | mk (v : Value) (ps : List (Prt × Value)) : Rd w 4 v ps.length (ps.flatMap PC) → (∀ b, blk v b → F b ∧ b < w.heap.size) → (∀ x ∈ ps, WAt w F x.2 x.1.orw) → WAt w F v (ps.map Prod.fst)
theorem WAt.open {w : World} {F : Nat → Prop} {v : Value} {l : List Prt} (h : WAt w F v l) :
    ∃ ps : List (Prt × Value), ps.map Prod.fst = l ∧ Rd w 4 v ps.length (ps.flatMap PC) ∧ (∀ b, blk v b → F b ∧ b < w.heap.size) ∧ ∀ x ∈ ps, WAt w F x.2 x.1.orw := by
  cases h with
  | mk _ ps h1 h2 h3 => exact ⟨ps, rfl, h1, h2, h3⟩
theorem WAt.mono {w : World} {F G : Nat → Prop} {v : Value} {l : List Prt} (h : WAt w F v l) (hF : ∀ b, b < w.heap.size → F b → G b) : WAt w G v l := by
  induction h with
  | mk v ps h1 h2 h3 ih => exact .mk v ps h1 (fun b hb => ⟨hF b (h2 b hb).2 (h2 b hb).1, (h2 b hb).2⟩) ih
theorem WAt.kept {w w' : World} {S F : Nat → Prop} {v : Value} {l : List Prt} (h : WAt w F v l) (k : Kept S w w') (hS : ∀ b, F b → ¬ S b) : WAt w' F v l := by
  induction h with
  | mk v ps h1 h2 h3 ih => exact .mk v ps (h1.kept k (fun b hb => hS b (h2 b hb).1)) (fun b hb => ⟨(h2 b hb).1, Nat.lt_of_lt_of_le (h2 b hb).2 k.size⟩) ih
theorem WAt.nil (w : World) (F : Nat → Prop) : WAt w F (.slice none 0 0) [] := .mk _ [] (Rd.nil w 4) (fun b hb => by cases hb) (fun x hx => by cases hx)
/-- A slice value. -/
theorem WAt.slice {w : World} {F : Nat → Prop} {v : Value} {l : List Prt} (h : WAt w F v l) : ∃ a n c, v = .slice a n c := by
  obtain ⟨ps, _, hr, _⟩ := h.open
  obtain ⟨_, a, c, e, _⟩ := hr
  exact ⟨a, _, c, e⟩
/-- A row of parts that is one's own; the words in it lie in blocks of F, none of which is the row's. -/
structure WOwn (w : World) (F : Nat → Prop) (lo : Nat) (v : Value) (ps : List (Prt × Value)) : Prop where
  own : w.ownsRow 0 46 4 v ps.length (ps.flatMap PC)
  blk : ∀ b, Go.Lw.blk v b → lo ≤ b ∧ ¬ F b
  lt : ∀ b, F b → b < w.heap.size
  ors : ∀ x ∈ ps, WAt w F x.2 x.1.orw
theorem WOwn.kept {w w' : World} {S F : Nat → Prop} {lo : Nat} {v : Value} {ps : List (Prt × Value)} (h : WOwn w F lo v ps) (k : Kept S w w') (hF : ∀ b, F b → ¬ S b) (hv : ∀ b, Go.Lw.blk v b → ¬ S b) : WOwn w' F lo v ps :=
  ⟨own_kept k h.own hv, h.blk, fun b hb => Nat.lt_of_lt_of_le (h.lt b hb) k.size, fun x hx => (h.ors x hx).kept k hF⟩
/-- More blocks, none of which is the row's. -/
theorem WOwn.mono {w : World} {F G : Nat → Prop} {lo : Nat} {v : Value} {ps : List (Prt × Value)} (h : WOwn w F lo v ps) (hF : ∀ b, F b → G b) (hv : ∀ b, Go.Lw.blk v b → ¬ G b) (hG : ∀ b, G b → b < w.heap.size) : WOwn w G lo v ps :=
  ⟨h.own, fun b hb => ⟨(h.blk b hb).1, hv b hb⟩, hG, fun x hx => (h.ors x hx).mono (fun b _ hb => hF b hb)⟩
theorem WOwn.nil (w : World) (lo : Nat) : WOwn w (fun _ => False) lo (.slice none 0 0) [] :=
  ⟨World.ownsRow_nil _ _ _ _, fun b hb => (by cases hb), fun b hb => hb.elim, fun x hx => (by cases hx)⟩
/-- A row of one's own reads as a word. -/
theorem WOwn.at {w : World} {F : Nat → Prop} {lo : Nat} {v : Value} {ps : List (Prt × Value)} (h : WOwn w F lo v ps) : WAt w (fun b => F b ∨ Go.Lw.blk v b) v (ps.map Prod.fst) :=
  .mk v ps (Rd.own h.own) (fun b hb => ⟨.inr hb, own_lt h.own b hb⟩) (fun x hx => (h.ors x hx).mono (fun b _ hb => .inl hb))
theorem pc_flat (ps : List (Prt × Value)) : (ps.flatMap PC).length = ps.length * 4 := flatMap_length PC 4 ps (fun _ _ => rfl)
theorem pc_last (qs : List (Prt × Value)) (x : Prt × Value) (j : Nat) (hj : j < 4) : ((qs ++ [x]).flatMap PC)[qs.length * 4 + j]? = (PC x)[j]? := by
  have h := flatMap_get PC 4 (qs ++ [x]) (fun _ _ => rfl) qs.length (by simp) j hj
  rw [h]
  simp
theorem pc_set (qs : List (Prt × Value)) (x y : Prt × Value) (u : Value) (h : (PC x).set 1 u = PC y) : ((qs ++ [x]).flatMap PC).set (qs.length * 4 + 1) u = (qs ++ [y]).flatMap PC := by
  rw [List.flatMap_append, List.flatMap_append, List.set_append_right _ _ (by rw [pc_flat]; omega), pc_flat]
  rw [show qs.length * 4 + 1 - qs.length * 4 = 1 by omega]
  simp only [List.flatMap_cons, List.flatMap_nil, List.append_nil]
  rw [h]
theorem putF_snoc (l : List Prt) (x p : Prt) : putF (l ++ [x]) p = if p.kind = 1 ∧ x.kind = 1 ∧ x.quoted = p.quoted then l ++ [.mk x.kind (x.text ++ p.text) x.orw x.quoted] else l ++ [x] ++ [p] := by
  unfold putF
  rw [List.getLast?_append]
  simp
end Go.Proofs.YtifcgeanippepaaDoor
