/- ArithSame: what the walk asks: errors, the three names, the four texts. -/
import Derived.Test.YtoedopgjonhemaaGreatDoorSameR
import Derived.Test.YtoedopgjonhemaaGreatDoorArith12
import Derived.Test.YtoedopgjonhemaaGreatDoorBMap
import Derived.Test.YtoedopgjonhemaaGreatDoorOneMap
import Derived.Test.YtoedopgjonhemaaGreatDoorReplC
namespace Go.Proofs.YtoedopgjonhemaaGreatDoor
open Go Go.RowKit Go.Lw
set_option linter.unusedVariables false
set_option linter.unusedSimpArgs false
def envX (l : List (List UInt8 × List UInt8)) (s : List UInt8) : List UInt8 := ((l.find? fun p => p.1 == s).map Prod.snd).getD []
abbrev vTx (l : List (List UInt8 × List UInt8)) : List (List UInt8 × Value) := l.map fun p => (p.1, textV p.2)
theorem envX_at : ∀ (l : List (List UInt8 × List UInt8)) (s : List UInt8), textV (envX l s) = (assocS (vTx l) s).getD (textV [])
  | [], s => rfl
  | p :: l, s => by
    have ih := envX_at l s
    unfold envX at ih ⊢
    simp only [List.map_cons, assocS, List.find?_cons]
    by_cases h : p.1 = s
    · have h' : (p.1 == s) = true := by simp [h]
      rw [if_pos h, h']; rfl
    · have h' : (p.1 == s) = false := by simp [h]
      rw [if_neg h, h']; exact ih
theorem errT_same (s : List UInt8) : errT s = errT' s := by unfold errT errT' errR; cases readT s <;> rfl
theorem readT_ne {s : List UInt8} {e : Nat} (h : readT s = .error e) : e ≠ 0 := by
  unfold readT at h
  cases hR : rdA .all 0 s with
  | error e' =>
    rw [hR] at h
    cases h
    exact readA_ne _ _ _ _ hR
  | ok y =>
    rw [hR] at h
    simp only at h
    split at h
    · cases h
    · cases h; decide
theorem errT_ok {s : List UInt8} (h : errT s = 0) : ∃ x, readT s = .ok x := by
  cases hR : readT s with
  | ok x => exact ⟨x, rfl⟩
  | error e =>
    unfold errT errR at h
    rw [hR] at h
    exact absurd h (readT_ne hR)
theorem errT_er {s : List UInt8} (h : errT s ≠ 0) (env : List UInt8 → List UInt8) : evalF env s = ⟨0, errT s, []⟩ := by
  cases hR : readT s with
  | ok x =>
    unfold errT errR at h
    rw [hR] at h
    exact absurd rfl h
  | error e =>
    unfold evalF errT errR
    rw [hR]
/-- The names' texts. -/
def varX : List (List UInt8 × List UInt8) := [([122], []), ([121], [45, 51]), ([120], [53])]
theorem varX_len (s : List UInt8) : (envX varX s).length ≤ 1000000 := by
  unfold envX varX
  simp only [List.find?_cons, List.find?_nil]
  split
  · decide
  · split
    · decide
    · split <;> decide
/-- The four texts: the operation that inserts it, the text, what it is worth. -/
def insS (j0 j1 j2 j3 : Nat) (s : List UInt8) : List (Nat × List UInt8 × Value) := [(j0, andS s, .int .i64 0), (j1, orS s, .int .i64 1), (j2, thenS s, .int .i64 7), (j3, elseS s, .int .i64 8)]
theorem insS_nodup (j0 j1 j2 j3 : Nat) (s : List UInt8) : ((insS j0 j1 j2 j3 s).map (fun p => p.2.1)).Nodup := by
  have e1 : andS s ≠ orS s := by unfold andS orS; simp
  have e2 : andS s ≠ thenS s := by unfold andS thenS; simp
  have e3 : andS s ≠ elseS s := by unfold andS elseS; simp
  have e4 : orS s ≠ thenS s := by unfold orS thenS; simp
  have e5 : orS s ≠ elseS s := by unfold orS elseS; simp
  have e6 : thenS s ≠ elseS s := by unfold thenS elseS; simp
  simp [insS, e1, e2, e3, e4, e5, e6]
theorem insS_nd1 (s : List UInt8) : ((insS 4 8 12 16 s).map (fun p => p.1)).Nodup := by
  show ([4, 8, 12, 16] : List Nat).Nodup
  decide
def twS (s : List UInt8) : List (List UInt8 × Value) := (insS 0 1 2 3 s).map Prod.snd
theorem twS_mem {s : List UInt8} {x : Ex} (hs : readT s = .ok x) (env : List UInt8 → List UInt8) (hl : s.length ≤ 60) {ks : List UInt8} {v : Value} (h : assocS (twS s) ks = some v) : ∃ want, v = .int .i64 want ∧ (errT ks = 12 ∨ evalF env ks = ⟨want, 0, []⟩) ∧ ks.length ≤ 100 := by
  have hm := assocS_mem h
  simp only [twS, insS, List.map_cons, List.map_nil, List.mem_cons, List.not_mem_nil, or_false, Prod.mk.injEq] at hm
  rcases hm with ⟨rfl, rfl⟩ | ⟨rfl, rfl⟩ | ⟨rfl, rfl⟩ | ⟨rfl, rfl⟩
  · exact ⟨_, rfl, by rw [errT_same]; exact law_and env hs, by simp only [andS, brS, List.length_append, List.length_cons, List.length_nil]; omega⟩
  · exact ⟨_, rfl, by rw [errT_same]; exact law_or env hs, by simp only [orS, brS, List.length_append, List.length_cons, List.length_nil]; omega⟩
  · exact ⟨_, rfl, by rw [errT_same]; exact law_then env hs, by simp only [thenS, brS, List.length_append, List.length_cons, List.length_nil]; omega⟩
  · exact ⟨_, rfl, by rw [errT_same]; exact law_else env hs, by simp only [elseS, List.length_append, List.length_cons, List.length_nil]; omega⟩
theorem selS_all (s : List UInt8) : selD (fun k => decide (k < 17)) (insS 4 8 12 16 s) = twS s := rfl
theorem insS_ne {s : List UInt8} {j : Nat} (h : j ∉ [4, 8, 12, 16]) : ∀ p ∈ insS 4 8 12 16 s, p.1 ≠ j := fun p hp e => h (by
  have : (insS 4 8 12 16 s).map (fun p => p.1) = [4, 8, 12, 16] := rfl
  rw [← this, ← e]; exact List.mem_map_of_mem hp)
theorem pairs_eq : ((List.range 8).map fun i => if i % 2 = 0 then Value.string (BA [torC (3 - i / 2)]) else .string (BA (repB (torC (3 - i / 2))))) = [.string (BA [40]), .string (BA [32, 40, 32]), .string (BA [41]), .string (BA [32, 41, 32]), .string (BA [43]), .string (BA [43, 32]), .string (BA [42]), .string (BA [32, 42, 32])] := rfl
theorem ba_front (a s : List UInt8) : BA a ++ BA s = BA (a ++ s) := BA_append a s
theorem ba_three (a s b : List UInt8) : BA (a ++ s) ++ BA b = BA (a ++ s ++ b) := BA_append _ _
theorem lawZ_any (B : Nat) (w : World) (bs : ByteArray) (s : List UInt8) (hb : bs = BA s) (mo : Option Nat) (dv : Value) (env : List UInt8 → List UInt8) (hD : DEnv B dv w) (hs9 : s.length ≤ 1000000) (henv : ∀ s, (env s).length ≤ 1000000) (hL : LkAt 23 (.map mo) (fun _ => True) (fun s => textV (env s)) w) :
    Calls Tryz.prog 5 #[.string bs, .map mo] w (LawPost w (evalF env s)) := by
  subst hb; exact lawE_any B w s mo dv env hD hs9 henv hL
theorem rightZ_any (B : Nat) (w : World) (bs : ByteArray) (s : List UInt8) (hb : bs = BA s) (hE : AEnv B w) (hs9 : s.length ≤ 1000000) : Calls Tryz.prog 7 #[.string bs] w fun x w' => x = .returned (.int .i64 (errT s : Int)) ∧ Kept (fun _ => False) w w' := by
  subst hb; exact right_any B w s hE hs9
theorem andS_len (s : List UInt8) : (brS s).length = s.length + 2 ∧ (bwS s).length = s.length + 4 := by
  constructor
  · simp [brS]
  · simp [bwS]
end Go.Proofs.YtoedopgjonhemaaGreatDoor
