/- ArithKnown, plain: the closed facts. -/
import Derived.Test.YtoedopgjonhemaaDoorArith12
namespace Go.Proofs.YtoedopgjonhemaaDoor
open Go Go.RowKit Go.Lw
set_option maxRecDepth 100000
set_option linter.unusedVariables false
def varsK : List (List UInt8 × List UInt8) := [([104, 101, 120], [48, 120, 49]), ([108, 111, 119], [45, 57, 50, 50, 51, 51, 55, 50, 48, 51, 54, 56, 53, 52, 55, 55, 53, 56, 48, 56]), ([98, 105, 103], [57, 50, 50, 51, 51, 55, 50, 48, 51, 54, 56, 53, 52, 55, 55, 53, 56, 48, 56]), ([115, 105, 103, 110], [45]), ([98, 97, 100], [52, 97]), ([112, 108, 117, 115], [43, 52]), ([122], []), ([121], [45, 51]), ([120], [53])]
def envOf (l : List (List UInt8 × List UInt8)) (s : List UInt8) : List UInt8 := ((l.find? fun p => p.1 == s).map Prod.snd).getD []
abbrev vOfT (l : List (List UInt8 × List UInt8)) : List (List UInt8 × Value) := l.map fun p => (p.1, textV p.2)
theorem envOf_at : ∀ (l : List (List UInt8 × List UInt8)) (s : List UInt8), textV (envOf l s) = (assocS (vOfT l) s).getD (textV [])
  | [], s => rfl
  | p :: l, s => by
    have ih := envOf_at l s
    unfold envOf at ih ⊢
    simp only [List.map_cons, assocS, List.find?_cons]
    by_cases h : p.1 = s
    · have h' : (p.1 == s) = true := by simp [h]
      rw [if_pos h, h']; rfl
    · have h' : (p.1 == s) = false := by simp [h]
      rw [if_neg h, h']; exact ih
theorem envOf_len (l : List (List UInt8 × List UInt8)) (n : Nat) (h : l.all (fun p => decide (p.2.length ≤ n)) = true) (s : List UInt8) : (envOf l s).length ≤ n := by
  unfold envOf
  cases hf : l.find? (fun p => p.1 == s) with
  | none => exact Nat.zero_le _
  | some p => exact of_decide_eq_true (List.all_eq_true.1 h p (List.mem_of_find?_eq_some hf))
def envK : List UInt8 → List UInt8 := envOf varsK
theorem envK_len (s : List UInt8) : (envK s).length ≤ 1000000 := envOf_len varsK 1000000 (by decide +kernel) s
def intsK : List (List UInt8 × Int) := [([49, 60, 60, 48], 1), ([49, 45, 32, 45, 49], 2), ([50, 42, 45, 51], -6), ([51, 62, 50, 62, 49], 0), ([57, 50, 50, 51, 51, 55, 50, 48, 51, 54, 56, 53, 52, 55, 55, 53, 56, 48, 55, 43, 49], -9223372036854775808), ([49, 63, 50, 58, 49, 47, 48], 2), ([49, 124, 124, 49, 47, 48], 1), ([48, 38, 38, 49, 47, 48], 0), ([49, 38, 38, 50, 124, 124, 48], 1), ([45, 56, 62, 62, 49], -4), ([55, 47, 45, 50], -3), ([53, 45, 51, 45, 49], 1), ([49, 124, 50, 94, 51, 38, 50], 1), ([49, 60, 50, 61, 61, 49], 1), ([50, 43, 51, 60, 60, 49], 10), ([49, 63, 48, 63, 50, 58, 51, 58, 52], 3), ([48, 63, 50, 58, 48, 63, 52, 58, 53], 5), ([49, 63, 50, 58, 51, 63, 52, 58, 53], 2), ([126, 45, 49], 0), ([33, 33, 53], 1), ([45, 45, 49], 1), ([45, 32, 45, 49], 1), ([108, 111, 119], -9223372036854775808), ([112, 108, 117, 115], 4), ([122, 43, 49], 1), ([120, 95], 0), ([120], 5), ([32, 48, 48, 55, 9], 7), ([49], 1)]
def errsK : List (List UInt8 × Int) := [([57, 57, 57, 57, 57, 57, 57, 57, 57, 57, 57, 57, 57, 57, 57, 57, 57, 57, 57, 43], 24), ([49, 47, 48, 41], 5), ([49, 47, 48, 43, 98, 97, 100], 25), ([98, 97, 100, 47, 48], 5), ([104, 101, 120], 5), ([98, 105, 103], 24), ([115, 105, 103, 110], 5), ([98, 97, 100], 5), ([108, 111, 119, 37, 45, 49], 25), ([108, 111, 119, 47, 45, 49], 25), ([49, 37, 122], 25), ([49, 47, 48], 25), ([49, 62, 62, 45, 49], 24), ([49, 60, 60, 54, 52], 24), ([57, 50, 50, 51, 51, 55, 50, 48, 51, 54, 56, 53, 52, 55, 55, 53, 56, 48, 56], 24), ([49, 59, 50], 5), ([120, 61, 49], 5), ([49, 61, 50], 5), ([49, 97], 5), ([49, 58, 50], 5), ([49, 63, 50], 5), ([40, 41], 5), ([49, 41], 5), ([40, 49], 5), ([42, 49], 5), ([49, 43], 5), ([49, 32, 50], 5), ([32], 5), ([], 5)]
def ikTest (p : List UInt8 × Int) : Bool := decide ((evalF envK p.1).v = p.2) && decide ((evalF envK p.1).e = 0) && decide (p.1.length ≤ 100)
theorem ik_all : intsK.all ikTest = true := by decide +kernel
theorem ik_open {ks : List UInt8} {c : Int} (h : (ks, c) ∈ intsK) : ks.length ≤ 100 ∧ (evalF envK ks).v = c ∧ (evalF envK ks).e = 0 := by
  have h1 := List.all_eq_true.1 ik_all _ h
  simp only [ikTest, Bool.and_eq_true, decide_eq_true_eq] at h1
  exact ⟨h1.2, h1.1.1, h1.1.2⟩
def ekTest (p : List UInt8 × Int) : Bool := decide ((evalF envK p.1).v = 0) && decide (((evalF envK p.1).e : Int) = p.2) && decide (p.1.length ≤ 100)
theorem ek_all : errsK.all ekTest = true := by decide +kernel
theorem ek_open {ks : List UInt8} {c : Int} (h : (ks, c) ∈ errsK) : ks.length ≤ 100 ∧ (evalF envK ks).v = 0 ∧ ((evalF envK ks).e : Int) = c := by
  have h1 := List.all_eq_true.1 ek_all _ h
  simp only [ekTest, Bool.and_eq_true, decide_eq_true_eq] at h1
  exact ⟨h1.2, h1.1.1, h1.1.2⟩
abbrev vOfI (l : List (List UInt8 × Int)) : List (List UInt8 × Value) := l.map fun p => (p.1, .int .i64 p.2)
theorem vOfI_mem {l : List (List UInt8 × Int)} {ks : List UInt8} {v : Value} (h : assocS (vOfI l) ks = some v) : ∃ c, (ks, c) ∈ l ∧ v = .int .i64 c := by
  have := assocS_mem h
  obtain ⟨p, hp, e⟩ := List.mem_map.1 this
  cases e
  exact ⟨p.2, hp, rfl⟩
theorem rep_any (w : World) (bs : ByteArray) (l : List UInt8) (hb : bs = BA l) (n : Nat) (hn : n ≤ 3000) (hl : l.length ≤ 100) : Calls Tryd.prog 12 #[.string bs, .int .i64 (n : Int)] w fun e w' => e = .returned (.string (BA (Lib.repeatL l n))) ∧ Kept (fun _ => False) w w' := by
  subst hb
  refine (Tryd.strings_Repeat (BA l) n w (by omega) (by rw [BA_size]; exact Nat.le_trans (Nat.mul_le_mul hl hn) (by decide))).mono ?_
  rintro e w' ⟨rfl, hb⟩
  rw [BA_list]
  exact ⟨rfl, (Kept.of_below hb).mono (fun k hk h => by omega)⟩
/-- The law's Eval, at a string that is put together. -/
theorem lawS_any (B : Nat) (w : World) (bs : ByteArray) (s : List UInt8) (hb : bs = BA s) (mo : Option Nat) (dv : Value) (env : List UInt8 → List UInt8) (hD : DEnv B dv w) (hs9 : s.length ≤ 1000000) (henv : ∀ s, (env s).length ≤ 1000000) (hL : LkAt 37 (.map mo) (fun _ => True) (fun s => textV (env s)) w) :
    Calls Tryd.prog 8 #[.string bs, .map mo] w (LawPost w (evalF env s)) := by
  subst hb; exact lawE_any B w s mo dv env hD hs9 henv hL
theorem rightS_any (B : Nat) (w : World) (bs : ByteArray) (s : List UInt8) (hb : bs = BA s) (hE : AEnv B w) (hs9 : s.length ≤ 1000000) : Calls Tryd.prog 13 #[.string bs] w fun x w' => x = .returned (.int .i64 (errT s : Int)) ∧ Kept (fun _ => False) w w' := by
  subst hb; exact right_any B w s hE hs9
def dpL : List UInt8 := Lib.repeatL [40] 16 ++ [49] ++ Lib.repeatL [41] 16
theorem dp1 : (evalF envN dpL).e = 0 := by decide +kernel
theorem dp2 : (evalF envN ([40] ++ dpL ++ [41])).e = 12 := by decide +kernel
theorem dp3 : (evalF envN ([40] ++ dpL)).e = 12 := by decide +kernel
theorem dp4 : (evalF envN (Lib.repeatL [45] 16 ++ [49])).e = 0 := by decide +kernel
theorem dp5 : (evalF envN (Lib.repeatL [45] 17 ++ [49])).e = 12 := by decide +kernel
theorem dp6 : (evalF envN (Lib.repeatL [48, 63, 49, 58] 16 ++ [49])).e = 0 := by decide +kernel
theorem dp7 : (evalF envN (Lib.repeatL [48, 63, 49, 58] 17 ++ [49])).e = 12 := by decide +kernel
theorem rt1 : errT [49, 47, 48] = 0 := by decide +kernel
theorem rt2 : errT [49, 47] = 5 := by decide +kernel
end Go.Proofs.YtoedopgjonhemaaDoor
