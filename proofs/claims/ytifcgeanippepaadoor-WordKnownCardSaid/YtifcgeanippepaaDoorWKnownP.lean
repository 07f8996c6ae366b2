/- WordKnown, plain: the closed facts. -/
import Derived.Test.YtifcgeanippepaaDoorWordMay
import Derived.Test.YtifcgeanippepaaDoorWordWt
import Derived.Test.YtifcgeanippepaaDoorWordB
import Derived.Test.YtifcgeanippepaaDoorWordA
import Derived.Test.YtifcgeanippepaaDoorMapLit
namespace Go.Proofs.YtifcgeanippepaaDoor
open Go Go.RowKit Go.Lw
set_option maxRecDepth 100000
set_option linter.unusedVariables false
def wknown : List (List UInt8 × List UInt8) := [([97, 39, 42, 39], [97, 39, 42, 39]), ([42, 46, 91, 97, 45, 99, 93], [42, 46, 91, 97, 45, 99, 93]), ([36, 123, 120, 58, 45, 36, 123, 121, 58, 45, 34, 122, 34, 125, 125], [36, 123, 120, 58, 45, 36, 123, 121, 58, 45, 39, 122, 39, 125, 125]), ([34, 36, 123, 120, 58, 45, 97, 32, 98, 125, 34], [34, 36, 123, 120, 58, 45, 39, 97, 32, 98, 39, 125, 34]), ([36, 123, 120, 58, 45, 97, 32, 98, 125], [36, 123, 120, 58, 45, 97, 32, 98, 125]), ([36, 123, 120, 58, 45, 125], [36, 123, 120, 58, 45, 125]), ([34, 92, 97, 92, 36, 34], [39, 92, 97, 36, 39]), ([34, 97, 39, 98, 36, 34], [34, 97, 39, 98, 92, 36, 34]), ([105, 116, 92, 39, 115], [105, 116, 34, 39, 34, 115]), ([92, 97, 92, 32, 98], [39, 97, 32, 39, 98]), ([34, 36, 40, 40, 49, 41, 41, 34], [34, 36, 40, 40, 49, 41, 41, 34]), ([36, 40, 40, 49, 43, 40, 50, 41, 41, 41], [36, 40, 40, 49, 43, 40, 50, 41, 41, 41]), ([36, 63, 120], [36, 63, 120]), ([36, 49], [36, 49]), ([97, 36], [97, 36]), ([36], [36]), ([36, 120, 36, 121], [36, 123, 120, 125, 36, 123, 121, 125]), ([34, 36, 120, 34], [34, 36, 123, 120, 125, 34]), ([36, 120], [36, 123, 120, 125]), ([34, 34], [39, 39]), ([39, 39], [39, 39]), ([97], [97])]
def wbadL : List (List UInt8) := [[], [32], [97, 32, 98], [97, 59], [59], [35, 97], [39, 97], [36, 123], [36, 123, 125], [36, 123, 49, 125], [36, 123, 120, 58, 125], [36, 123, 120, 58, 43, 121, 125], [36, 123, 120], [36, 123, 63, 125], [36, 40, 97, 41], [96, 97, 96], [97, 40], [34], [92]]
def wkTest (p : List UInt8 × List UInt8) : Bool := match parseW p.1 with
  | .ok l => (textW l == p.2) && mayF l && decide (p.1.length ≤ 100) && decide (p.2.length ≤ 100)
  | .error _ => false
theorem wk_all : wknown.all wkTest = true := by decide +kernel
theorem wk_open {ks c : List UInt8} (h : (ks, c) ∈ wknown) : ks.length ≤ 100 ∧ c.length ≤ 100 ∧ ∃ l, parseW ks = .ok l ∧ textW l = c ∧ mayF l = true := by
  have h1 := List.all_eq_true.1 wk_all _ h
  unfold wkTest at h1
  dsimp only at h1
  cases hp : parseW ks with
  | error e => rw [hp] at h1; cases h1
  | ok l =>
    rw [hp] at h1
    simp only [Bool.and_eq_true, decide_eq_true_eq, beq_iff_eq] at h1
    exact ⟨h1.1.2, h1.2, l, rfl, h1.1.1.1, h1.1.1.2⟩
def wbTest (s : List UInt8) : Bool := match parseW s with
  | .error e => decide (e = 5) && decide (s.length ≤ 100)
  | .ok _ => false
theorem wb_all : wbadL.all wbTest = true := by decide +kernel
theorem wb_open {s : List UInt8} (h : s ∈ wbadL) : s.length ≤ 100 ∧ parseW s = .error 5 := by
  have h1 := List.all_eq_true.1 wb_all _ h
  unfold wbTest at h1
  cases hp : parseW s with
  | ok l => rw [hp] at h1; cases h1
  | error e =>
    rw [hp] at h1
    simp only [Bool.and_eq_true, decide_eq_true_eq] at h1
    exact ⟨h1.2, by rw [h1.1]⟩
theorem wb_len : wbadL.length = 19 := rfl
def bcs : Array Value := (wbadL.map fun s => Value.string (BA s)).toArray
theorem bcs_index (k : Nat) (hk : k < 19) (s : List UInt8) (hs : wbadL[k]? = some s) (w : World) : (Instr.index 71 (.agg bcs) (.int .i64 (k : Int))).run Tryd.prog w = .ok (.string (BA s)) w := by
  have e : k = 0 ∨ k = 1 ∨ k = 2 ∨ k = 3 ∨ k = 4 ∨ k = 5 ∨ k = 6 ∨ k = 7 ∨ k = 8 ∨ k = 9 ∨ k = 10 ∨ k = 11 ∨ k = 12 ∨ k = 13 ∨ k = 14 ∨ k = 15 ∨ k = 16 ∨ k = 17 ∨ k = 18 := by omega
  rcases e with rfl | rfl | rfl | rfl | rfl | rfl | rfl | rfl | rfl | rfl | rfl | rfl | rfl | rfl | rfl | rfl | rfl | rfl | rfl <;> (cases hs; rfl)
abbrev vOfW (l : List (List UInt8 × List UInt8)) : List (List UInt8 × Value) := l.map fun p => (p.1, .string (BA p.2))
theorem vOfW_mem {l : List (List UInt8 × List UInt8)} {ks : List UInt8} {v : Value} (h : assocS (vOfW l) ks = some v) : ∃ c, (ks, c) ∈ l ∧ v = .string (BA c) := by
  have := assocS_mem h
  obtain ⟨p, hp, e⟩ := List.mem_map.1 this
  cases e
  exact ⟨p.2, hp, rfl⟩
theorem heap_alloc_lt {w : World} {k : Nat} {o o' : Obj} (h : w.heap[k]? = some o) : (w.alloc o').heap[k]? = some o := ((Kept.refl (fun _ => False) w).alloc o').heap h (fun h => h)
def exD : List UInt8 := [97, 36, 123, 120, 58, 45, 98, 36, 123, 121, 58, 45, 36, 63, 125, 125, 99]
def exDp : List Prt := [.mk 1 [97] [] false, .mk 3 [120] [.mk 1 [98] [] false, .mk 3 [121] [.mk 4 [] [] false] false] false, .mk 1 [99] [] false]
theorem exD_ok : parseW exD = .ok exDp := by kernel_rfl
/-- The depths, as digits. -/
def dstr (l : List (Nat × Prt)) : List UInt8 := l.map fun x => UInt8.ofNat (48 + x.1)
theorem exD_str : dstr (allL exDp) = [48, 48, 49, 49, 50, 48] := by kernel_rfl
theorem exD_len : (allL exDp).length = 6 := by kernel_rfl
theorem exD_depth : ∀ x ∈ allL exDp, x.1 ≤ 2 := by
  have : (allL exDp).map Prod.fst = [0, 0, 1, 1, 2, 0] := by kernel_rfl
  intro x hx
  have h : x.1 ∈ (allL exDp).map Prod.fst := List.mem_map_of_mem hx
  rw [this] at h
  simp only [List.mem_cons, List.not_mem_nil, or_false] at h
  omega
theorem exD_sz : szL exDp ≤ 1000000000 := by
  have : szL exDp = 13 := by kernel_rfl
  omega
theorem dstr_snoc (l : List (Nat × Prt)) (x : Nat × Prt) : dstr (l ++ [x]) = dstr l ++ [UInt8.ofNat (48 + x.1)] := by simp [dstr]
theorem digit_str (d : Nat) (h : d ≤ 2) : (BA [48, 49, 50, 51]).extract d (d + 1) = BA [UInt8.ofNat (48 + d)] := by
  have : d = 0 ∨ d = 1 ∨ d = 2 := by omega
  rcases this with rfl | rfl | rfl <;> rfl
theorem as1 : assignF [120, 61] = some ([120], []) := by kernel_rfl
theorem as2 : assignF [49, 61, 97] = none := by kernel_rfl
theorem as3 : assignF [120, 61, 97, 32, 98] = none := by kernel_rfl
theorem as4 : assignF [61, 97] = none := by kernel_rfl
theorem pr_long : parseW (List.replicate 2049 97) = .error 3 := by
  unfold parseW lexT
  rw [List.length_replicate, if_pos (by decide)]
theorem may0 : mayF [] = false := by kernel_rfl
theorem may1 : mayF [.mk 9 [36, 120] [] false] = false := by kernel_rfl
theorem may2 : mayF [.mk 1 [97, 32, 98] [] false] = false := by kernel_rfl
theorem repeatL_one (c : UInt8) : ∀ n : Nat, Lib.repeatL [c] n = List.replicate n c
  | 0 => rfl
  | n + 1 => by
    have := repeatL_one c n
    rw [List.replicate_succ, ← this]
    rfl
theorem rep_any (w : World) (c : UInt8) (n : Nat) (hn : n ≤ 3000) : Calls Tryd.prog 25 #[.string (BA [c]), .int .i64 (n : Int)] w fun e w' => e = .returned (.string (BA (List.replicate n c))) ∧ Kept (fun _ => False) w w' := by
  refine (Tryd.strings_Repeat (BA [c]) n w (by omega) (by rw [BA_size]; simp; omega)).mono ?_
  rintro e w' ⟨rfl, hb⟩
  rw [BA_list, repeatL_one]
  exact ⟨rfl, (Kept.of_below hb).mono (fun k hk h => by omega)⟩
end Go.Proofs.YtifcgeanippepaaDoor
