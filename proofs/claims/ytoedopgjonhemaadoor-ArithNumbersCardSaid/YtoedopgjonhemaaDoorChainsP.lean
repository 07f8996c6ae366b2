/- ArithChains, plain: how a row of sums and products is read; what it is worth. -/
import Derived.Test.YtoedopgjonhemaaDoorNumP
namespace Go.Proofs.YtoedopgjonhemaaDoor
open Go Go.RowKit Go.Lw
set_option linter.unusedVariables false
set_option linter.unusedSimpArgs false
abbrev Itm := Nat × Int
def sgC (s : Nat) : UInt8 := if s = 0 then 43 else if s = 1 then 45 else 42
def tlC : List Itm → List UInt8
  | [] => []
  | p :: r => sgC p.1 :: 32 :: (Lib.itoa p.2 ++ tlC r)
def okI (l : List Itm) : Prop := ∀ p ∈ l, p.1 < 3 ∧ -32768 ≤ p.2 ∧ p.2 ≤ 32767
def mulF : Ex → List Itm → Ex × List Itm
  | x, [] => (x, [])
  | x, p :: r => if p.1 = 2 then mulF (.bin [42] x (numEx p.2)) r else (x, p :: r)
def sumF : Nat → Ex → List Itm → Ex
  | 0, x, _ => x
  | n + 1, x, [] => x
  | n + 1, x, p :: r => sumF n (.bin [sgC p.1] x (mulF (numEx p.2) r).1) (mulF (numEx p.2) r).2
theorem tlC_cons (p : Itm) (r : List Itm) : tlC (p :: r) = sgC p.1 :: 32 :: (Lib.itoa p.2 ++ tlC r) := rfl
theorem mulF_cons (x : Ex) (p : Itm) (r : List Itm) : mulF x (p :: r) = if p.1 = 2 then mulF (.bin [42] x (numEx p.2)) r else (x, p :: r) := rfl
theorem sumF_cons (n : Nat) (x : Ex) (p : Itm) (r : List Itm) : sumF (n + 1) x (p :: r) = sumF n (.bin [sgC p.1] x (mulF (numEx p.2) r).1) (mulF (numEx p.2) r).2 := rfl
theorem sgC_cases {s : Nat} (h : s < 3) : (s = 0 ∧ sgC s = 43) ∨ (s = 1 ∧ sgC s = 45) ∨ (s = 2 ∧ sgC s = 42) := by
  rcases (by omega : s = 0 ∨ s = 1 ∨ s = 2) with rfl | rfl | rfl
  · exact .inl ⟨rfl, rfl⟩
  · exact .inr (.inl ⟨rfl, rfl⟩)
  · exact .inr (.inr ⟨rfl, rfl⟩)
theorem okI_tl {p : Itm} {l : List Itm} (h : okI (p :: l)) : okI l := fun q hq => h q (List.mem_cons_of_mem _ hq)
theorem mulF_ok : ∀ (l : List Itm) (x : Ex), okI l → okI (mulF x l).2
  | [], x, h => h
  | p :: r, x, h => by
    unfold mulF
    split
    · exact mulF_ok r _ (okI_tl h)
    · exact h
theorem mulF_len : ∀ (l : List Itm) (x : Ex), (mulF x l).2.length ≤ l.length
  | [], x => Nat.le_refl _
  | p :: r, x => by
    unfold mulF
    split
    · exact Nat.le_trans (mulF_len r _) (Nat.le_succ _)
    · exact Nat.le_refl _
theorem mulF_head : ∀ (l : List Itm) (x : Ex) (p : Itm) (r : List Itm), (mulF x l).2 = p :: r → p.1 ≠ 2
  | [], x, p, r, h => by cases h
  | q :: l, x, p, r, h => by
    unfold mulF at h
    split at h
    · exact mulF_head l _ p r h
    · rename_i h2
      cases h; exact h2
theorem tl_head (l : List Itm) (h : okI l) : ∀ c, (tlC l).head? = some c → digitB c = false := by
  intro c hc
  cases l with
  | nil => cases hc
  | cons p r =>
    have hp := (h p (List.mem_cons_self ..)).1
    cases hc
    rcases sgC_cases hp with ⟨_, e⟩ | ⟨_, e⟩ | ⟨_, e⟩ <;> rw [e] <;> decide
theorem trim_sg {s : Nat} (h : s < 3) (r : List UInt8) : trimA (sgC s :: r) = sgC s :: r := by
  rcases sgC_cases h with ⟨_, e⟩ | ⟨_, e⟩ | ⟨_, e⟩ <;> rw [e] <;> rfl
theorem sign_sg {s : Nat} (h : s < 3) (r : List UInt8) : signF (sgC s :: r) = [sgC s] := by
  rcases sgC_cases h with ⟨_, e⟩ | ⟨_, e⟩ | ⟨_, e⟩ <;> rw [e] <;> (unfold signF signsL; simp [List.find?])
theorem sg_row9 {s : Nat} (h : s < 3) : [sgC s] ∈ rowsL.getD 9 [] ↔ s = 2 := by
  rcases sgC_cases h with ⟨rfl, e⟩ | ⟨rfl, e⟩ | ⟨rfl, e⟩ <;> rw [e] <;> decide
theorem sg_row8 {s : Nat} (h : s < 3) : [sgC s] ∈ rowsL.getD 8 [] ↔ s ≠ 2 := by
  rcases sgC_cases h with ⟨rfl, e⟩ | ⟨rfl, e⟩ | ⟨rfl, e⟩ <;> rw [e] <;> decide
theorem loop_nil (k : Nat) (hk : k < 10) (x : Ex) (d : Nat) : rdA (.loop k x) d [] = .ok (x, []) := by
  rw [rdA_loop, if_neg]
  · rfl
  · have key : (List.range 10).all (fun k => decide (signF (trimA []) ∉ rowsL.getD k [])) = true := by decide +kernel
    exact of_decide_eq_true (List.all_eq_true.1 key k (List.mem_range.2 hk))
theorem one_item (d : Nat) (hd : d ≤ 15) (m : Int) (r : List Itm) (h0 : -32768 ≤ m) (h1 : m ≤ 32767) (hr : okI r) : rdA .one d (Lib.itoa m ++ tlC r) = .ok (numEx m, tlC r) :=
  one_itoa d m _ hd (by omega) (by omega) (tl_head r hr)
theorem loop9 (d : Nat) (hd : d ≤ 15) : ∀ (l : List Itm) (x : Ex), okI l → rdA (.loop 9 x) d (tlC l) = .ok ((mulF x l).1, tlC (mulF x l).2)
  | [], x, _ => loop_nil 9 (by decide) x d
  | p :: r, x, h => by
    obtain ⟨h1, h2, h3⟩ := h p (List.mem_cons_self ..)
    rw [rdA_loop]
    rw [tlC_cons, mulF_cons, trim_sg h1, sign_sg h1]
    by_cases hs : p.1 = 2
    · rw [if_pos ((sg_row9 h1).2 hs), if_pos hs]
      have e : List.drop [sgC p.1].length (sgC p.1 :: 32 :: (Lib.itoa p.2 ++ tlC r)) = 32 :: (Lib.itoa p.2 ++ tlC r) := rfl
      rw [e, rdA_row10 10 d _ (Nat.le_refl _), one_blank, one_item d hd p.2 r h2 h3 (okI_tl h)]
      have e42 : sgC p.1 = 42 := by rw [hs]; rfl
      rw [e42]
      exact loop9 d hd r _ (okI_tl h)
    · rw [if_neg (fun hh => hs ((sg_row9 h1).1 hh)), if_neg hs]
      all_goals rfl
theorem row9 (d : Nat) (hd : d ≤ 15) (s : List UInt8) (m : Int) (r : List Itm) (hr : okI r) (h : rdA .one d s = .ok (numEx m, tlC r)) : rdA (.row 9) d s = .ok ((mulF (numEx m) r).1, tlC (mulF (numEx m) r).2) := by
  rw [rdA_row 9 d s (by decide), rdA_row10 10 d s (Nat.le_refl _), h]
  exact loop9 d hd r _ hr
theorem loop8 (d : Nat) (hd : d ≤ 15) : ∀ (n : Nat) (l : List Itm) (x : Ex), l.length ≤ n → okI l → (∀ p r, l = p :: r → p.1 ≠ 2) → rdA (.loop 8 x) d (tlC l) = .ok (sumF n x l, [])
  | 0, l, x, hn, _, _ => by
    obtain rfl : l = [] := List.eq_nil_of_length_eq_zero (by omega)
    exact loop_nil 8 (by decide) x d
  | n + 1, [], x, _, _, _ => loop_nil 8 (by decide) x d
  | n + 1, p :: r, x, hn, h, hh => by
    obtain ⟨h1, h2, h3⟩ := h p (List.mem_cons_self ..)
    rw [rdA_loop]
    rw [tlC_cons, sumF_cons, trim_sg h1, sign_sg h1, if_pos ((sg_row8 h1).2 (hh p r rfl))]
    have e : List.drop [sgC p.1].length (sgC p.1 :: 32 :: (Lib.itoa p.2 ++ tlC r)) = 32 :: (Lib.itoa p.2 ++ tlC r) := rfl
    rw [e, row9 d hd _ p.2 r (okI_tl h) (by rw [one_blank]; exact one_item d hd p.2 r h2 h3 (okI_tl h))]
    exact loop8 d hd n _ _ (by have := mulF_len r (numEx p.2); simp only [List.length_cons] at hn; omega) (mulF_ok r _ (okI_tl h)) (mulF_head r _)
/-- A whole row. -/
def chEx (m : Int) (l : List Itm) : Ex := sumF l.length (mulF (numEx m) l).1 (mulF (numEx m) l).2
theorem row_all (d : Nat) (s : List UInt8) (x : Ex) (h : rdA (.row 8) d s = .ok (x, [])) : ∀ j k, j + k = 8 → rdA (.row k) d s = .ok (x, [])
  | 0, k, hk => by
    obtain rfl : k = 8 := by omega
    exact h
  | j + 1, k, hk => by
    rw [rdA_row k d s (by omega), row_all d s x h j (k + 1) (by omega)]
    exact loop_nil k (by omega) x d
theorem chain_read (m : Int) (l : List Itm) (h0 : -32768 ≤ m) (h1 : m ≤ 32767) (hl : okI l) : readT (Lib.itoa m ++ tlC l) = .ok (chEx m l) := by
  have h8 : rdA (.row 8) 0 (Lib.itoa m ++ tlC l) = .ok (chEx m l, []) := by
    rw [rdA_row 8 0 _ (by decide), row9 0 (by decide) _ m l hl (one_item 0 (by decide) m l h0 h1 hl)]
    exact loop8 0 (by decide) _ _ _ (mulF_len l _) (mulF_ok l _ hl) (mulF_head l _)
  unfold readT
  rw [rdA_all, row_all 0 _ _ h8 8 0 rfl]
  have e : signF ([] : List UInt8) = [] := by decide +kernel
  have e2 : trimA ([] : List UInt8) = [] := rfl
  simp [e, e2]
/-! What it is worth. -/
abbrev M64 : Int := 18446744073709551616
theorem W64_mod (a : Int) : W64 a % M64 = a % M64 := by
  show IntKind.i64.wrap a % M64 = _
  rw [IntWalk.i64_left]; unfold wrap64 M64; omega
theorem W64_eq {a b : Int} (h : a % M64 = b % M64) : W64 a = W64 b := by
  show IntKind.i64.wrap a = IntKind.i64.wrap b
  rw [IntWalk.i64_left, IntWalk.i64_left]; unfold wrap64 M64 at *; omega
theorem W64_idem (a : Int) : W64 (W64 a) = W64 a := W64_eq (W64_mod a)
theorem W64_in {a : Int} (h0 : -9223372036854775808 ≤ a) (h1 : a ≤ 9223372036854775807) : W64 a = a := by
  show IntKind.i64.wrap a = a
  rw [IntWalk.i64_left]; unfold wrap64; omega
theorem cAdd {a b c d : Int} (h : a % M64 = b % M64) (k : c % M64 = d % M64) : (a + c) % M64 = (b + d) % M64 := by unfold M64 at *; omega
theorem cSub {a b c d : Int} (h : a % M64 = b % M64) (k : c % M64 = d % M64) : (a - c) % M64 = (b - d) % M64 := by unfold M64 at *; omega
theorem cMul {a b c d : Int} (h : a % M64 = b % M64) (k : c % M64 = d % M64) : (a * c) % M64 = (b * d) % M64 := by rw [Int.mul_emod, h, k, ← Int.mul_emod]
/-- A value without error, that asks nothing. -/
structure PlX (env : List UInt8 → List UInt8) (x : Ex) (v : Int) : Prop where
  e : (ofF env x).e = 0
  l : (ofF env x).l = []
  w : W64 (ofF env x).v = (ofF env x).v
  v : (ofF env x).v % M64 = v % M64
theorem pl_num (env : List UInt8 → List UInt8) (m : Int) (h0 : -32768 ≤ m) (h1 : m ≤ 32767) : PlX env (numEx m) m := by
  have h := of_numEx env m (by omega) (by omega)
  exact ⟨by rw [h], by rw [h], by rw [h]; exact W64_in (a := m) (by omega) (by omega), by rw [h]⟩
theorem pl_bin {env : List UInt8 → List UInt8} {x y : Ex} {a b : Int} {s : Nat} (hx : PlX env x a) (hy : PlX env y b) (hs : s < 3) : PlX env (.bin [sgC s] x y) (if s = 0 then a + b else if s = 1 then a - b else a * b) := by
  have hne : [sgC s] ≠ [38, 38] ∧ [sgC s] ≠ [124, 124] := ⟨by simp, by simp⟩
  have hb : binV [sgC s] (ofF env x) (ofF env y) = ⟨(binF [sgC s] (ofF env x).v (ofF env y).v).1, (binF [sgC s] (ofF env x).v (ofF env y).v).2, (ofF env x).l ++ (ofF env y).l⟩ := by
    unfold binV
    rw [if_neg (by simp [hx.e]), if_neg hne.1, if_neg hne.2, if_neg (by simp [hy.e])]
  have ho : ofF env (.bin [sgC s] x y) = _ := (ofF_bin env _ x y).trans hb
  rcases sgC_cases hs with ⟨rfl, e⟩ | ⟨rfl, e⟩ | ⟨rfl, e⟩
  · rw [e] at ho ⊢
    rw [binF_12] at ho
    refine ⟨by rw [ho], by rw [ho]; simp [hx.l, hy.l], by rw [ho]; exact W64_idem _, ?_⟩
    rw [ho]; exact (W64_mod _).trans (cAdd hx.v hy.v)
  · rw [e] at ho ⊢
    rw [binF_13] at ho
    refine ⟨by rw [ho], by rw [ho]; simp [hx.l, hy.l], by rw [ho]; exact W64_idem _, ?_⟩
    rw [ho]; exact (W64_mod _).trans (cSub hx.v hy.v)
  · rw [e] at ho ⊢
    rw [binF_14] at ho
    refine ⟨by rw [ho], by rw [ho]; simp [hx.l, hy.l], by rw [ho]; exact W64_idem _, ?_⟩
    rw [ho]; exact (W64_mod _).trans (cMul hx.v hy.v)
def prF : List Itm → Int
  | [] => 1
  | p :: r => if p.1 = 2 then p.2 * prF r else 1
def pvF : List Itm → Int → Int → Int
  | [], A, Q => A + Q
  | p :: r, A, Q => if p.1 = 2 then pvF r A (Q * p.2) else if p.1 = 0 then pvF r (A + Q) p.2 else pvF r (A + Q) (-p.2)
theorem prF_cons (p : Itm) (r : List Itm) : prF (p :: r) = if p.1 = 2 then p.2 * prF r else 1 := rfl
theorem pvF_cons (p : Itm) (r : List Itm) (A Q : Int) : pvF (p :: r) A Q = if p.1 = 2 then pvF r A (Q * p.2) else if p.1 = 0 then pvF r (A + Q) p.2 else pvF r (A + Q) (-p.2) := rfl
theorem pl_mul (env : List UInt8 → List UInt8) : ∀ (l : List Itm) (x : Ex) (a : Int), okI l → PlX env x a → PlX env (mulF x l).1 (a * prF l)
  | [], x, a, _, h => by rw [show prF [] = 1 from rfl, Int.mul_one]; exact h
  | p :: r, x, a, hl, h => by
    obtain ⟨h1, h2, h3⟩ := hl p (List.mem_cons_self ..)
    rw [mulF_cons, prF_cons]
    split
    · rename_i hs
      have hb := pl_bin (s := p.1) h (pl_num env p.2 h2 h3) h1
      rw [hs] at hb
      have := pl_mul env r _ _ (okI_tl hl) hb
      rw [if_neg (by decide), if_neg (by decide), Int.mul_assoc] at this
      exact this
    · rw [Int.mul_one]; exact h
theorem pv_mul : ∀ (l : List Itm) (x : Ex) (A Q : Int), pvF l A Q = pvF (mulF x l).2 A (Q * prF l)
  | [], x, A, Q => by show A + Q = A + Q * 1; rw [Int.mul_one]
  | p :: r, x, A, Q => by
    rw [mulF_cons, prF_cons]
    split
    · rename_i hs
      rw [pvF_cons, if_pos hs, pv_mul r (.bin [42] x (numEx p.2)) A (Q * p.2), Int.mul_assoc]
    · rw [Int.mul_one]
theorem pl_sum (env : List UInt8 → List UInt8) : ∀ (n : Nat) (l : List Itm) (x : Ex) (A Q : Int), l.length ≤ n → okI l → (∀ p r, l = p :: r → p.1 ≠ 2) → PlX env x (A + Q) → PlX env (sumF n x l) (pvF l A Q)
  | 0, l, x, A, Q, hn, _, _, h => by
    obtain rfl : l = [] := List.eq_nil_of_length_eq_zero (by omega)
    exact h
  | n + 1, [], x, A, Q, _, _, _, h => h
  | n + 1, p :: r, x, A, Q, hn, hl, hh, h => by
    obtain ⟨h1, h2, h3⟩ := hl p (List.mem_cons_self ..)
    have hp := pl_mul env r _ _ (okI_tl hl) (pl_num env p.2 h2 h3)
    have hb := pl_bin (s := p.1) h hp h1
    have hlen : (mulF (numEx p.2) r).2.length ≤ n := by have := mulF_len r (numEx p.2); simp only [List.length_cons] at hn; omega
    have hs2 := hh p r rfl
    rw [sumF_cons, pvF_cons, if_neg hs2]
    by_cases h0 : p.1 = 0
    · rw [if_pos h0, pv_mul r (numEx p.2)]
      refine pl_sum env n _ _ _ _ hlen (mulF_ok r _ (okI_tl hl)) (mulF_head r _) ?_
      rw [if_pos h0] at hb
      exact hb
    · have h10 : p.1 = 1 := by omega
      rw [if_neg h0, pv_mul r (numEx p.2)]
      refine pl_sum env n _ _ _ _ hlen (mulF_ok r _ (okI_tl hl)) (mulF_head r _) ?_
      rw [if_neg h0, if_pos h10] at hb
      rw [Int.neg_mul, ← Int.sub_eq_add_neg]
      exact hb
theorem pl_chain (env : List UInt8 → List UInt8) (m : Int) (l : List Itm) (h0 : -32768 ≤ m) (h1 : m ≤ 32767) (hl : okI l) : PlX env (chEx m l) (pvF l 0 m) := by
  unfold chEx
  rw [pv_mul l (numEx m)]
  refine pl_sum env _ _ _ _ _ (mulF_len l _) (mulF_ok l _ hl) (mulF_head l _) ?_
  rw [Int.zero_add]
  exact pl_mul env l _ _ hl (pl_num env m h0 h1)
/-- The law's sum and product. -/
def stepL (z : Int × Int) (p : Itm) : Int × Int := if p.1 = 0 then (W64 (z.1 + z.2), p.2) else if p.1 = 1 then (W64 (z.1 + z.2), -p.2) else (z.1, W64 (z.2 * p.2))
theorem pv_congr : ∀ (l : List Itm) {A B Q R : Int}, A % M64 = B % M64 → Q % M64 = R % M64 → pvF l A Q % M64 = pvF l B R % M64
  | [], A, B, Q, R, h, k => cAdd h k
  | p :: r, A, B, Q, R, h, k => by
    rw [pvF_cons, pvF_cons]
    split
    · exact pv_congr r h (cMul k rfl)
    · split
      · exact pv_congr r (cAdd h k) rfl
      · exact pv_congr r (cAdd h k) rfl
theorem law_sum : ∀ (l : List Itm) (z : Int × Int), okI l → ((l.foldl stepL z).1 + (l.foldl stepL z).2) % M64 = pvF l z.1 z.2 % M64
  | [], z, _ => rfl
  | p :: r, z, hl => by
    obtain ⟨h1, h2, h3⟩ := hl p (List.mem_cons_self ..)
    rw [List.foldl_cons, law_sum r _ (okI_tl hl)]
    rw [pvF_cons]
    unfold stepL
    rcases (by omega : p.1 = 0 ∨ p.1 = 1 ∨ p.1 = 2) with h | h | h
    · rw [if_pos h, if_neg (by omega), if_pos h]
      exact pv_congr r (W64_mod _) rfl
    · rw [if_neg (by omega), if_pos h, if_neg (by omega), if_neg (by omega)]
      exact pv_congr r (W64_mod _) rfl
    · rw [if_neg (by omega), if_neg (by omega), if_pos h]
      exact pv_congr r rfl (W64_mod _)
/-- THE LAW, plain. -/
theorem chain_law (env : List UInt8 → List UInt8) (m : Int) (l : List Itm) (h0 : -32768 ≤ m) (h1 : m ≤ 32767) (hl : okI l) :
    evalF env (Lib.itoa m ++ tlC l) = ⟨W64 ((l.foldl stepL (0, m)).1 + (l.foldl stepL (0, m)).2), 0, []⟩ := by
  rw [evalF_ok (chain_read m l h0 h1 hl)]
  have h := pl_chain env m l h0 h1 hl
  have hs := law_sum l (0, m) hl
  unfold evR
  rw [if_neg (by simp [h.e])]
  congr 1
  · rw [← h.w]
    exact W64_eq (h.v.trans hs.symm)
  · exact h.l
end Go.Proofs.YtoedopgjonhemaaDoor
