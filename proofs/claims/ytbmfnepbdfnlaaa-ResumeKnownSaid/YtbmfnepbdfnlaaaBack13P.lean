/- Chapter 13, plain: there and back. -/
import Derived.Test.YtbmfnepbdfnlaaaMade13
import Derived.Test.YtbmfnepbdfnlaaaRBytes
namespace Go.Proofs.Ytbmfnepbdfnlaaa
open Go Go.RowKit Go.Lw
theorem beVal_be' (k n : Nat) : beVal (be k n) = n % 256 ^ k := by
  induction k generalizing n with
  | zero => simp [be, beVal, Nat.mod_one]
  | succ k ih =>
    show beVal (be k (n / 256) ++ [lo n]) = _
    rw [beVal_snoc, ih, lo_toNat, Nat.pow_succ', Nat.mod_mul]
    omega
theorem be_beVal {l : List UInt8} : ∀ {k : Nat}, l.length = k → be k (beVal l) = l := by
  intro k
  induction k generalizing l with
  | zero => intro h; rw [List.eq_nil_of_length_eq_zero h]; rfl
  | succ k ih =>
    intro h
    have hne : l ≠ [] := fun e => by subst e; cases h
    obtain ⟨m, c, rfl⟩ : ∃ m c, l = m ++ [c] := ⟨l.dropLast, l.getLast hne, (List.dropLast_concat_getLast hne).symm⟩
    rw [List.length_append, List.length_singleton] at h
    rw [beVal_snoc]
    show be k ((beVal m * 256 + c.toNat) / 256) ++ [lo (beVal m * 256 + c.toNat)] = _
    have hc := c.toNat_lt
    rw [show (beVal m * 256 + c.toNat) / 256 = beVal m by omega, ih (by omega)]
    congr 1
    rw [List.cons.injEq]
    refine ⟨?_, rfl⟩
    apply UInt8.toNat_inj.1
    rw [lo_toNat]; omega
theorem enc_dec {h : Hv} (ok : h.ok) (rest : List UInt8) : decH (h.enc ++ rest) = h ∧ oddH (h.enc ++ rest) = false := by
  have l4 : ∀ n, (be 4 n).length = 4 := fun n => be_length 4 n
  have e1 : (h.enc ++ rest).take 4 = be 4 h.id := by
    unfold Hv.enc; rw [List.append_assoc, List.take_left' (l4 _)]
  have d4 : (h.enc ++ rest).drop 4 = be 4 h.out ++ (be 4 h.er ++ [lo (stN h.st)]) ++ rest := by
    unfold Hv.enc; rw [List.append_assoc, List.drop_left' (l4 _)]
  have e2 : ((h.enc ++ rest).drop 4).take 4 = be 4 h.out := by
    rw [d4, List.append_assoc, List.take_left' (l4 _)]
  have d8 : (h.enc ++ rest).drop 8 = be 4 h.er ++ [lo (stN h.st)] ++ rest := by
    rw [show (8 : Nat) = 4 + 4 from rfl, ← List.drop_drop, d4, List.append_assoc, List.drop_left' (l4 _)]
  have e3 : ((h.enc ++ rest).drop 8).take 4 = be 4 h.er := by
    rw [d8, List.append_assoc, List.take_left' (l4 _)]
  have d12 : (h.enc ++ rest).drop 12 = lo (stN h.st) :: rest := by
    rw [show (12 : Nat) = 8 + 4 from rfl, ← List.drop_drop, d8, List.append_assoc, List.drop_left' (l4 _)]; rfl
  have g12 : (h.enc ++ rest).getD 12 0 = lo (stN h.st) := by
    have : ((h.enc ++ rest).drop 12).getD 0 0 = lo (stN h.st) := by rw [d12]; rfl
    rw [← this]; simp [List.getD_eq_getElem?_getD]
  have hlo : (lo (stN h.st)).toNat = stN h.st := by rw [lo_toNat]; unfold stN; split <;> rfl
  unfold decH oddH
  rw [e1, e2, e3, g12, hlo, beVal_be', beVal_be', beVal_be', Nat.mod_eq_of_lt ok.id, Nat.mod_eq_of_lt ok.out, Nat.mod_eq_of_lt ok.er]
  obtain ⟨a, b, c, st⟩ := h
  cases st <;> simp [stN]
theorem decs_shift (p b : List UInt8) (hp : p.length = 13) (q : List UInt8) (hq : q.length = 5) (k : Nat) : decs (q ++ (p ++ b)) (k + 1) = decH (p ++ b) :: decs (q ++ b) k ∧ odds (q ++ (p ++ b)) (k + 1) = (oddH (p ++ b) || odds (q ++ b) k) := by
  have h0 : (q ++ (p ++ b)).drop (5 + 13 * 0) = p ++ b := by rw [List.drop_left' hq]
  have hs : ∀ i, (q ++ (p ++ b)).drop (5 + 13 * (i + 1)) = (q ++ b).drop (5 + 13 * i) := fun i => by
    rw [show 5 + 13 * (i + 1) = 5 + (13 + 13 * i) by omega, ← List.drop_drop, List.drop_left' hq, ← List.drop_drop, List.drop_left' hp, ← List.drop_drop, List.drop_left' hq]
  constructor
  · unfold decs
    rw [List.range_succ_eq_map, List.map_cons, List.map_map, h0]
    congr 1
    exact List.map_congr_left (fun i _ => by show decH _ = _; rw [hs i])
  · unfold odds
    rw [List.range_succ_eq_map, List.any_cons, List.any_map, h0]
    congr 1
    exact List.any_congr rfl (fun i => by show oddH _ = _; rw [hs i])
theorem decs_encs (q : List UInt8) (hq : q.length = 5) (rest : List UInt8) : ∀ (l : List Hv), (∀ h ∈ l, h.ok) → decs (q ++ (l.flatMap Hv.enc ++ rest)) l.length = l ∧ odds (q ++ (l.flatMap Hv.enc ++ rest)) l.length = false
  | [], _ => ⟨rfl, rfl⟩
  | h :: l, hok => by
    have ih := decs_encs q hq rest l (fun x hx => hok x (List.mem_cons_of_mem _ hx))
    have hs := decs_shift h.enc (l.flatMap Hv.enc ++ rest) h.enc_len q hq l.length
    have he := enc_dec (hok h (List.mem_cons_self ..)) (l.flatMap Hv.enc ++ rest)
    rw [List.flatMap_cons, List.append_assoc, List.length_cons, hs.1, hs.2, he.1, he.2, ih.1, ih.2]
    exact ⟨rfl, rfl⟩
theorem ask_head (nx : Nat) (l : List Hv) (hl : l.length ≤ 255) (rest : List UInt8) : (askB nx l ++ rest).take 4 = be 4 nx ∧ manyB (askB nx l ++ rest) = l.length ∧ ∃ q : List UInt8, q.length = 5 ∧ askB nx l ++ rest = q ++ (l.flatMap Hv.enc ++ rest) := by
  have l4 : (be 4 nx).length = 4 := be_length 4 nx
  refine ⟨?_, ?_, be 4 nx ++ [lo l.length], by simp [be_length], by unfold askB; simp⟩
  · unfold askB; rw [List.append_assoc, List.take_left' l4]
  · unfold manyB askB
    rw [List.append_assoc]
    have : (be 4 nx ++ (lo l.length :: l.flatMap Hv.enc ++ rest)).getD 4 0 = lo l.length := by
      rw [List.getD_eq_getElem?_getD, List.getElem?_append_right (by omega), l4]; rfl
    rw [this, lo_toNat]; omega
theorem back_ok {nx : Nat} {l : List Hv} (hm : mayF nx l = true) (hnx : nx < 4294967296) (hok : ∀ h ∈ l, h.ok) : parseF (askB nx l) = (nx, l, 0) := by
  have h16 := (mayF_parts hm).2.2
  have hh := ask_head nx l (by omega) []
  simp only [List.append_nil] at hh
  obtain ⟨h1, h2, q, hq, h3⟩ := hh
  have hd := decs_encs q hq [] l hok
  simp only [List.append_nil] at hd
  have hv : beVal ((askB nx l).take 4) = nx := by rw [h1, beVal_be', Nat.mod_eq_of_lt hnx]
  unfold parseF
  rw [h2, askB_len, if_neg (by omega), h3, hd.1, hd.2, ← h3, hv, if_neg (by rw [hm]; simp)]
theorem back_cut {nx : Nat} {l : List Hv} (h16 : l.length ≤ 16) {k : Nat} (hk : k < (askB nx l).length) : parseF ((askB nx l).take k) = (0, [], 4) := by
  have hl : ((askB nx l).take k).length = k := by rw [List.length_take]; omega
  rw [askB_len] at hk
  unfold parseF
  rw [if_pos]
  rw [hl]
  by_cases h5 : k < 5
  · exact .inl h5
  · right
    have hh := ask_head nx l (by omega) []
    simp only [List.append_nil] at hh
    have : manyB ((askB nx l).take k) = l.length := by
      rw [← hh.2.1]; unfold manyB
      rw [List.getD_eq_getElem?_getD, List.getElem?_take, if_pos (by omega), ← List.getD_eq_getElem?_getD]
    rw [this]; exact hk
theorem back_more {nx : Nat} {l : List Hv} (h16 : l.length ≤ 16) : parseF (askB nx l ++ [0]) = (0, [], 5) := by
  have hh := ask_head nx l (by omega) [0]
  unfold parseF
  rw [hh.2.1, List.length_append, askB_len, List.length_singleton, if_neg (by omega), if_pos (.inl (by omega))]
theorem back_err (b : List UInt8) : (parseF b).2.2 ≠ 0 → ((parseF b).2.2 = 4 ∨ (parseF b).2.2 = 5) ∧ (parseF b).1 = 0 ∧ (parseF b).2.1 = [] := by
  unfold parseF
  split
  · intro _; exact ⟨.inl rfl, rfl, rfl⟩
  · split
    · intro _; exact ⟨.inr rfl, rfl, rfl⟩
    · intro h; exact absurd rfl h
theorem enc_of {c : List UInt8} (hc : 13 ≤ c.length) (ho : oddH c = false) : (decH c).enc = c.take 13 := by
  have hb : be 4 (beVal (c.take 4)) = c.take 4 := be_beVal (by rw [List.length_take]; omega)
  have hb2 : be 4 (beVal ((c.drop 4).take 4)) = (c.drop 4).take 4 := be_beVal (by rw [List.length_take, List.length_drop]; omega)
  have hb3 : be 4 (beVal ((c.drop 8).take 4)) = (c.drop 8).take 4 := be_beVal (by rw [List.length_take, List.length_drop]; omega)
  have h12 : lo (stN (decide ((c.getD 12 0).toNat = 1))) = c.getD 12 0 := by
    unfold oddH at ho
    simp at ho
    apply UInt8.toNat_inj.1
    rw [lo_toNat]
    simp only [List.getD_eq_getElem?_getD]
    generalize (c[12]?.getD 0) = x at *
    unfold stN
    split
    · rename_i h; simp at h; omega
    · rename_i h; simp at h; omega
  unfold Hv.enc decH
  simp only
  rw [hb, hb2, hb3, h12]
  have e : ∀ (k n : Nat), (c.take k) ++ ((c.drop k).take n) = c.take (k + n) := fun k n => by rw [List.take_add]
  have e12 : [c.getD 12 0] = (c.drop 12).take 1 := by
    rw [List.drop_eq_getElem_cons (show 12 < c.length by omega), List.take_succ_cons, List.take_zero, List.getD_eq_getElem?_getD, List.getElem?_eq_getElem (show 12 < c.length by omega)]; rfl
  rw [e12, ← List.append_assoc, e 4 4, ← List.append_assoc, e 8 4, e 12 1]
theorem encs_of (b : List UInt8) : ∀ k, 5 + 13 * k ≤ b.length → odds b k = false → (decs b k).flatMap Hv.enc = (b.drop 5).take (13 * k)
  | 0, _, _ => by simp [decs]
  | k + 1, h, ho => by
    have hs : odds b (k + 1) = (odds b k || oddH (b.drop (5 + 13 * k))) := by unfold odds; rw [List.range_succ]; simp
    rw [hs, Bool.or_eq_false_iff] at ho
    have hd : decs b (k + 1) = decs b k ++ [decH (b.drop (5 + 13 * k))] := by unfold decs; rw [List.range_succ]; simp
    rw [hd, List.flatMap_append, encs_of b k (by omega) ho.1, List.flatMap_singleton, enc_of (by rw [List.length_drop]; omega) ho.2, show 13 * (k + 1) = 13 * k + 13 by omega, List.take_add, List.drop_drop]
theorem back_form {b : List UInt8} (h : (parseF b).2.2 = 0) : mayF (parseF b).1 (parseF b).2.1 = true ∧ askB (parseF b).1 (parseF b).2.1 = b := by
  unfold parseF at h ⊢
  split at h
  · cases h
  · rename_i h1
    rw [if_neg h1]
    split at h
    · cases h
    · rename_i h2
      rw [if_neg h2]
      have hm : mayF (beVal (b.take 4)) (decs b (manyB b)) = true := by
        rw [← Bool.not_eq_false]; exact fun e => h2 (.inr (.inr e))
      have ho : odds b (manyB b) = false := by
        rw [← Bool.not_eq_true]; exact fun e => h2 (.inr (.inl e))
      have hl : b.length = 5 + 13 * manyB b := by
        have : ¬ 5 + 13 * manyB b < b.length := fun e => h2 (.inl e)
        omega
      refine ⟨hm, ?_⟩
      simp only
      unfold askB
      have hdl : (decs b (manyB b)).length = manyB b := by unfold decs; simp
      rw [be_beVal (by rw [List.length_take]; omega), encs_of b _ (by omega) ho, hdl]
      have h4 : lo (manyB b) = b[4]'(by omega) := by
        apply UInt8.toNat_inj.1
        rw [lo_toNat]; unfold manyB
        rw [List.getD_eq_getElem?_getD, List.getElem?_eq_getElem (by omega)]
        exact Nat.mod_eq_of_lt (UInt8.toNat_lt _)
      rw [show (b.drop 5).take (13 * manyB b) = b.drop 5 from List.take_of_length_le (by rw [List.length_drop]; omega), h4, show b[4]'(by omega) :: b.drop 5 = b.drop 4 from (List.drop_eq_getElem_cons (by omega)).symm, List.take_append_drop]
end Go.Proofs.Ytbmfnepbdfnlaaa
