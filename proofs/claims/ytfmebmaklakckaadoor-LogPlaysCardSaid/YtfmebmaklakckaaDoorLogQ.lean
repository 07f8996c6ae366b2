/- A log, plain: what its bytes are, and what is read of them. -/
import Derived.Test.YtfmebmaklakckaaDoorLogW
namespace Go.Proofs.YtfmebmaklakckaaDoor
open Go Go.RowKit Go.Lw
set_option maxRecDepth 100000
set_option linter.unusedVariables false
/-- The frames' bytes, behind s; the state behind them; the frames. -/
def encF (s : Fd) : List (List UInt8) → List UInt8
  | [] => []
  | p :: ps => frameB (nextN s) (checkN s.sum (nextN s) p) p ++ encF (fdOf s p) ps
def endF (s : Fd) : List (List UInt8) → Fd
  | [] => s
  | p :: ps => endF (fdOf s p) ps
def fdsF (s : Fd) : List (List UInt8) → List Fd
  | [] => []
  | p :: ps => fdOf s p :: fdsF (fdOf s p) ps
theorem fdsF_p (s : Fd) : ∀ L, (fdsF s L).map Fd.p = L := by
  intro L
  induction L generalizing s with
  | nil => rfl
  | cons p ps ih => simp [fdsF, ih]; rfl
theorem fdsF_last (s : Fd) : ∀ L, (fdsF s L).getLastD s = endF s L := by
  intro L
  induction L generalizing s with
  | nil => rfl
  | cons p ps ih => rw [fdsF, List.getLastD_cons, ih]; rfl
theorem endF_fin (s : Fd) : ∀ L, (endF s L).fin = s.fin + (encF s L).length := by
  intro L
  induction L generalizing s with
  | nil => rfl
  | cons p ps ih =>
    rw [endF, ih, encF, List.length_append, frameB_len]
    show s.fin + 10 + p.length + _ = _
    omega
theorem endF_num (s : Fd) (hs : s.num < 4294967296) : ∀ L : List (List UInt8), (endF s L).num = (s.num + L.length) % 4294967296 := by
  intro L
  induction L generalizing s with
  | nil => show s.num = (s.num + 0) % 4294967296; omega
  | cons p ps ih =>
    rw [endF, ih _ (nextN_lt s)]
    show ((s.num + 1) % 4294967296 + ps.length) % 4294967296 = _
    simp only [List.length_cons]; omega
theorem encF_snoc (s : Fd) (p : List UInt8) : ∀ L, encF s (L ++ [p]) = encF s L ++ frameB (nextN (endF s L)) (checkN (endF s L).sum (nextN (endF s L)) p) p := by
  intro L
  induction L generalizing s with
  | nil => simp [encF, endF]
  | cons q ps ih => simp [encF, endF, ih]
theorem endF_snoc (s : Fd) (p : List UInt8) : ∀ L, endF s (L ++ [p]) = fdOf (endF s L) p := by
  intro L
  induction L generalizing s with
  | nil => rfl
  | cons q ps ih => simp [endF, ih]
theorem endF_sum (s : Fd) (hs : s.sum < 4294967296) : ∀ L, (endF s L).sum < 4294967296 := by
  intro L
  induction L generalizing s with
  | nil => exact hs
  | cons q ps ih => exact ih _ (checkN_lt _ _ _)
theorem encF_count (s : Fd) : ∀ L : List (List UInt8), 10 * L.length ≤ (encF s L).length := by
  intro L
  induction L generalizing s with
  | nil => exact Nat.zero_le _
  | cons p ps ih => have := ih (fdOf s p); rw [encF, List.length_append, frameB_len]; simp only [List.length_cons]; omega
theorem beVal_be (k n : Nat) : beVal (be k n) = n % 256 ^ k := by
  induction k generalizing n with
  | zero => simp [be, beVal, Nat.mod_one]
  | succ k ih =>
    have h := be_add k 1 n
    rw [h]
    show beVal (be k (n / 256 ^ 1) ++ [lo n]) = _
    rw [beVal_snoc, ih, lo_toNat, Nat.pow_one, Nat.pow_succ, Nat.mul_comm (256 ^ k) 256, Nat.mod_mul]
    omega
theorem frame_parts (a b : Nat) (p rest : List UInt8) : (frameB a b p ++ rest).take 2 = be 2 p.length ∧ ((frameB a b p ++ rest).drop 2).take 4 = be 4 a ∧ ((frameB a b p ++ rest).drop 6).take 4 = be 4 b ∧ ((frameB a b p ++ rest).drop 10).take p.length = p := by
  have e : frameB a b p ++ rest = be 2 p.length ++ (be 4 a ++ (be 4 b ++ (p ++ rest))) := by unfold frameB; simp
  have h2 := be_length 2 p.length; have h4 := be_length 4 a; have h5 := be_length 4 b
  rw [e]
  refine ⟨?_, ?_, ?_, ?_⟩
  · rw [List.take_append_of_le_length (by omega), List.take_of_length_le (by omega)]
  · rw [List.drop_append, List.drop_of_length_le (by omega), h2, List.nil_append, Nat.sub_self, List.drop_zero, List.take_append_of_le_length (by omega), List.take_of_length_le (by omega)]
  · rw [← List.append_assoc, List.drop_append, List.drop_of_length_le (by rw [List.length_append]; omega), List.length_append, h2, h4, List.nil_append, Nat.sub_self, List.drop_zero, List.take_append_of_le_length (by omega), List.take_of_length_le (by omega)]
  · rw [← List.append_assoc, ← List.append_assoc, List.drop_append, List.drop_of_length_le (by simp only [List.length_append]; omega), List.nil_append]
    simp only [List.length_append, h2, h4, h5, Nat.sub_self, List.drop_zero]
    rw [List.take_append_of_le_length (Nat.le_refl _), List.take_of_length_le (Nat.le_refl _)]
theorem take_all {r : Rdr} {n : Nat} (h : r.short = false) (hn : n ≤ r.l.length) : r.take n = (r.l.take n, ⟨r.l.drop n, false⟩) := take_in n h hn
/-- A frame that stands there is read. -/
theorem step_frame {b : List UInt8} {s : Fd} {p rest : List UInt8} (h : b.drop s.fin = frameB (nextN s) (checkN s.sum (nextN s) p) p ++ rest) (hp : p.length ≤ 65535) : stepF b s = some (fdOf s p) := by
  obtain ⟨t1, t2, t3, t4⟩ := frame_parts (nextN s) (checkN s.sum (nextN s) p) p rest
  have hlen : (b.drop s.fin).length = 10 + p.length + rest.length := by rw [h, List.length_append, frameB_len]
  rw [← h] at t1 t2 t3 t4
  have e1 : (Rdr.mk (b.drop s.fin) false).num 2 = (p.length, ⟨(b.drop s.fin).drop 2, false⟩) := by
    unfold Rdr.num
    rw [take_all rfl (by show 2 ≤ (b.drop s.fin).length; omega)]
    show (beVal ((b.drop s.fin).take 2), _) = _
    rw [t1, beVal_be, Nat.mod_eq_of_lt (by omega)]
  have e2 : (Rdr.mk ((b.drop s.fin).drop 2) false).num 4 = (nextN s, ⟨(b.drop s.fin).drop 6, false⟩) := by
    unfold Rdr.num
    rw [take_all rfl (by show 4 ≤ ((b.drop s.fin).drop 2).length; rw [List.length_drop]; omega)]
    show (beVal (((b.drop s.fin).drop 2).take 4), Rdr.mk (((b.drop s.fin).drop 2).drop 4) false) = _
    rw [t2, beVal_be, Nat.mod_eq_of_lt (nextN_lt s), List.drop_drop]
  have e3 : (Rdr.mk ((b.drop s.fin).drop 6) false).num 4 = (checkN s.sum (nextN s) p, ⟨(b.drop s.fin).drop 10, false⟩) := by
    unfold Rdr.num
    rw [take_all rfl (by show 4 ≤ ((b.drop s.fin).drop 6).length; rw [List.length_drop]; omega)]
    show (beVal (((b.drop s.fin).drop 6).take 4), Rdr.mk (((b.drop s.fin).drop 6).drop 4) false) = _
    rw [t3, beVal_be, Nat.mod_eq_of_lt (checkN_lt _ _ _), List.drop_drop]
  have e4 : (Rdr.mk ((b.drop s.fin).drop 10) false).take p.length = (p, ⟨((b.drop s.fin).drop 10).drop p.length, false⟩) := by
    rw [take_all rfl (by show p.length ≤ ((b.drop s.fin).drop 10).length; rw [List.length_drop]; omega)]
    show (((b.drop s.fin).drop 10).take p.length, _) = _
    rw [t4]
  rw [step_parts e1 e2 e3 e4, if_neg (by simp [nextN])]
  rfl
/-- No frame stands there: too few bytes, or none but 0. -/
def Dead (t : List UInt8) : Prop := t.length < 10 + beVal (t.take 2) ∨ ∃ k, t = zeros k
theorem beVal_zeros (k : Nat) : beVal (zeros k) = 0 := by
  have : ∀ k a, (List.replicate k (0 : UInt8)).foldl (fun a c => a * 256 + c.toNat) (a * 0) = 0 := by
    intro k
    induction k with
    | zero => intro a; rfl
    | succ k ih => intro a; rw [List.replicate_succ, List.foldl_cons]; exact ih 0
  exact this k 0
theorem step_dead {b : List UInt8} {s : Fd} (h : Dead (b.drop s.fin)) (hs : s.num + 1 < 4294967296) : stepF b s = none := by
  cases hst : stepF b s with
  | none => rfl
  | some f =>
    obtain ⟨h1, _, h3, _, _, h5, _⟩ := step_some hst
    rcases h with h | ⟨k, h⟩
    · omega
    · rw [h] at h3
      rw [show (((zeros k).drop 2).take 4) = zeros (min 4 (k - 2)) by simp [zeros, List.take_replicate], beVal_zeros] at h3
      omega
theorem frames_enc {b t : List UInt8} : ∀ (L : List (List UInt8)) (s : Fd) (n : Nat), b.drop s.fin = encF s L ++ t → (∀ p ∈ L, p.length ≤ 65535) → L.length < n → stepF b (endF s L) = none → framesF b n s = fdsF s L
  | [], s, n, _, _, _, h => framesF_nil h
  | p :: L, s, 0, _, _, h, _ => by simp at h
  | p :: L, s, n + 1, hb, hL, hn, h => by
    rw [framesF_cons (step_frame (rest := encF (fdOf s p) L ++ t) (by rw [hb, encF, List.append_assoc]) (hL p List.mem_cons_self))]
    have hd : b.drop (fdOf s p).fin = encF (fdOf s p) L ++ t := by
      show b.drop (s.fin + 10 + p.length) = _
      rw [Nat.add_assoc, ← List.drop_drop, hb, encF, List.append_assoc, List.drop_append, List.drop_of_length_le (by rw [frameB_len]; exact Nat.le_refl _), frameB_len, Nat.sub_self]
      rfl
    rw [frames_enc L (fdOf s p) n hd (fun q hq => hL q (List.mem_cons_of_mem _ hq)) (by simp at hn; omega) h]
    rfl
abbrev fz : Fd := Fd.zero
theorem fz_fin (L : List (List UInt8)) : (endF fz L).fin = (encF fz L).length := by rw [endF_fin]; show 0 + _ = _; omega
theorem fz_num {L : List (List UInt8)} (h : (encF fz L).length ≤ 1048576) : (endF fz L).num = L.length ∧ L.length ≤ 104858 ∧ nextN (endF fz L) = L.length + 1 := by
  have h1 := encF_count fz L
  have h2 := endF_num fz (by decide) L
  have h3 : fz.num = 0 := rfl
  unfold nextN
  rw [h3] at h2
  omega
/-- What stands on a disk: frames, and bytes of no frame. -/
theorem frames_all {b t : List UInt8} {L : List (List UInt8)} (hb : b = encF fz L ++ t) (hl : b.length ≤ 1048576) (hL : ∀ p ∈ L, p.length ≤ 65535) (hd : Dead t) : framesF b (b.length + 1) fz = fdsF fz L := by
  have h1 := encF_count fz L
  have h2 : (encF fz L).length ≤ b.length := by rw [hb, List.length_append]; omega
  have hn := fz_num (L := L) (by omega)
  refine frames_enc (t := t) L fz _ (by rw [hb]; rfl) hL (by omega) (step_dead ?_ (by omega))
  rw [fz_fin, hb, List.drop_append, List.drop_of_length_le (Nat.le_refl _), Nat.sub_self, List.nil_append, List.drop_zero]
  exact hd
theorem lastF_of {b t : List UInt8} {L : List (List UInt8)} (hb : b = encF fz L ++ t) (hl : b.length ≤ 1048576) (hL : ∀ p ∈ L, p.length ≤ 65535) (hd : Dead t) : lastF b = endF fz L := by
  unfold lastF
  rw [frames_all hb hl hL hd, fdsF_last]
theorem logP_of {D : Dsk} {t : List UInt8} {L : List (List UInt8)} (hb : D.b = encF fz L ++ t) (hl : D.b.length ≤ 1048576) (hL : ∀ p ∈ L, p.length ≤ 65535) : logP D (endF fz L) = L := by
  have hr : D.rd 0 ((endF fz L).fin : Int) = encF fz L := by
    unfold Dsk.rd
    rw [if_neg (by omega), fz_fin, hb]
    simp
  unfold logP logL
  rw [hr, frames_all (t := []) (by simp) (by rw [hb, List.length_append] at hl; omega) hL (.inl (by simp [beVal])), fdsF_p]
end Go.Proofs.YtfmebmaklakckaaDoor
