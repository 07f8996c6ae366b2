/- Ref15b, Ref15c, Ref15d, in one text. -/
import Derived.Test.YtfmebmaklakckaaDoorRef15
import Derived.Test.YtfmebmaklakckaaDoorLogV
import Derived.Test.YtfmebmaklakckaaDoorRefDisk3
import Derived.Test.YtfmebmaklakckaaDoorLink
import Derived.Deep.DeepCutAuto
import Derived.Deep.CutBlock
/- longwireref15: number, Next; a document's log. -/
namespace Go.Proofs.YtfmebmaklakckaaDoor
open Go Go.RowKit Go.Lw
set_option maxRecDepth 100000
set_option linter.unusedVariables false
set_option linter.unusedSimpArgs false
theorem rdb_at {w : World} {a : Option Addr} {n cap : Nat} {l : List UInt8} (hr : RdB w (.slice a n cap) l) (k : Nat) (hk : k < l.length) : ∃ g off, a = some ⟨g, off, none⟩ ∧ w.cell? ⟨g, off + k, none⟩ = some (bv l[k]) := by
  obtain ⟨a', c', e, h1, h2, h3⟩ := hr.open
  cases e
  exact h3 k hk
theorem beVal_take (l : List UInt8) (i : Nat) (hi : i < l.length) : beVal (l.take (i + 1)) = 256 * beVal (l.take i) + l[i].toNat := by
  rw [take_snoc l i hi, beVal_snoc, Nat.mul_comm]
set_option maxHeartbeats 2000000 in
theorem rnum_any (w : World) (v : Value) (l : List UInt8) (hr : RdB w v l) (h4 : l.length ≤ 4) :
    Calls Tryd.prog 62 #[v] w fun e w' => e = .returned (.int .u32 (beVal l : Int)) ∧ w = w' := by
  obtain ⟨ad, cap, rfl, h1, h2, _⟩ := hr.open
  have HR := Lw.hid hr
  obtain ⟨n, hn⟩ : ∃ n, l.length = n := ⟨_, rfl⟩
  have HN := Lw.hid hn
  rw [hn] at h4 HR h1 ⊢
  clear hr hn
  go_enter Tryd.func62, Tryd.ntmps62
  go_wp2_with fail
  go_loopw [3, 4] (fun x i wr => ∃ k : Nat, k ≤ n ∧ i = .int .i64 (k : Int) ∧ x = .int .u32 (beVal (l.take k) : Int) ∧ w = wr) (fun _ i _ => n - (intOf i).toNat)
  case atStart => exact ⟨0, Nat.zero_le _, rfl, by simp [beVal], rfl⟩
  case round =>
    obtain ⟨k, hk, rfl, rfl, rfl⟩ := hrel
    by_cases hlt : k < n
    · have hkd : decide ((k : Int) < (n : Int)) = true := by simp; omega
      have hin : k < l.length := by rw [HN.out]; exact hlt
      obtain ⟨g, off, rfl, hc⟩ := rdb_at HR.out k hin
      rw [show bv l[k] = .int .u8 (l[k].toNat : Int) from rfl] at hc
      have hbv := beVal_take l k hin
      have hlb := beVal_lt (l.take k)
      rw [List.length_take, Nat.min_eq_left (by omega)] at hlb
      have hp : 256 ^ k ≤ 256 ^ 3 := Nat.pow_le_pow_right (by decide) (by omega)
      have h3 : (256 : Nat) ^ 3 = 16777216 := by decide
      have hx := UInt8.toNat_lt l[k]
      obtain ⟨y, hy⟩ : ∃ y, beVal (l.take k) = y := ⟨_, rfl⟩
      obtain ⟨c, hcc⟩ : ∃ c, l[k].toNat = c := ⟨_, rfl⟩
      rw [hcc] at hc
      rw [hy] at hbv hlb ⊢
      rw [hcc] at hbv hx
      have HBV := Lw.hid hbv
      clear hy hcc hbv hkd
      go_wp2_with fail
      go_roundw
      case rel => exact ⟨k + 1, by omega, by go_num, by rw [HBV.out]; go_num, by trivial⟩
      case measure => simp [intOf]; omega
    · obtain rfl : k = n := by omega
      have e0 : l.take k = l := List.take_of_length_le (by rw [HN.out]; exact Nat.le_refl _)
      rw [e0]
      go_wp2_with fail
      go_ret
      exact ⟨rfl, rfl⟩
abbrev rlog (gr : Nat) (vl : Value) (s : Fd) : Obj := .cells #[.pointer (some ⟨gr, 0, none⟩), vl, .int .i64 (s.fin : Int), .int .u32 (s.sum : Int)] 59 (0, 0)
/-- A document's log: its block and its row of payloads, in blocks of Q. -/
structure RLog (w : World) (Q : Nat → Prop) (GR gr : Nat) (vl : Value) (vs : List Value) (A : List (List UInt8)) : Prop where
  box : w.heap[GR]? = some (rlog gr vl (endF fz A))
  own : w.ownsRow 0 38 1 vl A.length vs
  p : Pays w (fun k => Q k ∧ k ≠ GR ∧ ¬ blk vl k) vs A
  qG : Q GR
  qv : ∀ k, blk vl k → Q k
  ap : ¬ blk vl GR
theorem RLog.kept {S Q : Nat → Prop} {w w' : World} {GR gr : Nat} {vl : Value} {vs : List Value} {A : List (List UInt8)} (h : RLog w Q GR gr vl vs A) (k : Kept S w w') (hS : ∀ q, Q q → ¬ S q) : RLog w' Q GR gr vl vs A :=
  ⟨k.heap h.box (hS _ h.qG), own_kept k h.own (fun b hb => hS b (h.qv b hb)), h.p.kept k (fun i _ hq => hS i hq.1) (fun _ _ h => h), h.qG, h.qv, h.ap⟩
theorem rnext_any (w : World) (GR gr : Nat) (vl : Value) (s : Fd) (n : Nat) (hb : w.heap[GR]? = some (rlog gr vl s)) (hv : ∃ ad cap, vl = .slice ad n cap) (hn : n + 1 < 4294967296) :
    Calls Tryd.prog 24 #[.pointer (some ⟨GR, 0, none⟩)] w fun e w' => e = .returned (.int .u32 ((n + 1 : Nat) : Int)) ∧ w = w' := by
  obtain ⟨ad, cap, rfl⟩ := hv
  have c1 := heap_cell hb 1
  clear hb
  go_enter Tryd.func24, Tryd.ntmps24
  go_wp2_with fail
  go_ret
  exact ⟨by go_num, rfl⟩
end Go.Proofs.YtfmebmaklakckaaDoor
/- longwireref15.Recover. -/
namespace Go.Proofs.YtfmebmaklakckaaDoor
open Go Go.RowKit Go.Lw
set_option maxRecDepth 100000
set_option linter.unusedVariables false
set_option linter.unusedSimpArgs false
/-- What the bytes hold: A's frames, and t. -/
structure Rest (b : List UInt8) (A : List (List UInt8)) (t : List UInt8) : Prop where
  e : b = encF fz A ++ t
  a : ∀ p ∈ A, p.length ≤ 65535
  l : b.length ≤ 1048576
section
variable {b t : List UInt8} {A : List (List UInt8)}
theorem Rest.len (h : Rest b A t) : (encF fz A).length + t.length = b.length := by rw [h.e, List.length_append]
theorem Rest.drop (h : Rest b A t) : b.drop (endF fz A).fin = t := by
  rw [fz_fin, h.e, List.drop_append, List.drop_of_length_le (Nat.le_refl _), Nat.sub_self, List.nil_append, List.drop_zero]
theorem Rest.num (h : Rest b A t) : nextN (endF fz A) = A.length + 1 := (fz_num (by have := h.len; have := h.l; omega)).2.2
theorem Rest.few (h : Rest b A t) : A.length ≤ 104858 := (fz_num (by have := h.len; have := h.l; omega)).2.1
theorem Rest.fin (h : Rest b A t) : (endF fz A).fin + t.length = b.length := by rw [fz_fin]; exact h.len
theorem Rest.none (h : Rest b A t) (hn : ∀ f, stepF b (endF fz A) = some f → False) : lastF b = endF fz A := by
  refine lastF_none h.e h.l h.a ?_
  cases hst : stepF b (endF fz A) with
  | none => rfl
  | some f => exact (hn f hst).elim
theorem Rest.short (h : Rest b A t) (ht : t.length < 10 + beVal (t.take 2)) : lastF b = endF fz A := h.none fun f hf => by
  have := (step_some hf).1
  rw [h.drop] at this; omega
theorem Rest.other (h : Rest b A t) (ht : beVal ((t.drop 2).take 4) ≠ A.length + 1) : lastF b = endF fz A := h.none fun f hf => by
  obtain ⟨_, _, h3, _, _, h6, _⟩ := step_some hf
  rw [h.drop] at h3
  have h7 : f.num = nextN (endF fz A) := h6
  rw [h.num] at h7
  exact ht (by rw [← h3, h7])
theorem Rest.wrong (h : Rest b A t) (hn : beVal ((t.drop 2).take 4) = A.length + 1) (ht : beVal ((t.drop 6).take 4) ≠ checkN (endF fz A).sum (A.length + 1) ((t.drop 10).take (beVal (t.take 2)))) : lastF b = endF fz A := h.none fun f hf => by
  obtain ⟨_, h2, h3, h4, _, _, h7⟩ := step_some hf
  rw [h.drop] at h2 h3 h4
  rw [h4, h3, hn, h2] at h7
  exact ht h7
/-- A frame stands there. -/
theorem Rest.frame (h : Rest b A t) (h1 : 10 + beVal (t.take 2) ≤ t.length) (hn : beVal ((t.drop 2).take 4) = A.length + 1) (hs : beVal ((t.drop 6).take 4) = checkN (endF fz A).sum (A.length + 1) ((t.drop 10).take (beVal (t.take 2)))) :
    Rest b (A ++ [(t.drop 10).take (beVal (t.take 2))]) (t.drop (10 + beVal (t.take 2))) ∧ ((t.drop 10).take (beVal (t.take 2))).length = beVal (t.take 2) ∧ beVal (t.take 2) ≤ 65535 := by
  have hl2 : (t.take 2).length = 2 := by rw [List.length_take]; omega
  have hlt := beVal_lt (t.take 2)
  rw [hl2] at hlt
  obtain ⟨n, hm⟩ : ∃ n, beVal (t.take 2) = n := ⟨_, rfl⟩
  rw [hm] at h1 hs hlt ⊢
  have hpl : ((t.drop 10).take n).length = n := by rw [List.length_take, List.length_drop]; omega
  have e1 : be 2 ((t.drop 10).take n).length = t.take 2 := by rw [hpl, ← hm]; exact be_beVal 2 _ hl2
  have e2 : be 4 (nextN (endF fz A)) = (t.drop 2).take 4 := by rw [h.num, ← hn]; exact be_beVal 4 _ (by rw [List.length_take, List.length_drop]; omega)
  have e3 : be 4 (checkN (endF fz A).sum (nextN (endF fz A)) ((t.drop 10).take n)) = (t.drop 6).take 4 := by rw [h.num, ← hs]; exact be_beVal 4 _ (by rw [List.length_take, List.length_drop]; omega)
  have ef : frm A ((t.drop 10).take n) ++ t.drop (10 + n) = t := by
    unfold frm frameB
    rw [e1, e2, e3]
    simp only [List.append_assoc]
    rw [show (t.drop 10).take n ++ t.drop (10 + n) = t.drop 10 by rw [← List.drop_drop]; exact List.take_append_drop ..]
    rw [show (t.drop 6).take 4 ++ t.drop 10 = t.drop 6 by rw [show t.drop 10 = (t.drop 6).drop 4 by rw [List.drop_drop]]; exact List.take_append_drop ..]
    rw [show (t.drop 2).take 4 ++ t.drop 6 = t.drop 2 by rw [show t.drop 6 = (t.drop 2).drop 4 by rw [List.drop_drop]]; exact List.take_append_drop ..]
    exact List.take_append_drop ..
  refine ⟨⟨?_, fun q hq => ?_, h.l⟩, hpl, by omega⟩
  · rw [enc_snoc, List.append_assoc, ef]; exact h.e
  · rcases List.mem_append.1 hq with hq | hq
    · exact h.a q hq
    · rw [List.mem_singleton.1 hq, hpl]; omega
end
/-- Recover's rounds. -/
structure RecI (w wr : World) (gr GR : Nat) (vl : Value) (vs : List Value) (A : List (List UInt8)) (b t : List UInt8) : Prop where
  k : Kept (fun _ => False) w wr
  l : RLog wr (fun q => w.heap.size ≤ q ∧ q < wr.heap.size) GR gr vl vs A
  r : Rest b A t
theorem RLog.mono {Q Q' : Nat → Prop} {w : World} {GR gr : Nat} {vl : Value} {vs : List Value} {A : List (List UInt8)} (h : RLog w Q GR gr vl vs A) (hQ : ∀ q, Q q → Q' q) : RLog w Q' GR gr vl vs A :=
  ⟨h.box, h.own, h.p.kept (Kept.refl (fun _ => False) w) (fun _ _ _ h => h) (fun i _ hq => ⟨hQ i hq.1, hq.2⟩), hQ _ h.qG, fun k hk => hQ k (h.qv k hk), h.ap⟩
theorem RecI.keptF {w wr w' : World} {gr GR : Nat} {vl : Value} {vs : List Value} {A : List (List UInt8)} {b t : List UInt8} (h : RecI w wr gr GR vl vs A b t) (k : Kept (fun _ => False) wr w') : RecI w w' gr GR vl vs A b t :=
  ⟨h.k.trans k (fun _ _ h => h), (h.l.kept k (fun _ _ h => h)).mono (fun q hq => ⟨hq.1, Nat.lt_of_lt_of_le hq.2 k.size⟩), h.r⟩
/-- A row with one more. -/
def IsRow (lo : Nat) (vl : Value) (vs : List Value) (n : Nat) (p : List UInt8) (v : Value) (w : World) : Prop :=
  ∃ u, w.ownsRow 0 38 1 v n (vs ++ [u]) ∧ (∀ q, blk v q → blk vl q ∨ lo ≤ q) ∧ RdB w u p ∧ (∀ q, blk u q → lo ≤ q ∧ ¬ blk v q) ∧ ∃ ad cap, v = .slice ad n cap
def stRow (lo : Nat) (vl : Value) (vs : List Value) (n : Nat) (p : List UInt8) : Stable := ⟨IsRow lo vl vs n p, fun _ _ _ hk h => by
  obtain ⟨u, h1, h2, h3, h4⟩ := h
  exact ⟨u, own_kept hk h1 (fun _ _ h => h), h2, h3.kept hk (fun _ _ h => h), h4⟩⟩
def stIn (v0 : Value) (l : List UInt8) : Stable := ⟨fun v w => RdB w v l ∧ ∀ k, blk v k → blk v0 k, fun _ _ _ hk h => ⟨h.1.kept hk (fun _ _ h => h), h.2⟩⟩
def rRB (vl : Value) (p : List UInt8) : StableR (Kept (blk vl)) := ⟨fun v w => RdB w v p ∧ ∀ k, blk v k → ¬ blk vl k, fun _ _ _ hk h => ⟨h.1.kept hk h.2, h.2⟩⟩
def rOwn (vl : Value) (lo : Nat) (hv : ∀ k, blk vl k → k < lo) (p : List UInt8) : StableR (Kept (blk vl)) := ⟨IsOwn lo p, fun _ _ _ hk h => ⟨own_kept hk h.1 (fun k hb e => by have := h.2 k hb; have := hv k e; omega), h.2⟩⟩
def rBS (vl : Value) (lo : Nat) (hv : ∀ k, blk vl k → k < lo) (p : List UInt8) : StableR (Kept (blk vl)) := ⟨fun v w => ∃ u, Rd w 1 v 1 [u] ∧ IsOwn lo p u w ∧ ∀ k, blk v k → lo ≤ k, fun _ _ _ hk h => by
  obtain ⟨u, h1, h2, h3⟩ := h
  exact ⟨u, h1.kept hk (fun k hb e => by have := h3 k hb; have := hv k e; omega), ⟨own_kept hk h2.1 (fun k hb e => by have := h2.2 k hb; have := hv k e; omega), h2.2⟩, h3⟩⟩
/-- One more payload stands in the document's log. -/
theorem RecI.step {w wr w6 w7 : World} {gr GR n : Nat} {vl v' : Value} {vs : List Value} {A : List (List UInt8)} {b t t' p : List UInt8} {F S : Int} (h : RecI w wr gr GR vl vs A b t) (k6 : Kept (fun _ => False) wr w6) (k : Kept (blk vl) w6 w7) (hn : n = A.length + 1)
    (hq : IsRow w6.heap.size vl vs n p v' w7) (hr : Rest b (A ++ [p]) t') (hF : ((endF fz (A ++ [p])).fin : Int) = F) (hS : ((endF fz (A ++ [p])).sum : Int) = S) :
    ∃ u, RecI w (((w7.setCell ⟨GR, 1, none⟩ v').setCell ⟨GR, 2, none⟩ (.int .i64 F)).setCell ⟨GR, 3, none⟩ (.int .u32 S)) gr GR v' (vs ++ [u]) (A ++ [p]) b t' := by
  obtain ⟨u, h1, h2, h3, h4, _⟩ := hq
  subst hn
  have h6 := h.keptF k6
  have hG := heap_lt h6.l.box
  have hb7 := k.heap h6.l.box h6.l.ap
  have hvl := own_lt h6.l.own
  have hs := k.size
  have hvG : ¬ blk v' GR := fun e => (h2 _ e).elim h6.l.ap (fun e => by omega)
  have k7 : Kept (fun q => q = GR) w7 (((w7.setCell ⟨GR, 1, none⟩ v').setCell ⟨GR, 2, none⟩ (.int .i64 F)).setCell ⟨GR, 3, none⟩ (.int .u32 S)) :=
    (((Kept.refl (fun q => q = GR) w7).set GR 1 (fun _ => rfl) _).set GR 2 (fun _ => rfl) _).set GR 3 (fun _ => rfl) _
  have hk : Kept (fun _ => False) w (((w7.setCell ⟨GR, 1, none⟩ v').setCell ⟨GR, 2, none⟩ (.int .i64 F)).setCell ⟨GR, 3, none⟩ (.int .u32 S)) := by
    refine (h6.k.trans k (fun i hi e => ?_)).trans k7 (fun i hi e => ?_)
    · have := (h6.l.qv i e).1; omega
    · have := h6.l.qG.1; omega
  have hsz := k7.size
  have hnew : ∀ q, q < w6.heap.size → blk v' q → blk vl q := fun q h1 e => (h2 q e).elim id (fun e => by omega)
  refine ⟨u, hk, ⟨?_, ?_, ?_, ⟨h6.l.qG.1, by omega⟩, fun q hq => ⟨?_, ?_⟩, hvG⟩, hr⟩
  · have e : rlog gr v' (endF fz (A ++ [p])) = .cells (((#[.pointer (some ⟨gr, 0, none⟩), vl, .int .i64 ((endF fz A).fin : Int), .int .u32 ((endF fz A).sum : Int)].setIfInBounds 1 v').setIfInBounds 2 (.int .i64 F)).setIfInBounds 3 (.int .u32 S)) 59 (0, 0) := by
      unfold rlog
      rw [hF, hS]; rfl
    rw [e]
    exact heap_set (heap_set (heap_set hb7 1 _) 2 _) 3 _
  · rw [List.length_append]
    exact own_kept k7 h1 (fun q hq e => hvG (e ▸ hq))
  · have hp6 : Pays w6 (fun q => (w.heap.size ≤ q ∧ q < w6.heap.size) ∧ q ≠ GR ∧ ¬ blk vl q) vs A := h6.l.p
    have hp7 := hp6.kept (Q' := fun q => (w.heap.size ≤ q ∧ q < (((w7.setCell ⟨GR, 1, none⟩ v').setCell ⟨GR, 2, none⟩ (.int .i64 F)).setCell ⟨GR, 3, none⟩ (.int .u32 S)).heap.size) ∧ q ≠ GR ∧ ¬ blk v' q) k (fun _ _ hq => hq.2.2) (fun q hlt hq => ⟨⟨hq.1.1, by omega⟩, hq.2.1, fun e => hq.2.2 (hnew q hlt e)⟩)
    have hw6 := h6.k.size
    have hp8 := hp7.snoc h3 (fun hn q hq => ⟨⟨by have := (h4 q hq).1; omega, by have := h3.lt hn q hq; omega⟩, fun e => by have := (h4 q hq).1; omega, (h4 q hq).2⟩)
    exact hp8.kept k7 (fun _ _ hq => hq.2.1) (fun _ _ h => h)
  · rcases h2 q hq with e | e
    · exact (h6.l.qv q e).1
    · have := h6.k.size; omega
  · have := own_lt h1 q hq; omega
/-- What the document's Recover leaves. -/
def rrF (R : Rsk) : Rsk × Nat := if R.stopped then (R, 10) else if (lastF R.b).fin < R.b.length then R.put ((lastF R.b).fin : Int) (zeros (R.b.length - (lastF R.b).fin)) else (R, 0)
def RRPost (w : World) (gr : Nat) (vr : Value) (R : Rsk) (e : Ending) (w' : World) : Prop :=
  ∃ vr', RefAt w' gr vr' (rrF R).1 ∧ Kept (fun k => k = gr ∨ blk vr k) w w' ∧ (∀ k, blk vr' k → blk vr k ∨ w.heap.size ≤ k) ∧
    (((rrF R).2 ≠ 0 ∧ e = .returned (.tuple #[.pointer none, .int .i64 ((rrF R).2 : Int)])) ∨
      ((rrF R).2 = 0 ∧ ∃ GR vl vs A t, e = .returned (.tuple #[.pointer (some ⟨GR, 0, none⟩), .int .i64 0]) ∧ Rest R.b A t ∧ lastF R.b = endF fz A ∧ RLog w' (fun q => w.heap.size ≤ q ∧ q < w'.heap.size ∧ ¬ blk vr' q) GR gr vl vs A))
set_option maxHeartbeats 16000000 in
theorem rrec_any (w : World) (gr : Nat) (vr : Value) (R : Rsk) (h : RefAt w gr vr R) (ok : R.ok) :
    Calls Tryd.prog 41 #[.pointer (some ⟨gr, 0, none⟩)] w (RRPost w gr vr R) := by
  obtain ⟨adr, capr, rfl, hc1, hc2, _⟩ := own_slice h.own
  obtain ⟨bn, hbn⟩ : ∃ bn, R.b.length = bn := ⟨_, rfl⟩
  have hrd := RdB.of_own h.own rfl
  have c1 := heap_cell h.box 1; have c3 := heap_cell h.box 3
  rw [hbn] at h hc1 hrd c1 ⊢
  have hbm : bn ≤ 1048576 := by rw [← hbn]; exact Nat.le_trans ok.len ok.cap
  have H := Lw.hid h; have OK := Lw.hid ok; have HBN := Lw.hid hbn; have HRD := Lw.hid hrd
  have hgl := heap_lt h.box
  have HVL : Hid (∀ k, blk (.slice adr bn capr) k → k < w.heap.size) := Lw.hid (own_lt h.own)
  unfold maxLen at hc2
  clear h ok hbn hrd
  go_enter Tryd.func41, Tryd.ntmps41
  cases hst : R.stopped with
  | true =>
    rw [hst] at c3
    have HR : Hid (rrF R = (R, 10)) := Lw.hid (by unfold rrF; rw [if_pos hst])
    clear hst
    go_wp2_with fail
    refine bodyPost_ret (v := .tuple #[.pointer none, .int .i64 10]) (by simp [results, go_sem]) rfl ?_
    exact ⟨_, by rw [HR.out]; exact H.out, Kept.refl _ _, fun k hk => .inl hk, .inl ⟨by rw [HR.out]; exact (by decide : (10 : Nat) ≠ 0), by rw [HR.out]; rfl⟩⟩
  | false =>
  rw [hst] at c3
  have HST := Lw.hid hst
  clear hst
  obtain ⟨G, hG⟩ : ∃ G, w.heap.size = G := ⟨_, rfl⟩
  obtain ⟨w1, hw1⟩ : ∃ w1, w.alloc (.cells #[.pointer (some ⟨gr, 0, none⟩), .slice none 0 0, .int .i64 0, .int .u32 0] 59) = w1 := ⟨_, rfl⟩
  have hI1 : RecI w w1 gr G (.slice none 0 0) [] [] R.b R.b := by
    have hb : w1.heap[G]? = some (rlog gr (.slice none 0 0) (endF fz [])) := by rw [← hw1, ← hG]; exact heap_alloc w _
    refine ⟨by rw [← hw1]; exact (Kept.refl _ w).alloc _, ⟨hb, World.ownsRow_nil _ 0 _ 1, Pays.nil _ _, ⟨by omega, heap_lt hb⟩, fun k hk => (blk_none hk).elim, blk_none⟩, ⟨rfl, fun p hp => by simp at hp, by rw [HBN.out]; exact hbm⟩⟩
  have I1 := Lw.hid hI1; have HW1 := Lw.hid hw1; have HG := Lw.hid hG
  have hgG : gr < G := by omega
  clear hI1 hw1 hG
  go_upto_block 0 with fail
  rw [HG.out, HW1.out]
  go_cut [5, 6, 7, 8] from 17 to 90 (fun _ _ _ _ wx => ∃ (vl : Value) (us : List Value) (A : List (List UInt8)) (t : List UInt8), RecI w wx gr G vl us A R.b t ∧ lastF R.b = endF fz A)
  case first =>
    go_wp2_with fail
    go_loopg [5, 6, 7, 8] (bn + 1) (fun gk _ _ _ _ wr => ∃ (vl : Value) (us : List Value) (A : List (List UInt8)) (t : List UInt8), gk = t.length + 1 ∧ RecI w wr gr G vl us A R.b t)
    case atStart => exact ⟨_, _, _, _, by rw [HBN.out], I1.out⟩
    case round =>
      obtain ⟨vl, us, A, t, rfl, hi⟩ := hrel
      have HI := Lw.hid hi
      obtain ⟨adl, capl, rfl, hl1, hl2, _⟩ := own_slice hi.l.own
      obtain ⟨na, hna⟩ : ∃ n, A.length = n := ⟨_, rfl⟩
      obtain ⟨tn, htn⟩ : ∃ n, t.length = n := ⟨_, rfl⟩
      obtain ⟨fn, hfn⟩ : ∃ n, (endF fz A).fin = n := ⟨_, rfl⟩
      obtain ⟨sm, hsm'⟩ : ∃ n, (endF fz A).sum = n := ⟨_, rfl⟩
      have hsm : sm < 4294967296 := by rw [← hsm']; exact sum_ok A
      have hna9 : na ≤ 104858 := by rw [← hna]; exact hi.r.few
      have htd := hi.r.drop
      have htf := hi.r.fin
      rw [hfn, htn, HBN.out] at htf
      rw [hfn] at htd
      have e1 := heap_cell hi.l.box 1; have e2 := heap_cell hi.l.box 2; have e3 := heap_cell hi.l.box 3
      rw [hfn] at e2; rw [hsm'] at e3
      rw [hna] at hl1 HI e1
      have H0 := Lw.hid (HRD.out.kept hi.k (fun _ _ h => h))
      have c1 := hi.k.cell c1 (fun h => h)
      have HNA := Lw.hid hna; have HTL := Lw.hid htn; have HFN := Lw.hid hfn; have HSM := Lw.hid hsm'; have HTD := Lw.hid htd; have HTN := Lw.hid htf
      have hfb : fn ≤ bn := by omega
      have hwG : Hid (∀ k, blk (.slice adr bn capr) k → ¬ blk (.slice adl na capl) k) := Lw.hid (fun k hk e => by have := HVL.out k hk; have := (hi.l.qv k (by rw [hna]; exact e)).1; omega)
      have htn9 : tn ≤ bn := by omega
      unfold maxLen at hl2
      clear hi hna htn hfn hsm' htd htf
      go_wp2_with fail
      refine wp_region_tail 9 [stV (.pointer (some ⟨gr, 0, none⟩)), stV (.pointer (some ⟨gr, 0, none⟩)), stV (.pointer (some ⟨gr, 1, none⟩)), stV (.slice adr bn capr), stV (.pointer (some ⟨G, 0, none⟩)), stV (.pointer (some ⟨G, 0, none⟩)), stV (.pointer (some ⟨G, 2, none⟩)), stV (.int .i64 (fn : Int)), stIn (.slice adr bn capr) t] (by kernel_rfl) (by kernel_rfl) ?_ ?_
      · -- each operation by itself
        refine ssteps_cons (fun a' w' hI hag hf K hK => ?_) ?_
        · have s0 := hag.same 0 (by decide)
          clear hag
          go_wp2_with fail
          exact hK _ _ hI (Kept.refl _ _) rfl
        refine ssteps_cons (fun a' w' hI hag hf K hK => ?_) ?_
        · obtain ⟨⟨_, h0, rfl⟩, -⟩ : SFacts _ _ a' w' [0] := hf
          clear hag
          go_wp2_with fail
          exact hK _ _ hI (Kept.refl _ _) rfl
        refine ssteps_cons (fun a' w' hI hag hf K hK => ?_) ?_
        · obtain ⟨⟨_, h1, rfl⟩, -⟩ : SFacts _ _ a' w' [1] := hf
          clear hag
          go_wp2_with fail
          exact hK _ _ hI (Kept.refl _ _) rfl
        refine ssteps_cons (fun a' w' hI hag hf K hK => ?_) ?_
        · obtain ⟨⟨_, h2, rfl⟩, -⟩ : SFacts _ _ a' w' [2] := hf
          clear hag
          have HI' := Lw.hid hI
          have cc := hI.cell c1 (fun h => h)
          clear hI
          go_wp2_with fail
          exact hK _ _ HI'.out (Kept.refl _ _) rfl
        refine ssteps_cons (fun a' w' hI hag hf K hK => ?_) ?_
        · have s4 := hag.same 4 (by decide)
          clear hag
          go_wp2_with fail
          exact hK _ _ hI (Kept.refl _ _) rfl
        refine ssteps_cons (fun a' w' hI hag hf K hK => ?_) ?_
        · obtain ⟨⟨_, h4, rfl⟩, -⟩ : SFacts _ _ a' w' [4] := hf
          clear hag
          go_wp2_with fail
          exact hK _ _ hI (Kept.refl _ _) rfl
        refine ssteps_cons (fun a' w' hI hag hf K hK => ?_) ?_
        · obtain ⟨⟨_, h5, rfl⟩, -⟩ : SFacts _ _ a' w' [5] := hf
          clear hag
          go_wp2_with fail
          exact hK _ _ hI (Kept.refl _ _) rfl
        refine ssteps_cons (fun a' w' hI hag hf K hK => ?_) ?_
        · obtain ⟨⟨_, h6, rfl⟩, -⟩ : SFacts _ _ a' w' [6] := hf
          clear hag
          have HI' := Lw.hid hI
          have cc := hI.cell e2 (fun h => h)
          clear hI
          go_wp2_with fail
          exact hK _ _ HI'.out (Kept.refl _ _) rfl
        refine ssteps_cons (fun a' w' hI hag hf K hK => ?_) ?_
        · obtain ⟨⟨_, h3, rfl⟩, ⟨_, h7, rfl⟩, -⟩ : SFacts _ _ a' w' [3, 7] := hf
          clear hag
          have HI' := Lw.hid hI
          clear hI
          refine wpList_slice_l rfl _ _ _ rfl EB (.slice adr bn capr) bn _ .i64 (fn : Int) fn (by simp [Act.eval, h3]) (by simp [Act.eval, h7]) (rd_cast HBN.out ((H0.out.kept HI'.out (fun _ _ h => h)))) rfl (by have := HTN.out; omega) (fun ad6 c6 hr hb => ?_)
          exact hK _ _ HI'.out (Kept.refl _ _) ⟨by have := RdB.of_drop (n := fn) (l := R.b) (by rw [HBN.out]; exact hr); rwa [HTD.out] at this, hb⟩
        exact trivial
      intro vs w5 hI hvs
      have q0 : vs 0 = (.pointer (some ⟨gr, 0, none⟩)) := hvs 0 _ _ rfl rfl
      have q1 : vs 1 = (.pointer (some ⟨gr, 0, none⟩)) := hvs 1 _ _ rfl rfl
      have q2 : vs 2 = (.pointer (some ⟨gr, 1, none⟩)) := hvs 2 _ _ rfl rfl
      have q3 : vs 3 = (.slice adr bn capr) := hvs 3 _ _ rfl rfl
      have q4 : vs 4 = (.pointer (some ⟨G, 0, none⟩)) := hvs 4 _ _ rfl rfl
      have q5 : vs 5 = (.pointer (some ⟨G, 0, none⟩)) := hvs 5 _ _ rfl rfl
      have q6 : vs 6 = (.pointer (some ⟨G, 2, none⟩)) := hvs 6 _ _ rfl rfl
      have q7 : vs 7 = (.int .i64 (fn : Int)) := hvs 7 _ _ rfl rfl
      have q8 := hvs 8 _ _ rfl rfl
      clear hvs
      simp only [List.take_succ_cons, List.take_zero, List.drop_succ_cons, List.drop_zero, putAll, Act.put, List.setIfInBounds_toArray, List.set_cons_zero, List.set_cons_succ, Nat.reduceAdd, q0, q1, q2, q3, q4, q5, q6, q7]
      clear q0 q1 q2 q3 q4 q5 q6 q7
      generalize vs 8 = x8 at *
      have K5 := Lw.hid hI
      have RT := Lw.hid (show RdB w5 x8 t from q8.1)
      have HTB := Lw.hid (show ∀ k, blk x8 k → blk (.slice adr bn capr) k from q8.2)
      clear hI q8
      obtain ⟨adt, capt, htt, ht1, ht2, _⟩ := RT.out.open
      rw [HTL.out] at htt ht1
      subst htt
      unfold maxLen at ht2
      by_cases h10 : tn < 10
      · have hq : decide ((tn : Int) < 10) = true := by simp; omega
        have HLA : Hid (lastF R.b = endF fz A) := Lw.hid (HI.out.r.short (by rw [HTL.out]; omega))
        go_wp2_with fail
        go_meet
        case rel => exact ⟨_, _, _, _, HI.out.keptF K5.out, HLA.out⟩
      · have hq : decide ((tn : Int) < 10) = false := by simp; omega
        obtain ⟨mn, hmn⟩ : ∃ m, beVal (t.take 2) = m := ⟨_, rfl⟩
        have hmn9 : mn < 65536 := by
          have := beVal_lt (t.take 2)
          rw [List.length_take, HTL.out, Nat.min_eq_left (by omega), hmn] at this
          omega
        have HMN := Lw.hid hmn
        clear hmn
        go_wp2_with (refine wpList_slice_h rfl _ _ _ rfl EB (.slice adt tn capt) tn _ .i64 2 2 rfl rfl (rd_cast HTL.out RT.out) rfl (by omega) ?_; intro ad7 c7 hr7 hb7; have HR7 := Lw.hid (show RdB w5 (.slice ad7 2 c7) (t.take 2) from RdB.of_take (by rw [HTL.out]; omega) hr7); clear hr7 hb7)
        refine (rnum_any w5 _ _ HR7.out (by rw [List.length_take]; omega)).mono ?_
        rintro e _ ⟨rfl, rfl⟩
        rw [HMN.out]
        by_cases hlen : tn < 10 + mn
        · have hq2 : decide ((tn : Int) < 10 + (mn : Int)) = true := by simp; omega
          have HLA : Hid (lastF R.b = endF fz A) := Lw.hid (HI.out.r.short (by rw [HTL.out, HMN.out]; exact hlen))
          go_wp2_with fail
          go_meet
          case rel => exact ⟨_, _, _, _, HI.out.keptF K5.out, HLA.out⟩
        · have hq2 : decide ((tn : Int) < 10 + (mn : Int)) = false := by simp; omega
          obtain ⟨nu, hnu⟩ : ∃ m, beVal ((t.drop 2).take 4) = m := ⟨_, rfl⟩
          have hnu9 : nu < 4294967296 := by
            have := beVal_lt ((t.drop 2).take 4)
            rw [List.length_take, List.length_drop, HTL.out, Nat.min_eq_left (by omega), hnu] at this
            omega
          have HNU := Lw.hid hnu
          clear hnu
          go_wp2_with (refine wpList_slice_lh rfl _ _ _ _ rfl EB (.slice adt tn capt) tn _ .i64 .i64 2 6 2 6 rfl rfl rfl (rd_cast HTL.out RT.out) rfl rfl (by omega) (by omega) ?_; intro ad8 c8 hr8 hb8; have HR8 := Lw.hid (show RdB w5 (.slice ad8 (6 - 2) c8) ((t.drop 2).take 4) from RdB.of_mid (m := 2) (n := 6) (l := t) (by rw [HTL.out]; omega) hr8); clear hr8 hb8)
          refine (rnum_any w5 _ _ HR8.out (by rw [List.length_take]; omega)).mono ?_
          rintro e _ ⟨rfl, rfl⟩
          rw [HNU.out]
          go_wp2_with fail
          refine (rnext_any w5 G gr _ (endF fz A) na (K5.out.heap HI.out.l.box (fun h => h)) ⟨_, _, rfl⟩ (by omega)).mono ?_
          rintro e _ ⟨rfl, rfl⟩
          by_cases hnn : nu = na + 1
          · subst hnn
            have hq3 : (((na + 1 : Nat) : Int) != ((na + 1 : Nat) : Int)) = false := by rw [bne_eq_false_iff_eq]
            have hq3' : (((na : Int) + 1) != ((na : Int) + 1)) = false := by rw [bne_eq_false_iff_eq]
            obtain ⟨p, hp⟩ : ∃ p, (t.drop 10).take mn = p := ⟨_, rfl⟩
            have hpl : p.length = mn := by rw [← hp, List.length_take, List.length_drop, HTL.out]; omega
            obtain ⟨cs, hcs⟩ : ∃ c, checkN sm (na + 1) p = c := ⟨_, rfl⟩
            have hcs9 : cs < 4294967296 := by rw [← hcs]; exact checkN_lt _ _ _
            have HP := Lw.hid hp; have HPL := Lw.hid hpl; have HCS := Lw.hid hcs
            clear hp hpl hcs
            go_wp2_with fail
            refine wp_region_tail 11 [stV (.pointer (some ⟨G, 0, none⟩)), stV (.pointer (some ⟨G, 0, none⟩)), stV (.pointer (some ⟨G, 3, none⟩)), stV (.int .u32 (sm : Int)), stV (.pointer (some ⟨G, 0, none⟩)), stV (.int .u32 ((na + 1 : Nat) : Int)), stV (.slice adt tn capt), stV (.int .i64 (mn : Int)), stV (.int .i64 ((10 + mn : Nat) : Int)), stB p, stV (.int .u32 (cs : Int))] (by kernel_rfl) (by kernel_rfl) ?_ ?_
            · -- each operation by itself
              refine ssteps_cons (fun a' w' hI hag hf K hK => ?_) ?_
              · have s4 := hag.same 4 (by decide)
                clear hag
                go_wp2_with fail
                exact hK _ _ hI (Kept.refl _ _) rfl
              refine ssteps_cons (fun a' w' hI hag hf K hK => ?_) ?_
              · obtain ⟨⟨_, h0, rfl⟩, -⟩ : SFacts _ _ a' w' [0] := hf
                clear hag
                go_wp2_with fail
                exact hK _ _ hI (Kept.refl _ _) rfl
              refine ssteps_cons (fun a' w' hI hag hf K hK => ?_) ?_
              · obtain ⟨⟨_, h1, rfl⟩, -⟩ : SFacts _ _ a' w' [1] := hf
                clear hag
                go_wp2_with fail
                exact hK _ _ hI (Kept.refl _ _) rfl
              refine ssteps_cons (fun a' w' hI hag hf K hK => ?_) ?_
              · obtain ⟨⟨_, h2, rfl⟩, -⟩ : SFacts _ _ a' w' [2] := hf
                clear hag
                have HI' := Lw.hid hI
                have cc := (K5.out.trans hI (fun _ _ h => h)).cell e3 (fun h => h)
                clear hI
                go_wp2_with fail
                exact hK _ _ HI'.out (Kept.refl _ _) rfl
              refine ssteps_cons (fun a' w' hI hag hf K hK => ?_) ?_
              · have s4 := hag.same 4 (by decide)
                clear hag
                go_wp2_with fail
                exact hK _ _ hI (Kept.refl _ _) rfl
              refine ssteps_cons (fun a' w' hI hag hf K hK => ?_) ?_
              · obtain ⟨⟨_, h4, rfl⟩, -⟩ : SFacts _ _ a' w' [4] := hf
                clear hag
                have HI' := Lw.hid hI
                clear hI
                go_wp2_with fail
                refine (rnext_any w' G gr _ (endF fz A) na ((K5.out.trans HI'.out (fun _ _ h => h)).heap HI.out.l.box (fun h => h)) ⟨_, _, rfl⟩ (by omega)).mono ?_
                rintro e _ ⟨rfl, rfl⟩
                go_wp2_with fail
                exact hK _ _ HI'.out (Kept.refl _ _) rfl
              refine ssteps_cons (fun a' w' hI hag hf K hK => ?_) ?_
              · have s5 := hag.same 5 (by decide)
                clear hag
                go_wp2_with fail
                exact hK _ _ hI (Kept.refl _ _) rfl
              refine ssteps_cons (fun a' w' hI hag hf K hK => ?_) ?_
              · have s6 := hag.same 6 (by decide)
                clear hag
                go_wp2_with fail
                exact hK _ _ hI (Kept.refl _ _) rfl
              refine ssteps_cons (fun a' w' hI hag hf K hK => ?_) ?_
              · obtain ⟨⟨_, h7, rfl⟩, -⟩ : SFacts _ _ a' w' [7] := hf
                clear hag
                have HI' := Lw.hid hI
                clear hI
                go_wp2_with fail
                exact hK _ _ HI'.out (Kept.refl _ _) (congrArg (Value.int .i64) (by omega))
              refine ssteps_cons (fun a' w' hI hag hf K hK => ?_) ?_
              · obtain ⟨⟨_, h6, rfl⟩, ⟨_, h8, rfl⟩, -⟩ : SFacts _ _ a' w' [6, 8] := hf
                clear hag
                have HI' := Lw.hid hI
                clear hI
                refine wpList_slice_lh rfl _ _ _ _ rfl EB (.slice adt tn capt) tn _ .i64 .i64 10 ((10 + mn : Nat) : Int) 10 (10 + mn) (by simp [Act.eval, h6]) rfl (by simp [Act.eval, h8]) (rd_cast HTL.out (RT.out.kept HI'.out (fun _ _ h => h))) rfl rfl (by omega) (by omega) (fun ad6 c6 hr hb => ?_)
                exact hK _ _ HI'.out (Kept.refl _ _) (show RdB w' (.slice ad6 (10 + mn - 10) c6) p from by have := RdB.of_mid (m := 10) (n := 10 + mn) (l := t) (by rw [HTL.out]; omega) hr; rw [show 10 + mn - 10 = mn by omega] at this ⊢; rw [HP.out] at this; exact this)
              refine ssteps_cons (fun a' w' hI hag hf K hK => ?_) ?_
              · obtain ⟨⟨_, h3, rfl⟩, ⟨_, h5, rfl⟩, ⟨v9, h9, e9⟩, -⟩ : SFacts _ _ a' w' [3, 5, 9] := hf
                clear hag
                have HI' := Lw.hid hI
                clear hI
                obtain ⟨adp, capp, rfl, _, _, _⟩ := RdB.open e9
                have E9 := Lw.hid e9
                obtain ⟨pl, hpl⟩ : ∃ pl, p.length = pl := ⟨_, rfl⟩
                rw [hpl] at h9 E9
                clear hpl e9
                go_wp2_with fail
                refine (rcheck_any w' sm (na + 1) _ p E9.out (by rw [HPL.out]; omega) hsm (by omega)).mono ?_
                rintro e w2 ⟨rfl, hk⟩
                rw [HCS.out]
                go_wp2_with fail
                exact hK _ _ (HI'.out.trans hk (fun _ _ h => h)) hk rfl
              exact trivial
            intro vs w6 hI hvs
            have q0 : vs 0 = (.pointer (some ⟨G, 0, none⟩)) := hvs 0 _ _ rfl rfl
            have q1 : vs 1 = (.pointer (some ⟨G, 0, none⟩)) := hvs 1 _ _ rfl rfl
            have q2 : vs 2 = (.pointer (some ⟨G, 3, none⟩)) := hvs 2 _ _ rfl rfl
            have q3 : vs 3 = (.int .u32 (sm : Int)) := hvs 3 _ _ rfl rfl
            have q4 : vs 4 = (.pointer (some ⟨G, 0, none⟩)) := hvs 4 _ _ rfl rfl
            have q5 : vs 5 = (.int .u32 ((na + 1 : Nat) : Int)) := hvs 5 _ _ rfl rfl
            have q6 : vs 6 = (.slice adt tn capt) := hvs 6 _ _ rfl rfl
            have q7 : vs 7 = (.int .i64 (mn : Int)) := hvs 7 _ _ rfl rfl
            have q8 : vs 8 = (.int .i64 ((10 + mn : Nat) : Int)) := hvs 8 _ _ rfl rfl
            have q9 := hvs 9 _ _ rfl rfl
            have q10 : vs 10 = (.int .u32 (cs : Int)) := hvs 10 _ _ rfl rfl
            clear hvs
            simp only [List.take_succ_cons, List.take_zero, List.drop_succ_cons, List.drop_zero, putAll, Act.put, List.setIfInBounds_toArray, List.set_cons_zero, List.set_cons_succ, Nat.reduceAdd, q0, q1, q2, q3, q4, q5, q6, q7, q8, q10]
            clear q0 q1 q2 q3 q4 q5 q6 q7 q8 q10
            generalize vs 9 = x9 at *
            have K6 := Lw.hid (K5.out.trans hI (fun _ _ h => h))
            have RT6 := Lw.hid (RT.out.kept hI (fun _ _ h => h))
            clear hI
            obtain ⟨sb, hsb⟩ : ∃ m, beVal ((t.drop 6).take 4) = m := ⟨_, rfl⟩
            have hsb9 : sb < 4294967296 := by
              have := beVal_lt ((t.drop 6).take 4)
              rw [List.length_take, List.length_drop, HTL.out, Nat.min_eq_left (by omega), hsb] at this
              omega
            have HSB := Lw.hid hsb
            clear hsb
            go_wp2_with (refine wpList_slice_lh rfl _ _ _ _ rfl EB (.slice adt tn capt) tn _ .i64 .i64 6 10 6 10 rfl rfl rfl (rd_cast HTL.out RT6.out) rfl rfl (by omega) (by omega) ?_; intro ad9 c9 hr9 hb9; have HR9 := Lw.hid (show RdB w6 (.slice ad9 (10 - 6) c9) ((t.drop 6).take 4) from RdB.of_mid (m := 6) (n := 10) (l := t) (by rw [HTL.out]; omega) hr9); clear hr9 hb9)
            refine (rnum_any w6 _ _ HR9.out (by rw [List.length_take]; omega)).mono ?_
            rintro e _ ⟨rfl, rfl⟩
            rw [HSB.out]
            by_cases hsc : sb = cs
            · subst hsc
              have hfr := HI.out.r.frame (by rw [HMN.out, HTL.out]; omega) (by rw [HNU.out, HNA.out]) (by rw [HSB.out, HMN.out, HP.out, HSM.out, HNA.out, HCS.out])
              rw [HMN.out, HP.out] at hfr
              have HR' := Lw.hid hfr.1
              have hmn5 := hfr.2.2
              have HVL6 : Hid (∀ k, blk (.slice adl na capl) k → k < w6.heap.size) := Lw.hid (fun k hk => by have h1 := (HI.out.l.qv k hk).2; have h2 := K6.out.size; omega)
              have hq4 : ((sb : Int) != (sb : Int)) = false := by rw [bne_eq_false_iff_eq]
              clear hfr
              go_wp2_with fail
              refine wp_region_link 15 12 (blk (.slice adl na capl)) (fun s w' => if s = 0 then Kept (fun _ => False) w6 w' else Kept (blk (.slice adl na capl)) w6 w') (stRow w6.heap.size (.slice adl na capl) us (na + 1) p) [rV (.pointer (some ⟨G, 0, none⟩)), rV (.pointer (some ⟨G, 0, none⟩)), rV (.pointer (some ⟨G, 0, none⟩)), rV (.pointer (some ⟨G, 1, none⟩)), rV (.slice adl na capl), rV (.slice none 0 0), rV (.slice adt tn capt), rV (.int .i64 (mn : Int)), rV (.int .i64 ((10 + mn : Nat) : Int)), rRB (.slice adl na capl) p, rOwn (.slice adl na capl) w6.heap.size HVL6.out p, rBS (.slice adl na capl) w6.heap.size HVL6.out p, rV (.bool true), rV (.pointer (some ⟨G, 0, none⟩)), rV (.pointer (some ⟨G, 1, none⟩))] (by kernel_rfl) (by kernel_rfl) ?_ ?_ ?_
              case refine_1 => exact (Kept.refl _ _).drew
              case refine_2 =>
                refine lk_free (by decide) (fun s a' w' hI hag hf K hK => ?_) ?_
                · have s4 := hag.same 4 (by decide)
                  clear hag
                  go_wp2_with fail
                  exact hK _ _ hI (Kept.refl _ _) rfl
                refine lk_pre (by decide) (by kernel_rfl) (fun a' w' hI hag hf K hK => ?_) ?_
                · have s4 := hag.same 4 (by decide)
                  clear hag
                  go_wp2_with fail
                  exact hK _ _ hI (Kept.refl _ _) rfl
                refine lk_pre (by decide) (by kernel_rfl) (fun a' w' hI hag hf K hK => ?_) ?_
                · obtain ⟨⟨_, h1, rfl⟩, -⟩ : SFacts _ _ a' w' [1] := hf
                  clear hag
                  go_wp2_with fail
                  exact hK _ _ hI (Kept.refl _ _) rfl
                refine lk_pre (by decide) (by kernel_rfl) (fun a' w' hI hag hf K hK => ?_) ?_
                · obtain ⟨⟨_, h2, rfl⟩, -⟩ : SFacts _ _ a' w' [2] := hf
                  clear hag
                  go_wp2_with fail
                  exact hK _ _ hI (Kept.refl _ _) rfl
                refine lk_pre (by decide) (by kernel_rfl) (fun a' w' hI hag hf K hK => ?_) ?_
                · obtain ⟨⟨_, h3, rfl⟩, -⟩ : SFacts _ _ a' w' [3] := hf
                  clear hag
                  have HI' := Lw.hid hI
                  have cc := (K6.out.trans hI (fun _ _ h => h)).cell e1 (fun h => h)
                  clear hI
                  go_wp2_with fail
                  exact hK _ _ HI'.out (Kept.refl _ _) rfl
                refine lk_pre (by decide) (by kernel_rfl) (fun a' w' hI hag hf K hK => ?_) ?_
                · have s8 := hag.same 8 (by decide)
                  clear hag
                  go_wp2_with fail
                  exact hK _ _ hI (Kept.refl _ _) rfl
                refine lk_pre (by decide) (by kernel_rfl) (fun a' w' hI hag hf K hK => ?_) ?_
                · have s5 := hag.same 5 (by decide)
                  clear hag
                  go_wp2_with fail
                  exact hK _ _ hI (Kept.refl _ _) rfl
                refine lk_pre (by decide) (by kernel_rfl) (fun a' w' hI hag hf K hK => ?_) ?_
                · have s6 := hag.same 6 (by decide)
                  clear hag
                  go_wp2_with fail
                  exact hK _ _ hI (Kept.refl _ _) rfl
                refine lk_pre (by decide) (by kernel_rfl) (fun a' w' hI hag hf K hK => ?_) ?_
                · obtain ⟨⟨_, h7, rfl⟩, -⟩ : SFacts _ _ a' w' [7] := hf
                  clear hag
                  have HI' := Lw.hid hI
                  clear hI
                  go_wp2_with fail
                  exact hK _ _ HI'.out (Kept.refl _ _) (congrArg (Value.int .i64) (by omega))
                refine lk_pre (by decide) (by kernel_rfl) (fun a' w' hI hag hf K hK => ?_) ?_
                · obtain ⟨⟨_, h6, rfl⟩, ⟨_, h8, rfl⟩, -⟩ : SFacts _ _ a' w' [6, 8] := hf
                  clear hag
                  have HI' := Lw.hid hI
                  clear hI
                  refine wpList_slice_lh rfl _ _ _ _ rfl EB (.slice adt tn capt) tn _ .i64 .i64 10 ((10 + mn : Nat) : Int) 10 (10 + mn) (by simp [Act.eval, h6]) rfl (by simp [Act.eval, h8]) (rd_cast HTL.out (RT6.out.kept HI'.out (fun _ _ h => h))) rfl rfl (by omega) (by omega) (fun ad6 c6 hr hb => ?_)
                  refine hK _ _ HI'.out (Kept.refl _ _) ⟨show RdB w' (.slice ad6 (10 + mn - 10) c6) p from by have := RdB.of_mid (m := 10) (n := 10 + mn) (l := t) (by rw [HTL.out]; omega) hr; rw [show 10 + mn - 10 = mn by omega] at this ⊢; rw [HP.out] at this; exact this, fun k hk => hwG.out k (HTB.out k (hb k hk))⟩
                refine lk_pre (by decide) (by kernel_rfl) (fun a' w' hI hag hf K hK => ?_) ?_
                · obtain ⟨⟨_, h5, rfl⟩, ⟨v9, h9, e9⟩, -⟩ : SFacts _ _ a' w' [5, 9] := hf
                  clear hag
                  have HI' := Lw.hid hI
                  clear hI
                  obtain ⟨adp, capp, rfl, _, _, _⟩ := RdB.open e9.1
                  have E9 := Lw.hid e9.1
                  obtain ⟨pl, hpl⟩ : ∃ pl, p.length = pl := ⟨_, rfl⟩
                  have HPLL := Lw.hid hpl
                  have hplm : pl = mn := by rw [← hpl]; exact HPL.out
                  rw [hpl] at h9 E9
                  clear hpl e9
                  refine wpList_app rfl _ _ _ rfl EB (.slice none 0 0) 0 [] (by simp [Act.eval, h5]) (World.ownsRow_nil _ 0 _ 1) (.slice adp pl capp) pl _ (by simp [Act.eval, h9]) (rd_cast HPLL.out E9.out) (bytes_oneCell _) (by unfold maxLen; omega) (by omega) (fun ad2 cap2 wx2 ho hg hf => ?_)
                  have hk2 : Kept (fun _ => False) w' wx2 := (Kept.refl _ _).grown hg (fun k e _ => by cases e)
                  exact hK _ _ (HI'.out.trans hk2 (fun _ _ h => h)) hk2 ⟨by rw [HPLL.out]; simpa using ho, fun k hk => by rcases hf k (by simpa using hk) with e | e; exact (blk_none e).elim; have := HI'.out.size; omega⟩
                refine lk_pre (by decide) (by kernel_rfl) (fun a' w' hI hag hf K hK => ?_) ?_
                · obtain ⟨⟨v10, h10, e10⟩, -⟩ : SFacts _ _ a' w' [10] := hf
                  clear hag
                  have HI' := Lw.hid hI
                  clear hI
                  obtain ⟨adp, capp, rfl, _, _, _⟩ := own_slice e10.1
                  have E10 := Lw.hid e10
                  obtain ⟨pl, hpl⟩ : ∃ pl, p.length = pl := ⟨_, rfl⟩
                  rw [hpl] at h10 E10
                  clear hpl e10
                  go_wp2_with fail
                  refine hK _ _ (HI'.out.alloc _) ((Kept.refl _ _).alloc _) ⟨_, Rd.lit w' [.slice adp pl capp] 38 1 w'.heap.size 1 rfl rfl (by decide), ⟨own_kept ((Kept.refl (fun _ => False) w').alloc _) E10.out.1 (fun _ _ h => h), E10.out.2⟩, fun k hk => by have := blk_some hk; have h2 := HI'.out.size; dsimp only at this; omega⟩
                refine lk_hit (fun a' w' hI hag hf K hK => ?_) ?_
                · obtain ⟨⟨_, h4, rfl⟩, ⟨v11, h11, e11⟩, -⟩ : SFacts _ _ a' w' [4, 11, 10] := hf
                  clear hag
                  have HI' := Lw.hid hI
                  clear hI
                  obtain ⟨u, hu1, hu2, hu3⟩ := e11
                  obtain ⟨adb, capb, rfl, _, _, _⟩ := hu1.2
                  obtain ⟨adu, capu, rfl, _, _, _⟩ := own_slice hu2.1
                  refine wpList_app rfl _ _ _ rfl EL (.slice adl na capl) na us (by simp [Act.eval, h4]) (own_kept HI'.out (own_kept K6.out (by have := HI.out.l.own; rwa [HNA.out] at this) (fun _ _ h => h)) (fun _ _ h => h)) _ 1 _ (by simp [Act.eval, h11]) hu1 (oneS (RdB.of_own hu2.1 rfl)) (by unfold maxLen; omega) (by omega) (fun ad2 cap2 wx2 ho hg hf => ?_)
                  have hk2 : Kept (blk (.slice adl na capl)) w' wx2 := (Kept.refl _ _).grown hg (fun k e _ => e)
                  have hlt := own_lt hu2.1
                  refine hK _ _ (HI'.out.mono (fun _ _ h => h.elim) |>.trans hk2 (fun _ _ h => h)) hk2 ⟨_, ho, fun k hk => (hf k hk).imp id (fun h => by have := HI'.out.size; omega), (RdB.of_own hu2.1 rfl).kept hk2 (fun k hk e => by have := hu2.2 k hk; have := HVL6.out k e; omega), fun k hk => ⟨hu2.2 k hk, fun e => ?_⟩, ⟨_, _, rfl⟩⟩
                  rcases hf k e with e | e
                  · have := hu2.2 k hk; have := HVL6.out k e; omega
                  · have := hlt k hk; omega
                refine lk_free (by decide) (fun s a' w' hI hag hf K hK => ?_) ?_
                · obtain ⟨⟨_, h0, rfl⟩, -⟩ : SFacts _ _ a' w' [0, 1, 2, 3, 4, 5, 6, 7, 8, 9, 10, 11, 12] := hf
                  clear hag
                  go_wp2_with fail
                  exact hK _ _ hI (Kept.refl _ _) rfl
                refine lk_free (by decide) (fun s a' w' hI hag hf K hK => ?_) ?_
                · obtain ⟨⟨_, h13, rfl⟩, -⟩ : SFacts _ _ a' w' [13, 0, 1, 2, 3, 4, 5, 6, 7, 8, 9, 10, 11, 12] := hf
                  clear hag
                  go_wp2_with fail
                  exact hK _ _ hI (Kept.refl _ _) rfl
                exact trivial
              intro vs w7 hI hvs
              have q0 : vs 0 = (.pointer (some ⟨G, 0, none⟩)) := hvs 0 _ _ rfl rfl
              have q1 : vs 1 = (.pointer (some ⟨G, 0, none⟩)) := hvs 1 _ _ rfl rfl
              have q2 : vs 2 = (.pointer (some ⟨G, 0, none⟩)) := hvs 2 _ _ rfl rfl
              have q3 : vs 3 = (.pointer (some ⟨G, 1, none⟩)) := hvs 3 _ _ rfl rfl
              have q4 : vs 4 = (.slice adl na capl) := hvs 4 _ _ rfl rfl
              have q5 : vs 5 = (.slice none 0 0) := hvs 5 _ _ rfl rfl
              have q6 : vs 6 = (.slice adt tn capt) := hvs 6 _ _ rfl rfl
              have q7 : vs 7 = (.int .i64 (mn : Int)) := hvs 7 _ _ rfl rfl
              have q8 : vs 8 = (.int .i64 ((10 + mn : Nat) : Int)) := hvs 8 _ _ rfl rfl
              have q9 := hvs 9 _ _ rfl rfl
              have q10 := hvs 10 _ _ rfl rfl
              have q11 := hvs 11 _ _ rfl rfl
              have q12 : (stRow w6.heap.size (.slice adl na capl) us (na + 1) p).1 (vs 12) w7 := hvs 12 _ _ rfl rfl
              have q13 : vs 13 = (.pointer (some ⟨G, 0, none⟩)) := hvs 13 _ _ rfl rfl
              have q14 : vs 14 = (.pointer (some ⟨G, 1, none⟩)) := hvs 14 _ _ rfl rfl
              clear hvs
              simp only [List.take_succ_cons, List.take_zero, List.drop_succ_cons, List.drop_zero, putAll, Act.put, List.setIfInBounds_toArray, List.set_cons_zero, List.set_cons_succ, Nat.reduceAdd, q0, q1, q2, q3, q4, q5, q6, q7, q8, q13, q14]
              clear q0 q1 q2 q3 q4 q5 q6 q7 q8 q13 q14
              generalize vs 9 = x9 at *
              generalize vs 10 = x10 at *
              generalize vs 11 = x11 at *
              generalize vs 12 = x12 at *
              have K7 : Hid (Kept (blk (.slice adl na capl)) w6 w7) := Lw.hid hI
              have Q12 : Hid (IsRow w6.heap.size (.slice adl na capl) us (na + 1) p x12 w7) := Lw.hid q12
              clear hI q12 q9 q10 q11
              obtain ⟨_, _, _, _, _, adx, capx, rfl⟩ := id Q12.out
              have bx7 := K7.out.heap (K6.out.heap HI.out.l.box (fun h => h)) HI.out.l.ap
              have g2 : w7.cell? ⟨G, 2, none⟩ = some (.int .i64 (fn : Int)) := by rw [← HFN.out]; exact heap_cell bx7 2
              have g1 := heap_cell bx7 1; have g3 := heap_cell bx7 3
              have f1 := heap_free bx7 1; have f2 := heap_free bx7 2; have f3 := heap_free bx7 3
              have e9 : ((endF fz (A ++ [p])).fin : Int) = (fn : Int) + 10 + (mn : Int) := by rw [end_snoc]; show (((endF fz A).fin + 10 + p.length : Nat) : Int) = _; rw [HFN.out, HPL.out]; omega
              have e8 : ((endF fz (A ++ [p])).sum : Int) = (sb : Int) := by rw [end_snoc]; show ((checkN (endF fz A).sum (nextN (endF fz A)) p : Nat) : Int) = _; rw [HI.out.r.num, HSM.out, HNA.out, HCS.out]
              have HST7 := Lw.hid (RecI.step HI.out K6.out K7.out (by rw [HNA.out]) Q12.out HR'.out e9 e8)
              have htd9 : (t.drop (10 + mn)).length = tn - (10 + mn) := by rw [List.length_drop, HTL.out]
              have HTD9 := Lw.hid htd9
              clear bx7 e9 e8 htd9
              go_wp2_with fail
              obtain ⟨u, hst7⟩ := HST7.out
              go_roundg ((t.drop (10 + mn)).length + 1)
              case measure => rw [HTD9.out, HTL.out]; omega
              case rel => exact ⟨_, _, _, _, rfl, hst7⟩
            · have hq4 : ((sb : Int) != (cs : Int)) = true := by rw [bne_iff_ne]; omega
              have HLA : Hid (lastF R.b = endF fz A) := Lw.hid (HI.out.r.wrong (by rw [HNU.out, HNA.out]) (by rw [HSB.out, HMN.out, HP.out, HSM.out, HNA.out, HCS.out]; exact hsc))
              go_wp2_with fail
              go_meet
              case rel => exact ⟨_, _, _, _, HI.out.keptF K6.out, HLA.out⟩
          · have hq3 : ((nu : Int) != ((na + 1 : Nat) : Int)) = true := by rw [bne_iff_ne]; omega
            have hq3' : ((nu : Int) != (na : Int) + 1) = true := by rw [bne_iff_ne]; omega
            have HLA : Hid (lastF R.b = endF fz A) := Lw.hid (HI.out.r.other (by rw [HNU.out, HNA.out]; exact hnn))
            go_wp2_with fail
            go_meet
            case rel => exact ⟨_, _, _, _, HI.out.keptF K5.out, HLA.out⟩
  case rest =>
    obtain ⟨vl, us, A, t, hi, hla⟩ := hcut
    have HI := Lw.hid hi; have HLA := Lw.hid hla
    obtain ⟨adl, capl, rfl, _, _, _⟩ := own_slice hi.l.own
    obtain ⟨fn, hfn⟩ : ∃ n, (endF fz A).fin = n := ⟨_, rfl⟩
    have htf := hi.r.fin
    rw [hfn, HBN.out] at htf
    have e2 := heap_cell hi.l.box 2
    rw [hfn] at e2
    have c1 := hi.k.cell c1 (fun h => h)
    have H1 := Lw.hid (H.out.kept hi.k (fun h => h) (fun _ _ h => h))
    have hGw := heap_lt hi.l.box
    obtain ⟨tn, htn⟩ : ∃ n, t.length = n := ⟨_, rfl⟩
    rw [htn] at htf
    have HFN := Lw.hid hfn; have HTF := Lw.hid htf; have HTL := Lw.hid htn
    have hfb : fn ≤ bn := by omega
    clear hi hla hfn htf htn
    go_wp2_with fail
    refine wp_region_tail 9 [stV (.pointer (some ⟨gr, 0, none⟩)), stV (.pointer (some ⟨gr, 0, none⟩)), stV (.pointer (some ⟨gr, 1, none⟩)), stV (.slice adr bn capr), stV (.int .i64 (bn : Int)), stV (.pointer (some ⟨G, 0, none⟩)), stV (.pointer (some ⟨G, 0, none⟩)), stV (.pointer (some ⟨G, 2, none⟩)), stV (.int .i64 (fn : Int))] (by kernel_rfl) (by kernel_rfl) ?_ ?_
    · -- each operation by itself
      refine ssteps_cons (fun a' w' hI hag hf K hK => ?_) ?_
      · have s0 := hag.same 0 (by decide)
        clear hag
        go_wp2_with fail
        exact hK _ _ hI (Kept.refl _ _) rfl
      refine ssteps_cons (fun a' w' hI hag hf K hK => ?_) ?_
      · obtain ⟨⟨_, h0, rfl⟩, -⟩ : SFacts _ _ a' w' [0] := hf
        clear hag
        go_wp2_with fail
        exact hK _ _ hI (Kept.refl _ _) rfl
      refine ssteps_cons (fun a' w' hI hag hf K hK => ?_) ?_
      · obtain ⟨⟨_, h1, rfl⟩, -⟩ : SFacts _ _ a' w' [1] := hf
        clear hag
        go_wp2_with fail
        exact hK _ _ hI (Kept.refl _ _) rfl
      refine ssteps_cons (fun a' w' hI hag hf K hK => ?_) ?_
      · obtain ⟨⟨_, h2, rfl⟩, -⟩ : SFacts _ _ a' w' [2] := hf
        clear hag
        have HI' := Lw.hid hI
        have cc := hI.cell c1 (fun h => h)
        clear hI
        go_wp2_with fail
        exact hK _ _ HI'.out (Kept.refl _ _) rfl
      refine ssteps_cons (fun a' w' hI hag hf K hK => ?_) ?_
      · obtain ⟨⟨_, h3, rfl⟩, -⟩ : SFacts _ _ a' w' [3] := hf
        clear hag
        go_wp2_with fail
        exact hK _ _ hI (Kept.refl _ _) rfl
      refine ssteps_cons (fun a' w' hI hag hf K hK => ?_) ?_
      · have s4 := hag.same 4 (by decide)
        clear hag
        go_wp2_with fail
        exact hK _ _ hI (Kept.refl _ _) rfl
      refine ssteps_cons (fun a' w' hI hag hf K hK => ?_) ?_
      · obtain ⟨⟨_, h5, rfl⟩, -⟩ : SFacts _ _ a' w' [5] := hf
        clear hag
        go_wp2_with fail
        exact hK _ _ hI (Kept.refl _ _) rfl
      refine ssteps_cons (fun a' w' hI hag hf K hK => ?_) ?_
      · obtain ⟨⟨_, h6, rfl⟩, -⟩ : SFacts _ _ a' w' [6] := hf
        clear hag
        go_wp2_with fail
        exact hK _ _ hI (Kept.refl _ _) rfl
      refine ssteps_cons (fun a' w' hI hag hf K hK => ?_) ?_
      · obtain ⟨⟨_, h7, rfl⟩, -⟩ : SFacts _ _ a' w' [7] := hf
        clear hag
        have HI' := Lw.hid hI
        have cc := hI.cell e2 (fun h => h)
        clear hI
        go_wp2_with fail
        exact hK _ _ HI'.out (Kept.refl _ _) rfl
      exact trivial
    intro vs w5 hI hvs
    have q0 : vs 0 = (.pointer (some ⟨gr, 0, none⟩)) := hvs 0 _ _ rfl rfl
    have q1 : vs 1 = (.pointer (some ⟨gr, 0, none⟩)) := hvs 1 _ _ rfl rfl
    have q2 : vs 2 = (.pointer (some ⟨gr, 1, none⟩)) := hvs 2 _ _ rfl rfl
    have q3 : vs 3 = (.slice adr bn capr) := hvs 3 _ _ rfl rfl
    have q4 : vs 4 = (.int .i64 (bn : Int)) := hvs 4 _ _ rfl rfl
    have q5 : vs 5 = (.pointer (some ⟨G, 0, none⟩)) := hvs 5 _ _ rfl rfl
    have q6 : vs 6 = (.pointer (some ⟨G, 0, none⟩)) := hvs 6 _ _ rfl rfl
    have q7 : vs 7 = (.pointer (some ⟨G, 2, none⟩)) := hvs 7 _ _ rfl rfl
    have q8 : vs 8 = (.int .i64 (fn : Int)) := hvs 8 _ _ rfl rfl
    clear hvs
    simp only [List.take_succ_cons, List.take_zero, List.drop_succ_cons, List.drop_zero, putAll, Act.put, List.setIfInBounds_toArray, List.set_cons_zero, List.set_cons_succ, Nat.reduceAdd, q0, q1, q2, q3, q4, q5, q6, q7, q8]
    clear q0 q1 q2 q3 q4 q5 q6 q7 q8
    have K5 := Lw.hid hI
    clear hI
    by_cases hlt : fn < bn
    · have hq : decide ((fn : Int) < (bn : Int)) = true := by simp; omega
      obtain ⟨z, hz⟩ : ∃ z, bn = fn + z := ⟨bn - fn, by omega⟩
      have hz9 : z ≤ 1048576 := by omega
      have HZ := Lw.hid hz
      clear hz
      go_wp2_with fail
      refine wp_region_tail 16 [stV (.pointer (some ⟨gr, 0, none⟩)), stV (.pointer (some ⟨G, 0, none⟩)), stV (.pointer (some ⟨G, 0, none⟩)), stV (.pointer (some ⟨G, 2, none⟩)), stV (.int .i64 (fn : Int)), stV (.pointer (some ⟨gr, 0, none⟩)), stV (.pointer (some ⟨gr, 0, none⟩)), stV (.pointer (some ⟨gr, 1, none⟩)), stV (.slice adr bn capr), stV (.int .i64 (bn : Int)), stV (.pointer (some ⟨G, 0, none⟩)), stV (.pointer (some ⟨G, 0, none⟩)), stV (.pointer (some ⟨G, 2, none⟩)), stV (.int .i64 (fn : Int)), stV (.int .i64 (z : Int)), stOwn w5.heap.size (zeros z)] (by kernel_rfl) (by kernel_rfl) ?_ ?_
      · -- each operation by itself
        refine ssteps_cons (fun a' w' hI hag hf K hK => ?_) ?_
        · have s0 := hag.same 0 (by decide)
          clear hag
          go_wp2_with fail
          exact hK _ _ hI (Kept.refl _ _) rfl
        refine ssteps_cons (fun a' w' hI hag hf K hK => ?_) ?_
        · have s4 := hag.same 4 (by decide)
          clear hag
          go_wp2_with fail
          exact hK _ _ hI (Kept.refl _ _) rfl
        refine ssteps_cons (fun a' w' hI hag hf K hK => ?_) ?_
        · obtain ⟨⟨_, h1, rfl⟩, -⟩ : SFacts _ _ a' w' [1] := hf
          clear hag
          go_wp2_with fail
          exact hK _ _ hI (Kept.refl _ _) rfl
        refine ssteps_cons (fun a' w' hI hag hf K hK => ?_) ?_
        · obtain ⟨⟨_, h2, rfl⟩, -⟩ : SFacts _ _ a' w' [2] := hf
          clear hag
          go_wp2_with fail
          exact hK _ _ hI (Kept.refl _ _) rfl
        refine ssteps_cons (fun a' w' hI hag hf K hK => ?_) ?_
        · obtain ⟨⟨_, h3, rfl⟩, -⟩ : SFacts _ _ a' w' [3] := hf
          clear hag
          have HI' := Lw.hid hI
          have cc := (K5.out.trans hI (fun _ _ h => h)).cell e2 (fun h => h)
          clear hI
          go_wp2_with fail
          exact hK _ _ HI'.out (Kept.refl _ _) rfl
        refine ssteps_cons (fun a' w' hI hag hf K hK => ?_) ?_
        · have s0 := hag.same 0 (by decide)
          clear hag
          go_wp2_with fail
          exact hK _ _ hI (Kept.refl _ _) rfl
        refine ssteps_cons (fun a' w' hI hag hf K hK => ?_) ?_
        · obtain ⟨⟨_, h5, rfl⟩, -⟩ : SFacts _ _ a' w' [5] := hf
          clear hag
          go_wp2_with fail
          exact hK _ _ hI (Kept.refl _ _) rfl
        refine ssteps_cons (fun a' w' hI hag hf K hK => ?_) ?_
        · obtain ⟨⟨_, h6, rfl⟩, -⟩ : SFacts _ _ a' w' [6] := hf
          clear hag
          go_wp2_with fail
          exact hK _ _ hI (Kept.refl _ _) rfl
        refine ssteps_cons (fun a' w' hI hag hf K hK => ?_) ?_
        · obtain ⟨⟨_, h7, rfl⟩, -⟩ : SFacts _ _ a' w' [7] := hf
          clear hag
          have HI' := Lw.hid hI
          have cc := (K5.out.trans hI (fun _ _ h => h)).cell c1 (fun h => h)
          clear hI
          go_wp2_with fail
          exact hK _ _ HI'.out (Kept.refl _ _) rfl
        refine ssteps_cons (fun a' w' hI hag hf K hK => ?_) ?_
        · obtain ⟨⟨_, h8, rfl⟩, -⟩ : SFacts _ _ a' w' [8] := hf
          clear hag
          go_wp2_with fail
          exact hK _ _ hI (Kept.refl _ _) rfl
        refine ssteps_cons (fun a' w' hI hag hf K hK => ?_) ?_
        · have s4 := hag.same 4 (by decide)
          clear hag
          go_wp2_with fail
          exact hK _ _ hI (Kept.refl _ _) rfl
        refine ssteps_cons (fun a' w' hI hag hf K hK => ?_) ?_
        · obtain ⟨⟨_, h10, rfl⟩, -⟩ : SFacts _ _ a' w' [10] := hf
          clear hag
          go_wp2_with fail
          exact hK _ _ hI (Kept.refl _ _) rfl
        refine ssteps_cons (fun a' w' hI hag hf K hK => ?_) ?_
        · obtain ⟨⟨_, h11, rfl⟩, -⟩ : SFacts _ _ a' w' [11] := hf
          clear hag
          go_wp2_with fail
          exact hK _ _ hI (Kept.refl _ _) rfl
        refine ssteps_cons (fun a' w' hI hag hf K hK => ?_) ?_
        · obtain ⟨⟨_, h12, rfl⟩, -⟩ : SFacts _ _ a' w' [12] := hf
          clear hag
          have HI' := Lw.hid hI
          have cc := (K5.out.trans hI (fun _ _ h => h)).cell e2 (fun h => h)
          clear hI
          go_wp2_with fail
          exact hK _ _ HI'.out (Kept.refl _ _) rfl
        refine ssteps_cons (fun a' w' hI hag hf K hK => ?_) ?_
        · obtain ⟨⟨_, h9, rfl⟩, ⟨_, h13, rfl⟩, -⟩ : SFacts _ _ a' w' [9, 13] := hf
          clear hag
          have HI' := Lw.hid hI
          clear hI
          go_wp2_with fail
          exact hK _ _ HI'.out (Kept.refl _ _) (congrArg (Value.int .i64) (by have := HZ.out; omega))
        refine ssteps_cons (fun a' w' hI hag hf K hK => ?_) ?_
        · obtain ⟨⟨_, h14, rfl⟩, -⟩ : SFacts _ _ a' w' [14] := hf
          clear hag
          have HI' := Lw.hid hI
          clear hI
          obtain ⟨i, hi, hz0, hz1, hz2⟩ := diskInfoB
          go_wp2_with (refine wpList_mkg rfl _ _ _ rfl Tryd.underlying38 hi hz0 hz1 hz2 .i64 .i64 (z : Int) (z : Int) z (by simp [Act.eval, h14]) (by simp [Act.eval, h14]) (by omega) (by omega) (by omega) ?_; intro gz wz hgz ho hk; have HO := Lw.hid ho; have HK9 := Lw.hid hk; have HGZ := Lw.hid hgz; clear ho hk hgz)
          refine hK _ _ (HI'.out.trans HK9.out (fun _ _ h => h)) HK9.out ⟨by rw [show (zeros z).length = z from List.length_replicate ..]; exact HO.out, fun k hk => by have := blk_some hk; have h2 := HGZ.out; have h3 := HI'.out.size; dsimp only at this; omega⟩
        exact trivial
      intro vs w6 hI hvs
      have q0 : vs 0 = (.pointer (some ⟨gr, 0, none⟩)) := hvs 0 _ _ rfl rfl
      have q1 : vs 1 = (.pointer (some ⟨G, 0, none⟩)) := hvs 1 _ _ rfl rfl
      have q2 : vs 2 = (.pointer (some ⟨G, 0, none⟩)) := hvs 2 _ _ rfl rfl
      have q3 : vs 3 = (.pointer (some ⟨G, 2, none⟩)) := hvs 3 _ _ rfl rfl
      have q4 : vs 4 = (.int .i64 (fn : Int)) := hvs 4 _ _ rfl rfl
      have q5 : vs 5 = (.pointer (some ⟨gr, 0, none⟩)) := hvs 5 _ _ rfl rfl
      have q6 : vs 6 = (.pointer (some ⟨gr, 0, none⟩)) := hvs 6 _ _ rfl rfl
      have q7 : vs 7 = (.pointer (some ⟨gr, 1, none⟩)) := hvs 7 _ _ rfl rfl
      have q8 : vs 8 = (.slice adr bn capr) := hvs 8 _ _ rfl rfl
      have q9 : vs 9 = (.int .i64 (bn : Int)) := hvs 9 _ _ rfl rfl
      have q10 : vs 10 = (.pointer (some ⟨G, 0, none⟩)) := hvs 10 _ _ rfl rfl
      have q11 : vs 11 = (.pointer (some ⟨G, 0, none⟩)) := hvs 11 _ _ rfl rfl
      have q12 : vs 12 = (.pointer (some ⟨G, 2, none⟩)) := hvs 12 _ _ rfl rfl
      have q13 : vs 13 = (.int .i64 (fn : Int)) := hvs 13 _ _ rfl rfl
      have q14 : vs 14 = (.int .i64 (z : Int)) := hvs 14 _ _ rfl rfl
      have q15 := hvs 15 _ _ rfl rfl
      clear hvs
      simp only [List.take_succ_cons, List.take_zero, List.drop_succ_cons, List.drop_zero, putAll, Act.put, List.setIfInBounds_toArray, List.set_cons_zero, List.set_cons_succ, Nat.reduceAdd, q0, q1, q2, q3, q4, q5, q6, q7, q8, q9, q10, q11, q12, q13, q14]
      clear q0 q1 q2 q3 q4 q5 q6 q7 q8 q9 q10 q11 q12 q13 q14
      generalize vs 15 = x15 at *
      have K6 := Lw.hid (K5.out.trans hI (fun _ _ h => h))
      have HQ := Lw.hid (show IsOwn w5.heap.size (zeros z) x15 w6 from q15)
      clear hI q15
      obtain ⟨adz, capz, hz4, _, _, _⟩ := own_slice HQ.out.1
      obtain ⟨zl, hzl⟩ : ∃ zl, (zeros z).length = zl := ⟨_, rfl⟩
      have HZL := Lw.hid hzl
      rw [hzl] at hz4
      subst hz4
      have hs5 := K5.out.size; have hs6 := K6.out.size
      clear hzl
      have H6 := Lw.hid (H1.out.kept K6.out (fun h => h) (fun _ _ h => h))
      go_wp2_with fail
      refine (rput_any w6 gr _ R H6.out OK.out (fn : Int) (by omega) _ (zeros z) (RdB.of_own HQ.out.1 rfl) (by rw [zeros_len]; exact hz9) (fun _ k hk => by have h1 := HQ.out.2 k (by rw [← HZL.out] at hk ⊢; exact hk); have h3 := HI.out.k.size; exact ⟨by omega, fun hb => by have := HVL.out k hb; omega⟩)).mono ?_
      rintro e wA ⟨rfl, vA, dA, kA, fA⟩
      obtain ⟨⟨R1, er⟩, hp⟩ : ∃ x, R.put (fn : Int) (zeros z) = x := ⟨_, rfl⟩
      rw [hp] at dA ⊢
      have HREC : Hid (rrF R = (R1, er)) := Lw.hid (by unfold rrF; rw [if_neg (by rw [HST.out]; simp), HLA.out, HFN.out, HBN.out, if_pos hlt, show bn - fn = z by have := HZ.out; omega]; exact hp)
      have hsI := HI.out.k.size
      have KA : Hid (Kept (fun k => k = gr ∨ blk (.slice adr bn capr) k) w wA) := Lw.hid (((HI.out.k.trans K6.out (fun _ _ h => h)).mono (fun _ _ h => h.elim)).trans kA (fun _ _ h => h))
      have FA : Hid (∀ k, blk vA k → blk (.slice adr bn capr) k ∨ w6.heap.size ≤ k) := Lw.hid fA
      have hsA := kA.size
      have HL6 := Lw.hid (HI.out.keptF K6.out)
      have LA : Hid (RLog wA (fun q => w.heap.size ≤ q ∧ q < wA.heap.size ∧ ¬ blk vA q) G gr (.slice adl A.length capl) us A) := Lw.hid ((HL6.out.l.kept kA (fun q hq e => by
        rcases e with e | e
        · have := hq.1; omega
        · have := HVL.out q e; have := hq.1; omega)).mono (fun q hq => ⟨hq.1, by have := hq.2; omega, fun e => by
        rcases FA.out q e with e | e
        · have := HVL.out q e; have := hq.1; omega
        · have := hq.2; omega⟩))
      have DA := Lw.hid dA
      clear dA kA fA hp
      dsimp only
      by_cases he : er = 0
      · subst he
        go_wp2_with fail
        refine bodyPost_ret (v := .tuple #[.pointer (some ⟨G, 0, none⟩), .int .i64 0]) (by simp [results, go_sem]) rfl ?_
        exact ⟨vA, by rw [HREC.out]; exact DA.out, KA.out, fun k hk => (FA.out k hk).imp id (fun h => by omega), .inr ⟨by rw [HREC.out], G, _, us, A, t, rfl, HI.out.r, HLA.out, LA.out⟩⟩
      · have hen : ((er : Int) != 0) = true := by rw [bne_iff_ne]; omega
        go_wp2_with fail
        refine bodyPost_ret (v := .tuple #[.pointer none, .int .i64 (er : Int)]) (by simp [results, go_sem]) rfl ?_
        exact ⟨vA, by rw [HREC.out]; exact DA.out, KA.out, fun k hk => (FA.out k hk).imp id (fun h => by omega), .inl ⟨by rw [HREC.out]; exact he, by rw [HREC.out]⟩⟩
    · have hq : decide ((fn : Int) < (bn : Int)) = false := by simp; omega
      have HREC : Hid (rrF R = (R, 0)) := Lw.hid (by unfold rrF; rw [if_neg (by rw [HST.out]; simp), HLA.out, HFN.out, HBN.out, if_neg hlt])
      go_wp2_with fail
      refine bodyPost_ret (v := .tuple #[.pointer (some ⟨G, 0, none⟩), .int .i64 0]) (by simp [results, go_sem]) rfl ?_
      have HL5 := HI.out.keptF K5.out
      exact ⟨_, by rw [HREC.out]; exact H1.out.kept K5.out (fun h => h) (fun _ _ h => h), HL5.k.mono (fun _ _ h => h.elim), fun k hk => .inl hk, .inr ⟨by rw [HREC.out], G, _, us, A, t, rfl, HI.out.r, HLA.out, HL5.l.mono (fun q hq => ⟨hq.1, hq.2, fun e => by have := HVL.out q e; have := hq.1; omega⟩)⟩⟩
end Go.Proofs.YtfmebmaklakckaaDoor
/- longwireref15.Log: Append. -/
namespace Go.Proofs.YtfmebmaklakckaaDoor
open Go Go.RowKit Go.Lw
set_option maxRecDepth 100000
set_option linter.unusedVariables false
set_option linter.unusedSimpArgs false
/-- One more payload, its check and end laid ahead of it. -/
theorem RLog.grow {w w7 : World} {Q : Nat → Prop} {gr GR n : Nat} {vl v' : Value} {vs : List Value} {A : List (List UInt8)} {p : List UInt8} {F S : Int}
    (hbx : w.heap[GR]? = some (.cells #[.pointer (some ⟨gr, 0, none⟩), vl, .int .i64 F, .int .u32 S] 59 (0, 0)))
    (hp : Pays w (fun k => Q k ∧ k ≠ GR ∧ ¬ blk vl k) vs A) (qG : Q GR) (qv : ∀ k, blk vl k → Q k) (ap : ¬ blk vl GR) (hQ : ∀ q, Q q → q < w.heap.size) (k : Kept (blk vl) w w7) (hn : n = A.length + 1)
    (hq : IsRow w.heap.size vl vs n p v' w7) (hF : ((endF fz (A ++ [p])).fin : Int) = F) (hS : ((endF fz (A ++ [p])).sum : Int) = S) :
    ∃ u, RLog (w7.setCell ⟨GR, 1, none⟩ v') (fun q => Q q ∨ (w.heap.size ≤ q ∧ q < w7.heap.size)) GR gr v' (vs ++ [u]) (A ++ [p]) := by
  obtain ⟨u, h1, h2, h3, h4, _⟩ := hq
  subst hn
  have hb7 := k.heap hbx ap
  have hG := hQ _ qG
  have hs := k.size
  have hvG : ¬ blk v' GR := fun e => (h2 _ e).elim ap (fun e => by omega)
  have k7 : Kept (fun q => q = GR) w7 (w7.setCell ⟨GR, 1, none⟩ v') := (Kept.refl (fun q => q = GR) w7).set GR 1 (fun _ => rfl) _
  have hnew : ∀ q, q < w.heap.size → blk v' q → blk vl q := fun q h1 e => (h2 q e).elim id (fun e => by omega)
  refine ⟨u, ?_, ?_, ?_, .inl qG, fun q hq => ?_, hvG⟩
  · have e : rlog gr v' (endF fz (A ++ [p])) = .cells (#[.pointer (some ⟨gr, 0, none⟩), vl, .int .i64 F, .int .u32 S].setIfInBounds 1 v') 59 (0, 0) := by
      unfold rlog
      rw [hF, hS]; rfl
    rw [e]
    exact heap_set hb7 1 _
  · rw [List.length_append]
    exact own_kept k7 h1 (fun q hq e => hvG (e ▸ hq))
  · have hp7 := hp.kept (Q' := fun q => (Q q ∨ (w.heap.size ≤ q ∧ q < w7.heap.size)) ∧ q ≠ GR ∧ ¬ blk v' q) k (fun _ _ hq => hq.2.2) (fun q hlt hq => ⟨.inl hq.1, hq.2.1, fun e => hq.2.2 (hnew q hlt e)⟩)
    have hp8 := hp7.snoc h3 (fun hn q hq => ⟨.inr ⟨(h4 q hq).1, h3.lt hn q hq⟩, fun e => by have := (h4 q hq).1; omega, (h4 q hq).2⟩)
    exact hp8.kept k7 (fun _ _ hq => hq.2.1) (fun _ _ h => h)
  · rcases h2 q hq with e | e
    · exact .inl (qv q e)
    · exact .inr ⟨e, own_lt h1 q hq⟩
/-- What the document's Append leaves. -/
def raF (R : Rsk) (A : List (List UInt8)) (p : List UInt8) : Rsk × List (List UInt8) × Nat × Nat :=
  if 65535 < p.length then (R, A, 0, 3)
  else if (R.put ((endF fz A).fin : Int) (frm A p)).2 = 0 then ((R.put ((endF fz A).fin : Int) (frm A p)).1, A ++ [p], A.length + 1, 0)
  else ((R.put ((endF fz A).fin : Int) (frm A p)).1, A, 0, (R.put ((endF fz A).fin : Int) (frm A p)).2)
def RAPost (w : World) (Q : Nat → Prop) (GR gr : Nat) (vr vl : Value) (R : Rsk) (A : List (List UInt8)) (p : List UInt8) (e : Ending) (w' : World) : Prop :=
  e = .returned (.tuple #[.int .u32 ((raF R A p).2.2.1 : Int), .int .i64 ((raF R A p).2.2.2 : Int)]) ∧
  ∃ vr' vl' vs', RefAt w' gr vr' (raF R A p).1 ∧ Kept (fun k => k = GR ∨ k = gr ∨ blk vr k ∨ blk vl k) w w' ∧ (∀ k, blk vr' k → blk vr k ∨ w.heap.size ≤ k) ∧
    RLog w' (fun q => (Q q ∨ w.heap.size ≤ q) ∧ q < w'.heap.size ∧ q ≠ gr ∧ ¬ blk vr' q) GR gr vl' vs' (raF R A p).2.1
set_option maxHeartbeats 16000000 in
theorem rapp_any (w : World) (Q : Nat → Prop) (GR gr : Nat) (vr vl : Value) (us : List Value) (R : Rsk) (A : List (List UInt8)) (h : RefAt w gr vr R) (ok : R.ok) (hl : RLog w Q GR gr vl us A) (hQ : ∀ q, Q q → q < w.heap.size ∧ q ≠ gr ∧ ¬ blk vr q)
    (hA : A.length ≤ 104858) (hnum : nextN (endF fz A) = A.length + 1) (hfin : (endF fz A).fin ≤ 1048576) (src : Value) (p : List UInt8) (hp : RdB w src p) (hd : p.length ≠ 0 → ∀ k, blk src k → ¬ Q k ∧ k ≠ gr ∧ ¬ blk vr k) :
    Calls Tryd.prog 42 #[.pointer (some ⟨GR, 0, none⟩), src] w (RAPost w Q GR gr vr vl R A p) := by
  obtain ⟨ad, cap, rfl, hc1, hc2, _⟩ := hp.open
  obtain ⟨n, hn⟩ : ∃ n, p.length = n := ⟨_, rfl⟩
  obtain ⟨na, hna⟩ : ∃ n, A.length = n := ⟨_, rfl⟩
  obtain ⟨adl, capl, rfl, hl1, hl2, _⟩ := own_slice hl.own
  obtain ⟨fn, hfn⟩ : ∃ n, (endF fz A).fin = n := ⟨_, rfl⟩
  obtain ⟨sm, hsm'⟩ : ∃ n, (endF fz A).sum = n := ⟨_, rfl⟩
  obtain ⟨cs, hcs⟩ : ∃ c, checkN sm (na + 1) p = c := ⟨_, rfl⟩
  have hsm : sm < 4294967296 := by rw [← hsm']; exact sum_ok A
  have hcs9 : cs < 4294967296 := by rw [← hcs]; exact checkN_lt _ _ _
  have hfr : frm A p = frameB (na + 1) cs p := by unfold frm; rw [hnum, hna, hsm', hcs]
  have e9 : ((endF fz (A ++ [p])).fin : Int) = (fn : Int) + ((10 + n : Nat) : Int) := by rw [end_snoc]; show (((endF fz A).fin + 10 + p.length : Nat) : Int) = _; rw [hfn, hn]; omega
  have e8 : ((endF fz (A ++ [p])).sum : Int) = (cs : Int) := by rw [end_snoc]; show ((checkN (endF fz A).sum (nextN (endF fz A)) p : Nat) : Int) = _; rw [hnum, hsm', hna, hcs]
  rw [hn] at hc1 hp hd ⊢
  have c0 := heap_cell hl.box 0; have c1 := heap_cell hl.box 1; have c2 := heap_cell hl.box 2; have c3 := heap_cell hl.box 3
  rw [hna] at hl1 hl c1 hA ⊢
  rw [hfn] at c2 hfin; rw [hsm'] at c3
  have HL := Lw.hid hl; have H := Lw.hid h; have OK := Lw.hid ok; have HP := Lw.hid hp; have HD := Lw.hid hd; have HQQ := Lw.hid hQ
  have HPL := Lw.hid hn; have HNA := Lw.hid hna; have HFN := Lw.hid hfn; have HSM := Lw.hid hsm'; have HCS := Lw.hid hcs; have HFR := Lw.hid hfr; have E9 := Lw.hid e9; have E8 := Lw.hid e8
  have hgl := heap_lt h.box
  have HVR : Hid (∀ k, blk vr k → k < w.heap.size) := Lw.hid (own_lt h.own)
  have hGl := heap_lt hl.box
  unfold maxLen at hc2 hl2
  clear h ok hl hQ hnum hp hd hn hna hfn hsm' hcs hfr e9 e8
  go_enter Tryd.func42, Tryd.ntmps42
  by_cases hlong : 65535 < n
  · have hq : decide ((65535 : Int) < (n : Int)) = true := by simp; omega
    have HA : Hid (raF R A p = (R, A, 0, 3)) := Lw.hid (by unfold raF; rw [HPL.out, if_pos hlong])
    go_wp2_with fail
    refine bodyPost_ret (v := .tuple #[.int .u32 0, .int .i64 3]) (by simp [results, go_sem]) rfl ?_
    refine ⟨by rw [HA.out]; rfl, vr, _, us, by rw [HA.out]; exact H.out, Kept.refl _ _, fun k hk => .inl hk, by rw [HA.out]; exact HL.out.mono (fun q hq => ⟨.inl hq, (HQQ.out q hq).1, (HQQ.out q hq).2⟩)⟩
  have hq : decide ((65535 : Int) < (n : Int)) = false := by simp; omega
  have hn6 : n ≤ 65535 := by omega
  go_wp2_with fail
  refine wp_region_tail 8 [stV (.pointer (some ⟨GR, 0, none⟩)), stV (.pointer (some ⟨GR, 0, none⟩)), stV (.pointer (some ⟨GR, 3, none⟩)), stV (.int .u32 (sm : Int)), stV (.pointer (some ⟨GR, 0, none⟩)), stV (.int .u32 ((na + 1 : Nat) : Int)), stV (.slice ad n cap), stOwn w.heap.size (frameB (na + 1) cs p)] (by kernel_rfl) (by kernel_rfl) ?_ ?_
  · -- each operation by itself
    refine ssteps_cons (fun a' w' hI hag hf K hK => ?_) ?_
    · have s0 := hag.same 0 (by decide)
      clear hag
      go_wp2_with fail
      exact hK _ _ hI (Kept.refl _ _) rfl
    refine ssteps_cons (fun a' w' hI hag hf K hK => ?_) ?_
    · obtain ⟨⟨_, h0, rfl⟩, -⟩ : SFacts _ _ a' w' [0] := hf
      clear hag
      go_wp2_with fail
      exact hK _ _ hI (Kept.refl _ _) rfl
    refine ssteps_cons (fun a' w' hI hag hf K hK => ?_) ?_
    · obtain ⟨⟨_, h1, rfl⟩, -⟩ : SFacts _ _ a' w' [1] := hf
      clear hag
      go_wp2_with fail
      exact hK _ _ hI (Kept.refl _ _) rfl
    refine ssteps_cons (fun a' w' hI hag hf K hK => ?_) ?_
    · obtain ⟨⟨_, h2, rfl⟩, -⟩ : SFacts _ _ a' w' [2] := hf
      clear hag
      have HI' := Lw.hid hI
      have cc := hI.cell c3 (fun h => h)
      clear hI
      go_wp2_with fail
      exact hK _ _ HI'.out (Kept.refl _ _) rfl
    refine ssteps_cons (fun a' w' hI hag hf K hK => ?_) ?_
    · have s0 := hag.same 0 (by decide)
      clear hag
      go_wp2_with fail
      exact hK _ _ hI (Kept.refl _ _) rfl
    refine ssteps_cons (fun a' w' hI hag hf K hK => ?_) ?_
    · obtain ⟨⟨_, h4, rfl⟩, -⟩ : SFacts _ _ a' w' [4] := hf
      clear hag
      have HI' := Lw.hid hI
      clear hI
      go_wp2_with fail
      refine (rnext_any w' GR gr _ _ na (HI'.out.heap HL.out.box (fun h => h)) ⟨_, _, rfl⟩ (by omega)).mono ?_
      rintro e _ ⟨rfl, rfl⟩
      go_wp2_with fail
      exact hK _ _ HI'.out (Kept.refl _ _) rfl
    refine ssteps_cons (fun a' w' hI hag hf K hK => ?_) ?_
    · have s1 := hag.same 1 (by decide)
      clear hag
      go_wp2_with fail
      exact hK _ _ hI (Kept.refl _ _) rfl
    refine ssteps_cons (fun a' w' hI hag hf K hK => ?_) ?_
    · obtain ⟨⟨_, h3, rfl⟩, ⟨_, h5, rfl⟩, ⟨_, h6, rfl⟩, -⟩ : SFacts _ _ a' w' [3, 5, 6] := hf
      clear hag
      have HI' := Lw.hid hI
      clear hI
      go_wp2_with fail
      refine (rframe_any w' sm (na + 1) _ p (HP.out.kept HI'.out (fun _ _ h => h)) (by rw [HPL.out]; omega) hsm (by omega)).mono ?_
      rw [HCS.out]
      rintro e w2 ⟨r, rfl, hr, hb, hk⟩
      have HB := Lw.hid hb; have HK := Lw.hid hk; have HR2 := Lw.hid hr
      obtain ⟨adr, capr, hre, _, _, _⟩ := own_slice hr
      obtain ⟨fl, hfl⟩ : ∃ fl, (frameB (na + 1) cs p).length = fl := ⟨_, rfl⟩
      rw [hfl] at hre
      subst hre
      clear hb hk hr hfl
      go_wp2_with fail
      exact hK _ _ (HI'.out.trans HK.out (fun _ _ h => h)) HK.out ⟨HR2.out, fun k hk => Nat.le_trans HI'.out.size (HB.out k hk)⟩
    exact trivial
  intro vs w1 hI hvs
  have q0 : vs 0 = (.pointer (some ⟨GR, 0, none⟩)) := hvs 0 _ _ rfl rfl
  have q1 : vs 1 = (.pointer (some ⟨GR, 0, none⟩)) := hvs 1 _ _ rfl rfl
  have q2 : vs 2 = (.pointer (some ⟨GR, 3, none⟩)) := hvs 2 _ _ rfl rfl
  have q3 : vs 3 = (.int .u32 (sm : Int)) := hvs 3 _ _ rfl rfl
  have q4 : vs 4 = (.pointer (some ⟨GR, 0, none⟩)) := hvs 4 _ _ rfl rfl
  have q5 : vs 5 = (.int .u32 ((na + 1 : Nat) : Int)) := hvs 5 _ _ rfl rfl
  have q6 : vs 6 = (.slice ad n cap) := hvs 6 _ _ rfl rfl
  have q7 := hvs 7 _ _ rfl rfl
  clear hvs
  simp only [List.take_succ_cons, List.take_zero, List.drop_succ_cons, List.drop_zero, putAll, Act.put, List.setIfInBounds_toArray, List.set_cons_zero, List.set_cons_succ, Nat.reduceAdd, q0, q1, q2, q3, q4, q5, q6]
  clear q0 q1 q2 q3 q4 q5 q6
  generalize vs 7 = x7 at *
  have K1 := Lw.hid hI
  have HQ := Lw.hid (show IsOwn w.heap.size (frameB (na + 1) cs p) x7 w1 from q7)
  clear hI q7
  obtain ⟨adz, capz, hz4, hzc, hzm, _⟩ := own_slice HQ.out.1
  obtain ⟨zl, hzl⟩ : ∃ zl, (frameB (na + 1) cs p).length = zl := ⟨_, rfl⟩
  have HZL := Lw.hid hzl
  have hzn : zl = 10 + n := by rw [← hzl, frameB_len, HPL.out]
  rw [hzl] at hz4
  subst hz4
  have hs1 := K1.out.size
  have HZN := Lw.hid hzn
  clear hzl hzn
  go_wp2_with fail
  refine wp_region_tail 9 [stV (.pointer (some ⟨GR, 0, none⟩)), stV (.pointer (some ⟨GR, 0, none⟩)), stV (.pointer (some ⟨GR, 0, none⟩)), stV (.pointer (some ⟨gr, 0, none⟩)), stV (.pointer (some ⟨GR, 0, none⟩)), stV (.pointer (some ⟨GR, 0, none⟩)), stV (.pointer (some ⟨GR, 2, none⟩)), stV (.int .i64 (fn : Int)), stV (.slice adz zl capz)] (by kernel_rfl) (by kernel_rfl) ?_ ?_
  · -- each operation by itself
    refine ssteps_cons (fun a' w' hI hag hf K hK => ?_) ?_
    · have s0 := hag.same 0 (by decide)
      clear hag
      go_wp2_with fail
      exact hK _ _ hI (Kept.refl _ _) rfl
    refine ssteps_cons (fun a' w' hI hag hf K hK => ?_) ?_
    · obtain ⟨⟨_, h0, rfl⟩, -⟩ : SFacts _ _ a' w' [0] := hf
      clear hag
      go_wp2_with fail
      exact hK _ _ hI (Kept.refl _ _) rfl
    refine ssteps_cons (fun a' w' hI hag hf K hK => ?_) ?_
    · obtain ⟨⟨_, h1, rfl⟩, -⟩ : SFacts _ _ a' w' [1] := hf
      clear hag
      go_wp2_with fail
      exact hK _ _ hI (Kept.refl _ _) rfl
    refine ssteps_cons (fun a' w' hI hag hf K hK => ?_) ?_
    · obtain ⟨⟨_, h2, rfl⟩, -⟩ : SFacts _ _ a' w' [2] := hf
      clear hag
      have HI' := Lw.hid hI
      have cc := (K1.out.trans hI (fun _ _ h => h)).cell c0 (fun h => h)
      clear hI
      go_wp2_with fail
      exact hK _ _ HI'.out (Kept.refl _ _) rfl
    refine ssteps_cons (fun a' w' hI hag hf K hK => ?_) ?_
    · have s0 := hag.same 0 (by decide)
      clear hag
      go_wp2_with fail
      exact hK _ _ hI (Kept.refl _ _) rfl
    refine ssteps_cons (fun a' w' hI hag hf K hK => ?_) ?_
    · obtain ⟨⟨_, h4, rfl⟩, -⟩ : SFacts _ _ a' w' [4] := hf
      clear hag
      go_wp2_with fail
      exact hK _ _ hI (Kept.refl _ _) rfl
    refine ssteps_cons (fun a' w' hI hag hf K hK => ?_) ?_
    · obtain ⟨⟨_, h5, rfl⟩, -⟩ : SFacts _ _ a' w' [5] := hf
      clear hag
      go_wp2_with fail
      exact hK _ _ hI (Kept.refl _ _) rfl
    refine ssteps_cons (fun a' w' hI hag hf K hK => ?_) ?_
    · obtain ⟨⟨_, h6, rfl⟩, -⟩ : SFacts _ _ a' w' [6] := hf
      clear hag
      have HI' := Lw.hid hI
      have cc := (K1.out.trans hI (fun _ _ h => h)).cell c2 (fun h => h)
      clear hI
      go_wp2_with fail
      exact hK _ _ HI'.out (Kept.refl _ _) rfl
    refine ssteps_cons (fun a' w' hI hag hf K hK => ?_) ?_
    · have s6 := hag.same 6 (by decide)
      clear hag
      go_wp2_with fail
      exact hK _ _ hI (Kept.refl _ _) rfl
    exact trivial
  intro vs w2 hI hvs
  have q0 : vs 0 = (.pointer (some ⟨GR, 0, none⟩)) := hvs 0 _ _ rfl rfl
  have q1 : vs 1 = (.pointer (some ⟨GR, 0, none⟩)) := hvs 1 _ _ rfl rfl
  have q2 : vs 2 = (.pointer (some ⟨GR, 0, none⟩)) := hvs 2 _ _ rfl rfl
  have q3 : vs 3 = (.pointer (some ⟨gr, 0, none⟩)) := hvs 3 _ _ rfl rfl
  have q4 : vs 4 = (.pointer (some ⟨GR, 0, none⟩)) := hvs 4 _ _ rfl rfl
  have q5 : vs 5 = (.pointer (some ⟨GR, 0, none⟩)) := hvs 5 _ _ rfl rfl
  have q6 : vs 6 = (.pointer (some ⟨GR, 2, none⟩)) := hvs 6 _ _ rfl rfl
  have q7 : vs 7 = (.int .i64 (fn : Int)) := hvs 7 _ _ rfl rfl
  have q8 : vs 8 = (.slice adz zl capz) := hvs 8 _ _ rfl rfl
  clear hvs
  simp only [List.take_succ_cons, List.take_zero, List.drop_succ_cons, List.drop_zero, putAll, Act.put, List.setIfInBounds_toArray, List.set_cons_zero, List.set_cons_succ, Nat.reduceAdd, q0, q1, q2, q3, q4, q5, q6, q7, q8]
  clear q0 q1 q2 q3 q4 q5 q6 q7 q8
  have K2 := Lw.hid hI
  clear hI
  have hs2 := K2.out.size
  have K12 := Lw.hid (K1.out.trans K2.out (fun _ _ h => h))
  have H2 := Lw.hid (H.out.kept K12.out (fun h => h) (fun _ _ h => h))
  go_wp2_with fail
  refine (rput_any w2 gr _ R H2.out OK.out (fn : Int) (by omega) _ (frameB (na + 1) cs p) ((RdB.of_own HQ.out.1 rfl).kept K2.out (fun _ _ h => h)) (by rw [HZL.out]; have := HZN.out; omega) (fun _ k hk => by have h1 := HQ.out.2 k (by rw [← HZL.out] at hk ⊢; exact hk); exact ⟨by omega, fun hb => by have := HVR.out k hb; omega⟩)).mono ?_
  rintro e wA ⟨rfl, vA, dA, kA, fA⟩
  obtain ⟨⟨R1, er⟩, hput⟩ : ∃ x, R.put (fn : Int) (frameB (na + 1) cs p) = x := ⟨_, rfl⟩
  rw [hput] at dA ⊢
  have HPUT : Hid (R.put ((endF fz A).fin : Int) (frm A p) = (R1, er)) := Lw.hid (by rw [HFN.out, HFR.out]; exact hput)
  have KA : Hid (Kept (fun k => k = gr ∨ blk vr k) w wA) := Lw.hid ((K12.out.mono (fun _ _ h => h.elim)).trans kA (fun _ _ h => h))
  have FA : Hid (∀ k, blk vA k → blk vr k ∨ w2.heap.size ≤ k) := Lw.hid fA
  have hsA := kA.size
  have DA := Lw.hid dA
  have LA : Hid (RLog wA Q GR gr (.slice adl na capl) us A) := Lw.hid (HL.out.kept KA.out (fun q hq e => e.elim (HQQ.out q hq).2.1 (HQQ.out q hq).2.2))
  clear dA kA fA hput
  dsimp only
  by_cases he : er = 0
  · subst he
    have HA : Hid (raF R A p = (R1, A ++ [p], na + 1, 0)) := Lw.hid (by unfold raF; rw [HPUT.out, HPL.out, if_neg (by omega), if_pos rfl, HNA.out])
    have BXA := Lw.hid LA.out.box
    have g3 : wA.cell? ⟨GR, 3, none⟩ = some (.int .u32 (sm : Int)) := by rw [← HSM.out]; exact heap_cell BXA.out 3
    have HPA : Hid (RdB wA (.slice ad n cap) p) := Lw.hid (HP.out.keptE KA.out (fun hne k hk e => by
      have := HD.out (by rw [← HPL.out]; exact hne) k hk
      exact e.elim this.2.1 this.2.2))
    go_wp2_with fail
    refine wp_region_tail 11 [stV (.pointer (some ⟨GR, 0, none⟩)), stV (.pointer (some ⟨GR, 0, none⟩)), stV (.pointer (some ⟨GR, 0, none⟩)), stV (.pointer (some ⟨GR, 3, none⟩)), stV (.int .u32 (sm : Int)), stV (.pointer (some ⟨GR, 0, none⟩)), stV (.int .u32 ((na + 1 : Nat) : Int)), stV (.slice ad n cap), stV (.int .u32 (cs : Int)), stV (.pointer (some ⟨GR, 0, none⟩)), stV (.pointer (some ⟨GR, 3, none⟩))] (by kernel_rfl) (by kernel_rfl) ?_ ?_
    · -- each operation by itself
      refine ssteps_cons (fun a' w' hI hag hf K hK => ?_) ?_
      · have s0 := hag.same 0 (by decide)
        clear hag
        go_wp2_with fail
        exact hK _ _ hI (Kept.refl _ _) rfl
      refine ssteps_cons (fun a' w' hI hag hf K hK => ?_) ?_
      · have s0 := hag.same 0 (by decide)
        clear hag
        go_wp2_with fail
        exact hK _ _ hI (Kept.refl _ _) rfl
      refine ssteps_cons (fun a' w' hI hag hf K hK => ?_) ?_
      · obtain ⟨⟨_, h1, rfl⟩, -⟩ : SFacts _ _ a' w' [1] := hf
        clear hag
        go_wp2_with fail
        exact hK _ _ hI (Kept.refl _ _) rfl
      refine ssteps_cons (fun a' w' hI hag hf K hK => ?_) ?_
      · obtain ⟨⟨_, h2, rfl⟩, -⟩ : SFacts _ _ a' w' [2] := hf
        clear hag
        go_wp2_with fail
        exact hK _ _ hI (Kept.refl _ _) rfl
      refine ssteps_cons (fun a' w' hI hag hf K hK => ?_) ?_
      · obtain ⟨⟨_, h3, rfl⟩, -⟩ : SFacts _ _ a' w' [3] := hf
        clear hag
        have HI' := Lw.hid hI
        have cc := hI.cell g3 (fun h => h)
        clear hI
        go_wp2_with fail
        exact hK _ _ HI'.out (Kept.refl _ _) rfl
      refine ssteps_cons (fun a' w' hI hag hf K hK => ?_) ?_
      · have s0 := hag.same 0 (by decide)
        clear hag
        go_wp2_with fail
        exact hK _ _ hI (Kept.refl _ _) rfl
      refine ssteps_cons (fun a' w' hI hag hf K hK => ?_) ?_
      · obtain ⟨⟨_, h5, rfl⟩, -⟩ : SFacts _ _ a' w' [5] := hf
        clear hag
        have HI' := Lw.hid hI
        clear hI
        go_wp2_with fail
        refine (rnext_any w' GR gr _ _ na (HI'.out.heap BXA.out (fun h => h)) ⟨_, _, rfl⟩ (by omega)).mono ?_
        rintro e _ ⟨rfl, rfl⟩
        go_wp2_with fail
        exact hK _ _ HI'.out (Kept.refl _ _) rfl
      refine ssteps_cons (fun a' w' hI hag hf K hK => ?_) ?_
      · have s1 := hag.same 1 (by decide)
        clear hag
        go_wp2_with fail
        exact hK _ _ hI (Kept.refl _ _) rfl
      refine ssteps_cons (fun a' w' hI hag hf K hK => ?_) ?_
      · obtain ⟨⟨_, h4, rfl⟩, ⟨_, h6, rfl⟩, ⟨_, h7, rfl⟩, -⟩ : SFacts _ _ a' w' [4, 6, 7] := hf
        clear hag
        have HI' := Lw.hid hI
        clear hI
        go_wp2_with fail
        refine (rcheck_any w' sm (na + 1) _ p (HPA.out.kept HI'.out (fun _ _ h => h)) (by rw [HPL.out]; omega) hsm (by omega)).mono ?_
        rintro e w2 ⟨rfl, hk⟩
        rw [HCS.out]
        go_wp2_with fail
        exact hK _ _ (HI'.out.trans hk (fun _ _ h => h)) hk rfl
      refine ssteps_cons (fun a' w' hI hag hf K hK => ?_) ?_
      · obtain ⟨⟨_, h0, rfl⟩, -⟩ : SFacts _ _ a' w' [0, 1, 2, 3, 4, 5, 6, 7, 8] := hf
        clear hag
        go_wp2_with fail
        exact hK _ _ hI (Kept.refl _ _) rfl
      refine ssteps_cons (fun a' w' hI hag hf K hK => ?_) ?_
      · obtain ⟨⟨_, h9, rfl⟩, -⟩ : SFacts _ _ a' w' [9, 0, 1, 2, 3, 4, 5, 6, 7, 8] := hf
        clear hag
        go_wp2_with fail
        exact hK _ _ hI (Kept.refl _ _) rfl
      exact trivial
    intro vs wC hI hvs
    have q0 : vs 0 = (.pointer (some ⟨GR, 0, none⟩)) := hvs 0 _ _ rfl rfl
    have q1 : vs 1 = (.pointer (some ⟨GR, 0, none⟩)) := hvs 1 _ _ rfl rfl
    have q2 : vs 2 = (.pointer (some ⟨GR, 0, none⟩)) := hvs 2 _ _ rfl rfl
    have q3 : vs 3 = (.pointer (some ⟨GR, 3, none⟩)) := hvs 3 _ _ rfl rfl
    have q4 : vs 4 = (.int .u32 (sm : Int)) := hvs 4 _ _ rfl rfl
    have q5 : vs 5 = (.pointer (some ⟨GR, 0, none⟩)) := hvs 5 _ _ rfl rfl
    have q6 : vs 6 = (.int .u32 ((na + 1 : Nat) : Int)) := hvs 6 _ _ rfl rfl
    have q7 : vs 7 = (.slice ad n cap) := hvs 7 _ _ rfl rfl
    have q8 : vs 8 = (.int .u32 (cs : Int)) := hvs 8 _ _ rfl rfl
    have q9 : vs 9 = (.pointer (some ⟨GR, 0, none⟩)) := hvs 9 _ _ rfl rfl
    have q10 : vs 10 = (.pointer (some ⟨GR, 3, none⟩)) := hvs 10 _ _ rfl rfl
    clear hvs
    simp only [List.take_succ_cons, List.take_zero, List.drop_succ_cons, List.drop_zero, putAll, Act.put, List.setIfInBounds_toArray, List.set_cons_zero, List.set_cons_succ, Nat.reduceAdd, q0, q1, q2, q3, q4, q5, q6, q7, q8, q9, q10]
    clear q0 q1 q2 q3 q4 q5 q6 q7 q8 q9 q10
    have KC := Lw.hid hI
    clear hI
    have hsC := KC.out.size
    have bxC := KC.out.heap BXA.out (fun h => h)
    have b2 : wC.cell? ⟨GR, 2, none⟩ = some (.int .i64 (fn : Int)) := by rw [← HFN.out]; exact heap_cell bxC 2
    have b3 := heap_cell bxC 3
    have f2 := heap_free bxC 2; have f3 := heap_free bxC 3
    have HBXC := Lw.hid bxC
    have hfz : (fn : Int) + (zl : Int) ≤ 2000000 := by have := HZN.out; omega
    have hzz : (fn : Int) + (zl : Int) = (fn : Int) + ((10 + n : Nat) : Int) := by have := HZN.out; omega
    have HZZ := Lw.hid hzz
    clear bxC hzz
    go_wp2_with fail
    obtain ⟨wD, hwD⟩ : ∃ wD, (wC.setCell ⟨GR, 3, none⟩ (.int .u32 (cs : Int))).setCell ⟨GR, 2, none⟩ (.int .i64 ((fn : Int) + (zl : Int))) = wD := ⟨_, rfl⟩
    rw [hwD]
    have KD : Hid (Kept (fun q => q = GR) wC wD) := Lw.hid (by rw [← hwD]; exact ((Kept.refl (fun q => q = GR) wC).set GR 3 (fun _ => rfl) _).set GR 2 (fun _ => rfl) _)
    have BXD : Hid (wD.heap[GR]? = some (.cells #[.pointer (some ⟨gr, 0, none⟩), .slice adl na capl, .int .i64 ((fn : Int) + ((10 + n : Nat) : Int)), .int .u32 (cs : Int)] 59 (0, 0))) := Lw.hid (by
      rw [← HZZ.out, ← hwD]; exact heap_set (heap_set HBXC.out 3 _) 2 _)
    have d1 : wD.cell? ⟨GR, 1, none⟩ = some (.slice adl na capl) := heap_cell BXD.out 1
    have hGQ := HQQ.out GR HL.out.qG
    have hvQ : Hid (∀ k, blk (.slice adl na capl) k → k < w.heap.size ∧ k ≠ gr ∧ ¬ blk vr k) := Lw.hid (fun k hk => HQQ.out k (HL.out.qv k hk))
    have hGap := HL.out.ap
    have hsD := KD.out.size
    have LD : Hid (wD.ownsRow 0 38 1 (.slice adl na capl) na us) := Lw.hid (own_kept KD.out (own_kept KC.out (by have := LA.out.own; rwa [HNA.out] at this) (fun _ _ h => h)) (fun b hb e => hGap (e ▸ hb)))
    have OWD := LD
    have PD : Hid (Pays wD (fun k => Q k ∧ k ≠ GR ∧ ¬ blk (.slice adl na capl) k) us A) := Lw.hid ((LA.out.p.kept KC.out (fun _ _ _ h => h) (fun _ _ h => h)).kept KD.out (fun _ _ hq => hq.2.1) (fun _ _ h => h))
    have HVD : Hid (∀ k, blk (.slice adl na capl) k → k < wD.heap.size) := Lw.hid (own_lt LD.out)
    have HPD : Hid (RdB wD (.slice ad n cap) p) := Lw.hid ((HPA.out.kept KC.out (fun _ _ h => h)).keptE KD.out (fun hne k hk e => (HD.out (by rw [← HPL.out]; exact hne) k hk).1 (e ▸ HL.out.qG)))
    clear hwD hGQ hGap
    refine wp_region_link 12 9 (blk (.slice adl na capl)) (fun s w' => if s = 0 then Kept (fun _ => False) wD w' else Kept (blk (.slice adl na capl)) wD w') (stRow wD.heap.size (.slice adl na capl) us (na + 1) p) [rV (.pointer (some ⟨GR, 0, none⟩)), rV (.pointer (some ⟨GR, 0, none⟩)), rV (.pointer (some ⟨GR, 0, none⟩)), rV (.pointer (some ⟨GR, 1, none⟩)), rV (.slice adl na capl), rV (.slice none 0 0), rV (.slice ad n cap), rOwn (.slice adl na capl) wD.heap.size HVD.out p, rBS (.slice adl na capl) wD.heap.size HVD.out p, rV (.bool true), rV (.pointer (some ⟨GR, 0, none⟩)), rV (.pointer (some ⟨GR, 1, none⟩))] (by kernel_rfl) (by kernel_rfl) ?_ ?_ ?_
    case refine_1 => exact (Kept.refl _ _).drew
    case refine_2 =>
      refine lk_free (by decide) (fun s a' w' hI hag hf K hK => ?_) ?_
      · have s0 := hag.same 0 (by decide)
        clear hag
        go_wp2_with fail
        exact hK _ _ hI (Kept.refl _ _) rfl
      refine lk_pre (by decide) (by kernel_rfl) (fun a' w' hI hag hf K hK => ?_) ?_
      · have s0 := hag.same 0 (by decide)
        clear hag
        go_wp2_with fail
        exact hK _ _ hI (Kept.refl _ _) rfl
      refine lk_pre (by decide) (by kernel_rfl) (fun a' w' hI hag hf K hK => ?_) ?_
      · obtain ⟨⟨_, h1, rfl⟩, -⟩ : SFacts _ _ a' w' [1] := hf
        clear hag
        go_wp2_with fail
        exact hK _ _ hI (Kept.refl _ _) rfl
      refine lk_pre (by decide) (by kernel_rfl) (fun a' w' hI hag hf K hK => ?_) ?_
      · obtain ⟨⟨_, h2, rfl⟩, -⟩ : SFacts _ _ a' w' [2] := hf
        clear hag
        go_wp2_with fail
        exact hK _ _ hI (Kept.refl _ _) rfl
      refine lk_pre (by decide) (by kernel_rfl) (fun a' w' hI hag hf K hK => ?_) ?_
      · obtain ⟨⟨_, h3, rfl⟩, -⟩ : SFacts _ _ a' w' [3] := hf
        clear hag
        have HI' := Lw.hid hI
        have cc := hI.cell d1 (fun h => h)
        clear hI
        go_wp2_with fail
        exact hK _ _ HI'.out (Kept.refl _ _) rfl
      refine lk_pre (by decide) (by kernel_rfl) (fun a' w' hI hag hf K hK => ?_) ?_
      · have s8 := hag.same 8 (by decide)
        clear hag
        go_wp2_with fail
        exact hK _ _ hI (Kept.refl _ _) rfl
      refine lk_pre (by decide) (by kernel_rfl) (fun a' w' hI hag hf K hK => ?_) ?_
      · have s1 := hag.same 1 (by decide)
        clear hag
        go_wp2_with fail
        exact hK _ _ hI (Kept.refl _ _) rfl
      refine lk_pre (by decide) (by kernel_rfl) (fun a' w' hI hag hf K hK => ?_) ?_
      · obtain ⟨⟨_, h5, rfl⟩, ⟨_, h6, rfl⟩, -⟩ : SFacts _ _ a' w' [5, 6] := hf
        clear hag
        have HI' := Lw.hid hI
        clear hI
        refine wpList_app rfl _ _ _ rfl EB (.slice none 0 0) 0 [] (by simp [Act.eval, h5]) (World.ownsRow_nil _ 0 _ 1) (.slice ad n cap) n _ (by simp [Act.eval, h6]) (rd_cast HPL.out (HPD.out.kept HI'.out (fun _ _ h => h))) (bytes_oneCell _) (by unfold maxLen; omega) (by omega) (fun ad2 cap2 wx2 ho hg hf => ?_)
        have hk2 : Kept (fun _ => False) w' wx2 := (Kept.refl _ _).grown hg (fun k e _ => by cases e)
        exact hK _ _ (HI'.out.trans hk2 (fun _ _ h => h)) hk2 ⟨by rw [HPL.out]; simpa using ho, fun k hk => by rcases hf k (by simpa using hk) with e | e; exact (blk_none e).elim; have := HI'.out.size; omega⟩
      refine lk_pre (by decide) (by kernel_rfl) (fun a' w' hI hag hf K hK => ?_) ?_
      · obtain ⟨⟨v7, h7, e7⟩, -⟩ : SFacts _ _ a' w' [7] := hf
        clear hag
        have HI' := Lw.hid hI
        clear hI
        obtain ⟨adp, capp, rfl, _, _, _⟩ := own_slice e7.1
        have E10 := Lw.hid e7
        obtain ⟨pl, hpl⟩ : ∃ pl, p.length = pl := ⟨_, rfl⟩
        rw [hpl] at h7 E10
        clear hpl e7
        go_wp2_with fail
        refine hK _ _ (HI'.out.alloc _) ((Kept.refl _ _).alloc _) ⟨_, Rd.lit w' [.slice adp pl capp] 38 1 w'.heap.size 1 rfl rfl (by decide), ⟨own_kept ((Kept.refl (fun _ => False) w').alloc _) E10.out.1 (fun _ _ h => h), E10.out.2⟩, fun k hk => by have := blk_some hk; have h2 := HI'.out.size; dsimp only at this; omega⟩
      refine lk_hit (fun a' w' hI hag hf K hK => ?_) ?_
      · obtain ⟨⟨_, h4, rfl⟩, ⟨v8, h8, e8⟩, -⟩ : SFacts _ _ a' w' [4, 8, 7] := hf
        clear hag
        have HI' := Lw.hid hI
        clear hI
        obtain ⟨u, hu1, hu2, hu3⟩ := e8
        obtain ⟨adb, capb, rfl, _, _, _⟩ := hu1.2
        obtain ⟨adu, capu, rfl, _, _, _⟩ := own_slice hu2.1
        refine wpList_app rfl _ _ _ rfl EL (.slice adl na capl) na us (by simp [Act.eval, h4]) (own_kept HI'.out OWD.out (fun _ _ h => h)) _ 1 _ (by simp [Act.eval, h8]) hu1 (oneS (RdB.of_own hu2.1 rfl)) (by unfold maxLen; omega) (by omega) (fun ad2 cap2 wx2 ho hg hf => ?_)
        have hk2 : Kept (blk (.slice adl na capl)) w' wx2 := (Kept.refl _ _).grown hg (fun k e _ => e)
        have hlt := own_lt hu2.1
        refine hK _ _ (HI'.out.mono (fun _ _ h => h.elim) |>.trans hk2 (fun _ _ h => h)) hk2 ⟨_, ho, fun k hk => (hf k hk).imp id (fun h => by have := HI'.out.size; omega), (RdB.of_own hu2.1 rfl).kept hk2 (fun k hk e => by have := hu2.2 k hk; have := HVD.out k e; omega), fun k hk => ⟨hu2.2 k hk, fun e => ?_⟩, ⟨_, _, rfl⟩⟩
        rcases hf k e with e | e
        · have := hu2.2 k hk; have := HVD.out k e; omega
        · have := hlt k hk; omega
      refine lk_free (by decide) (fun s a' w' hI hag hf K hK => ?_) ?_
      · obtain ⟨⟨_, h0, rfl⟩, -⟩ : SFacts _ _ a' w' [0, 1, 2, 3, 4, 5, 6, 7, 8, 9] := hf
        clear hag
        go_wp2_with fail
        exact hK _ _ hI (Kept.refl _ _) rfl
      refine lk_free (by decide) (fun s a' w' hI hag hf K hK => ?_) ?_
      · obtain ⟨⟨_, h10, rfl⟩, -⟩ : SFacts _ _ a' w' [10, 0, 1, 2, 3, 4, 5, 6, 7, 8, 9] := hf
        clear hag
        go_wp2_with fail
        exact hK _ _ hI (Kept.refl _ _) rfl
      exact trivial
    intro vs wE hI hvs
    have q0 : vs 0 = (.pointer (some ⟨GR, 0, none⟩)) := hvs 0 _ _ rfl rfl
    have q1 : vs 1 = (.pointer (some ⟨GR, 0, none⟩)) := hvs 1 _ _ rfl rfl
    have q2 : vs 2 = (.pointer (some ⟨GR, 0, none⟩)) := hvs 2 _ _ rfl rfl
    have q3 : vs 3 = (.pointer (some ⟨GR, 1, none⟩)) := hvs 3 _ _ rfl rfl
    have q4 : vs 4 = (.slice adl na capl) := hvs 4 _ _ rfl rfl
    have q5 : vs 5 = (.slice none 0 0) := hvs 5 _ _ rfl rfl
    have q6 : vs 6 = (.slice ad n cap) := hvs 6 _ _ rfl rfl
    have q7 := hvs 7 _ _ rfl rfl
    have q8 := hvs 8 _ _ rfl rfl
    have q9 : (stRow wD.heap.size (.slice adl na capl) us (na + 1) p).1 (vs 9) wE := hvs 9 _ _ rfl rfl
    have q10 : vs 10 = (.pointer (some ⟨GR, 0, none⟩)) := hvs 10 _ _ rfl rfl
    have q11 : vs 11 = (.pointer (some ⟨GR, 1, none⟩)) := hvs 11 _ _ rfl rfl
    clear hvs
    simp only [List.take_succ_cons, List.take_zero, List.drop_succ_cons, List.drop_zero, putAll, Act.put, List.setIfInBounds_toArray, List.set_cons_zero, List.set_cons_succ, Nat.reduceAdd, q0, q1, q2, q3, q4, q5, q6, q10, q11]
    clear q0 q1 q2 q3 q4 q5 q6 q10 q11
    generalize vs 7 = x7 at *
    generalize vs 8 = x8 at *
    generalize vs 9 = x9 at *
    have KE : Hid (Kept (blk (.slice adl na capl)) wD wE) := Lw.hid hI
    have QR : Hid (IsRow wD.heap.size (.slice adl na capl) us (na + 1) p x9 wE) := Lw.hid q9
    clear hI q9 q7 q8
    obtain ⟨_, _, _, _, _, adx, capx, rfl⟩ := id QR.out
    have hGap := HL.out.ap
    have bxE := KE.out.heap BXD.out hGap
    have k1 := heap_cell bxE 1
    have f1 := heap_free bxE 1
    have HGROW := Lw.hid (RLog.grow BXD.out PD.out HL.out.qG HL.out.qv hGap (fun q hq => by have := (HQQ.out q hq).1; omega) KE.out (by rw [HNA.out]) QR.out E9.out E8.out)
    have hsE := KE.out.size
    clear bxE
    go_wp2_with fail
    refine bodyPost_ret (v := .tuple #[.int .u32 ((na + 1 : Nat) : Int), .int .i64 0]) (by simp [results, go_sem]) rfl ?_
    obtain ⟨u, hgr⟩ := HGROW.out
    have kx : Kept (fun k => k = GR ∨ blk (.slice adl na capl) k) wA (wE.setCell ⟨GR, 1, none⟩ (.slice adx (na + 1) capx)) :=
      (((KC.out.mono (fun _ _ h => h.elim)).trans KD.out (fun _ _ h => .inl h)).trans KE.out (fun _ _ h => .inr h)).trans ((Kept.refl (fun q => q = GR) wE).set GR 1 (fun _ => rfl) _) (fun _ _ h => .inl h)
    have hGQ := HQQ.out GR HL.out.qG
    have hvA : ∀ q, q < w.heap.size → blk vA q → blk vr q := fun q h1 h2 => (FA.out q h2).elim id (fun e => by omega)
    have hRA := DA.out.kept kx (fun e => e.elim (fun e => hGQ.2.1 e.symm) (fun e => (hvQ.out _ e).2.1 rfl)) (fun b hb e => by
      rcases e with e | e
      · subst e; exact hGQ.2.2 (hvA _ hGQ.1 hb)
      · exact (hvQ.out _ e).2.2 (hvA _ (hvQ.out _ e).1 hb))
    have hRL : ∀ q, (Q q ∨ wD.heap.size ≤ q ∧ q < wE.heap.size) → (Q q ∨ w.heap.size ≤ q) ∧ q < (wE.setCell ⟨GR, 1, none⟩ (.slice adx (na + 1) capx)).heap.size ∧ q ≠ gr ∧ ¬ blk vA q := fun q hq => by
      have hsx := kx.size
      have hsy := ((Kept.refl (fun q => q = GR) wE).set GR 1 (fun _ => rfl) (.slice adx (na + 1) capx)).size
      rcases hq with hq | hq
      · have := HQQ.out q hq
        exact ⟨.inl hq, by omega, this.2.1, fun e => this.2.2 (hvA _ this.1 e)⟩
      · have hlt := own_lt DA.out.own
        exact ⟨.inr (by omega), by omega, by omega, fun e => by have := hlt q e; omega⟩
    refine ⟨by rw [HA.out]; rfl, vA, _, _, by rw [HA.out]; exact hRA, ?_, fun k hk => (FA.out k hk).imp id (fun h => by omega), by rw [HA.out]; exact hgr.mono hRL⟩
    refine (KA.out.mono (fun _ _ h => h.elim (fun h => .inr (.inl h)) (fun h => .inr (.inr (.inl h))))).trans kx (fun _ _ h => h.elim .inl (fun h => .inr (.inr (.inr h))))
  · have hen : ((er : Int) != 0) = true := by rw [bne_iff_ne]; omega
    have HA : Hid (raF R A p = (R1, A, 0, er)) := Lw.hid (by unfold raF; rw [HPUT.out, HPL.out, if_neg (by omega), if_neg he])
    go_wp2_with fail
    refine bodyPost_ret (v := .tuple #[.int .u32 0, .int .i64 (er : Int)]) (by simp [results, go_sem]) rfl ?_
    exact ⟨by rw [HA.out]; rfl, vA, _, us, by rw [HA.out]; exact DA.out, KA.out.mono (fun _ _ h => h.elim (fun h => .inr (.inl h)) (fun h => .inr (.inr (.inl h)))), fun k hk => (FA.out k hk).imp id (fun h => by omega), by rw [HA.out]; exact LA.out.mono (fun q hq => ⟨.inl hq, by have := (HQQ.out q hq).1; omega, (HQQ.out q hq).2.1, fun e => (FA.out q e).elim (HQQ.out q hq).2.2 (fun e => by have := (HQQ.out q hq).1; omega)⟩)⟩
end Go.Proofs.YtfmebmaklakckaaDoor
