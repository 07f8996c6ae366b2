/- Of the proof of TopBooks: LogC, PlainReader, LogP. -/
import Derived.Test.YtgegjjnfcnalfaaGreatDoorG05
import Derived.Test.YtgegjjnfcnalfaaGreatDoorG01
namespace Go.Proofs.YtgegjjnfcnalfaaGreatDoor
open Go Go.RowKit Go.Lw
set_option maxRecDepth 100000
set_option linter.unusedVariables false
def checkB (ahead number : Nat) (p : List UInt8) : List UInt8 := be 4 ahead ++ be 4 number ++ be 2 p.length ++ p
def checkN (ahead number : Nat) (p : List UInt8) : Nat := crcN (checkB ahead number p)
def frameB (number sum : Nat) (p : List UInt8) : List UInt8 := be 2 p.length ++ be 4 number ++ be 4 sum ++ p
theorem wr_step {w0 a b : World} {bw : Nat} {v : Value} {l' : List UInt8} (hk : Kept (fun k => k = bw) w0 a) (hf : ∀ k, blk v k → w0.heap.size ≤ k) (h : WrPost a b bw v l' 0) :
    ∃ v', WriterAt b bw v' l' 0 ∧ Kept (fun k => k = bw) w0 b ∧ ∀ k, blk v' k → w0.heap.size ≤ k := by
  obtain ⟨v', h1, h2, h3⟩ := h
  refine ⟨v', h1, hk.trans h2 (fun i hi e => by
    rcases e with e | e
    · exact e
    · have := hf i e; omega), fun k hb => ?_⟩
  rcases h3 k hb with e | e
  · exact hf k e
  · exact Nat.le_trans hk.size e
set_option maxHeartbeats 4000000 in
theorem check_any (w : World) (ahead number : Nat) (v : Value) (p : List UInt8) (hp : RdB w v p) (hl : p.length ≤ 65535) (ha : ahead < 4294967296) (hn : number < 4294967296) (ht : Tab w) :
    Calls Tryz.prog 92 #[.int .u32 (ahead : Int), .int .u32 (number : Int), v] w fun e w' => e = .returned (.int .u32 ((checkN ahead number p : Nat) : Int)) ∧ Kept (fun _ => False) w w' := by
  obtain ⟨ad, cap, rfl, h1, h2, _⟩ := hp.open
  have HV := Lw.hid hp; have HT := Lw.hid ht
  obtain ⟨n, hln⟩ : ∃ n, p.length = n := ⟨_, rfl⟩
  have HLN := Lw.hid hln
  rw [hln] at hl h1 HV ⊢
  clear hp ht hln h2
  go_enter Tryz.func92, Tryz.ntmps92
  go_wp2_with fail
  obtain ⟨w0, hw0⟩ : ∃ w0, w.alloc (.cells #[.slice none 0 0, .int .i64 0] 86) = w0 := ⟨_, rfl⟩
  obtain ⟨bw, hbw⟩ : ∃ bw, w.heap.size = bw := ⟨_, rfl⟩
  have K0 : Hid (Kept (fun _ => False) w w0) := Lw.hid (by rw [← hw0]; exact (Kept.refl _ w).alloc _)
  have H0 : Hid (WriterAt w0 bw (.slice none 0 0) [] 0) := Lw.hid (by
    rw [← hw0, ← hbw]
    exact ⟨⟨_, heap_alloc w _⟩, World.ownsRow_nil _ _ _ _, fun h => (blk_none h).elim⟩)
  have HBW := Lw.hid hbw
  rw [hw0, hbw]
  clear hw0 hbw
  refine (four_any w0 bw _ [] _ ahead rfl ha H0.out (by simp)).mono ?_
  rintro e w1 ⟨rfl, hq⟩
  obtain ⟨v1, hw1, hk1, hf1⟩ := wr_step (Kept.refl _ w0) (fun k h => (blk_none h).elim) hq
  have H1 := Lw.hid hw1; have K1 := Lw.hid hk1; have F1 := Lw.hid hf1
  clear hq hw1 hk1 hf1
  go_wp2_with fail
  refine (four_any w1 bw v1 _ _ number rfl hn H1.out (by simp [be_length])).mono ?_
  rintro e w2 ⟨rfl, hq⟩
  obtain ⟨v2, hw2, hk2, hf2⟩ := wr_step K1.out F1.out hq
  have H2 := Lw.hid hw2; have K2 := Lw.hid hk2; have F2 := Lw.hid hf2
  clear hq hw2 hk2 hf2
  go_wp2_with fail
  refine (two_any w2 bw v2 _ _ n rfl (by omega) H2.out (by simp [be_length])).mono ?_
  rintro e w3 ⟨rfl, hq⟩
  obtain ⟨v3, hw3, hk3, hf3⟩ := wr_step K2.out F2.out hq
  have H3 := Lw.hid hw3; have K3 := Lw.hid hk3; have F3 := Lw.hid hf3
  clear hq hw3 hk3 hf3
  have HV3 : Hid (RdB w3 (.slice ad n cap) p) := Lw.hid ((HV.out.kept K0.out (fun _ _ h => h)).keptE K3.out (fun hne k hk e => by
    have := HV.out.lt hne k hk
    rw [HBW.out] at this; omega))
  go_wp2_with fail
  refine (byte_any w3 bw v3 _ _ p H3.out HV3.out (by simp [be_length]; rw [HLN.out]; omega)).mono ?_
  rintro e w4 ⟨rfl, hq⟩
  obtain ⟨v4, hw4, hk4, hf4⟩ := wr_step K3.out F3.out hq
  have H4 := Lw.hid hw4; have K4 := Lw.hid hk4; have F4 := Lw.hid hf4
  clear hq hw4 hk4 hf4
  obtain ⟨L, hL⟩ : ∃ L, [] ++ be 4 ahead ++ be 4 number ++ be 2 n ++ p = L := ⟨_, rfl⟩
  have HLL : Hid (checkB ahead number p = L ∧ L.length ≤ 70000) := Lw.hid (by
    rw [← hL]
    refine ⟨by unfold checkB; rw [HLN.out]; simp, by simp [be_length]; rw [HLN.out]; omega⟩)
  rw [hL] at H4
  clear hL
  go_wp2_with fail
  refine (done_any w4 bw v4 _ H4.out (by have := HLL.out.2; omega)).mono ?_
  rintro e w5 ⟨r, rfl, v5, hw5, hk5, hf5, hr5, _⟩
  have K5 : Hid (Kept (fun _ => False) w w5) := Lw.hid (K0.out.trans (K4.out.trans hk5 (fun i hi e => by
    rcases e with e | e
    · exact e
    · have := F4.out i e; omega)) (fun i hi e => by subst e; have := HBW.out; omega))
  have HR5 := Lw.hid (RdB.of_own hr5 rfl)
  clear hw5 hk5 hf5 hr5
  obtain ⟨ad5, cap5, e5, _, _, _⟩ := HR5.out.open
  obtain ⟨m5, hm5⟩ : ∃ m5, L.length = m5 := ⟨_, rfl⟩
  rw [hm5] at e5
  clear hm5
  subst e5
  go_wp2_with fail
  refine (crc_any _ _ w5 HR5.out (HT.out.below (K5.out.below (Nat.le_refl _) (fun _ _ h => h)))).mono ?_
  rintro e w6 ⟨rfl, rfl⟩
  go_wp2_with fail
  go_ret
  refine ⟨?_, K5.out⟩
  unfold checkN
  rw [HLL.out.1]; rfl
set_option maxHeartbeats 4000000 in
theorem frame_any (w : World) (number sum : Nat) (v : Value) (p : List UInt8) (hp : RdB w v p) (hl : p.length ≤ 65535) (hn : number < 4294967296) (ha : sum < 4294967296) :
    Calls Tryz.prog 97 #[.int .u32 (number : Int), .int .u32 (sum : Int), v] w fun e w' => ∃ r, e = .returned r ∧ w'.ownsRow 0 5 1 r (frameB number sum p).length ((frameB number sum p).map bv) ∧ (∀ k, blk r k → w.heap.size ≤ k) ∧ Kept (fun _ => False) w w' := by
  obtain ⟨ad, cap, rfl, h1, h2, _⟩ := hp.open
  have HV := Lw.hid hp
  obtain ⟨n, hln⟩ : ∃ n, p.length = n := ⟨_, rfl⟩
  have HLN := Lw.hid hln
  rw [hln] at hl h1 HV ⊢
  clear hp hln h2
  go_enter Tryz.func97, Tryz.ntmps97
  go_wp2_with fail
  obtain ⟨w0, hw0⟩ : ∃ w0, w.alloc (.cells #[.slice none 0 0, .int .i64 0] 86) = w0 := ⟨_, rfl⟩
  obtain ⟨bw, hbw⟩ : ∃ bw, w.heap.size = bw := ⟨_, rfl⟩
  have K0 : Hid (Kept (fun _ => False) w w0) := Lw.hid (by rw [← hw0]; exact (Kept.refl _ w).alloc _)
  have H0 : Hid (WriterAt w0 bw (.slice none 0 0) [] 0) := Lw.hid (by
    rw [← hw0, ← hbw]
    exact ⟨⟨_, heap_alloc w _⟩, World.ownsRow_nil _ _ _ _, fun h => (blk_none h).elim⟩)
  have HBW := Lw.hid hbw
  rw [hw0, hbw]
  clear hw0 hbw
  refine (two_any w0 bw _ [] _ n rfl (by omega) H0.out (by simp)).mono ?_
  rintro e w1 ⟨rfl, hq⟩
  obtain ⟨v1, hw1, hk1, hf1⟩ := wr_step (Kept.refl _ w0) (fun k h => (blk_none h).elim) hq
  have H1 := Lw.hid hw1; have K1 := Lw.hid hk1; have F1 := Lw.hid hf1
  clear hq hw1 hk1 hf1
  go_wp2_with fail
  refine (four_any w1 bw v1 _ _ number rfl hn H1.out (by simp [be_length])).mono ?_
  rintro e w2 ⟨rfl, hq⟩
  obtain ⟨v2, hw2, hk2, hf2⟩ := wr_step K1.out F1.out hq
  have H2 := Lw.hid hw2; have K2 := Lw.hid hk2; have F2 := Lw.hid hf2
  clear hq hw2 hk2 hf2
  go_wp2_with fail
  refine (four_any w2 bw v2 _ _ sum rfl ha H2.out (by simp [be_length])).mono ?_
  rintro e w3 ⟨rfl, hq⟩
  obtain ⟨v3, hw3, hk3, hf3⟩ := wr_step K2.out F2.out hq
  have H3 := Lw.hid hw3; have K3 := Lw.hid hk3; have F3 := Lw.hid hf3
  clear hq hw3 hk3 hf3
  have HV3 : Hid (RdB w3 (.slice ad n cap) p) := Lw.hid ((HV.out.kept K0.out (fun _ _ h => h)).keptE K3.out (fun hne k hk e => by
    have := HV.out.lt hne k hk
    rw [HBW.out] at this; omega))
  go_wp2_with fail
  refine (byte_any w3 bw v3 _ _ p H3.out HV3.out (by simp [be_length]; rw [HLN.out]; omega)).mono ?_
  rintro e w4 ⟨rfl, hq⟩
  obtain ⟨v4, hw4, hk4, hf4⟩ := wr_step K3.out F3.out hq
  have H4 := Lw.hid hw4; have K4 := Lw.hid hk4; have F4 := Lw.hid hf4
  clear hq hw4 hk4 hf4
  obtain ⟨L, hL⟩ : ∃ L, [] ++ be 2 n ++ be 4 number ++ be 4 sum ++ p = L := ⟨_, rfl⟩
  have HLL : Hid (frameB number sum p = L ∧ L.length ≤ 70000) := Lw.hid (by
    rw [← hL]
    refine ⟨by unfold frameB; rw [HLN.out]; simp, by simp [be_length]; rw [HLN.out]; omega⟩)
  rw [hL] at H4
  clear hL
  go_wp2_with fail
  refine (done_any w4 bw v4 _ H4.out (by have := HLL.out.2; omega)).mono ?_
  rintro e w5 ⟨r, rfl, v5, hw5, hk5, hf5, hr5, hb5⟩
  have K5 : Hid (Kept (fun _ => False) w w5) := Lw.hid (K0.out.trans (K4.out.trans hk5 (fun i hi e => by
    rcases e with e | e
    · exact e
    · have := F4.out i e; omega)) (fun i hi e => by subst e; have := HBW.out; omega))
  have HR5 := Lw.hid hr5
  have HB5 : Hid (∀ k, blk r k → w.heap.size ≤ k) := Lw.hid (fun k hk => by have := (hb5 k hk).1; have := K4.out.size; have := K0.out.size; omega)
  obtain ⟨ad5, cap5, e5, _, _, _⟩ := own_slice hr5
  obtain ⟨m5, hm5⟩ : ∃ m5, L.length = m5 := ⟨_, rfl⟩
  rw [hm5] at e5
  clear hw5 hk5 hf5 hr5 hb5 hm5
  subst e5
  go_wp2_with fail
  go_ret
  refine ⟨_, rfl, ?_, HB5.out, K5.out⟩
  rw [HLL.out.1]; exact HR5.out
end Go.Proofs.YtgegjjnfcnalfaaGreatDoor
namespace Go.Lw
structure Rdr where
  l : List UInt8
  short : Bool
def Rdr.take (r : Rdr) (n : Nat) : List UInt8 × Rdr :=
  if r.short then ([], r) else if r.l.length < n then ([], ⟨[], true⟩) else (r.l.take n, ⟨r.l.drop n, false⟩)
def beVal (l : List UInt8) : Nat := l.foldl (fun a c => a * 256 + c.toNat) 0
theorem beVal_snoc (l : List UInt8) (c : UInt8) : beVal (l ++ [c]) = beVal l * 256 + c.toNat := by simp [beVal, List.foldl_append]
theorem beVal_lt' (l : List UInt8) : ∀ a b, a < 256 ^ b → l.foldl (fun a c => a * 256 + c.toNat) a < 256 ^ (b + l.length) := by
  induction l with
  | nil => intro a b h; simpa using h
  | cons c l ih =>
    intro a b h
    rw [List.foldl_cons, List.length_cons, show b + (l.length + 1) = (b + 1) + l.length by omega]
    apply ih
    have := c.toNat_lt
    rw [Nat.pow_succ]
    omega
theorem beVal_lt (l : List UInt8) : beVal l < 256 ^ l.length := by
  have := beVal_lt' l 0 0 (by decide)
  simpa [beVal] using this
def Rdr.num (r : Rdr) (k : Nat) : Nat × Rdr := (beVal (r.take k).1, (r.take k).2)
def Rdr.text (r : Rdr) : List UInt8 × Rdr := (r.num 2).2.take (r.num 2).1
theorem Rdr.take_len (r : Rdr) (n : Nat) : (r.take n).1.length ≤ n := by
  unfold Rdr.take; split
  · simp
  split
  · simp
  · simp; omega
theorem Rdr.num_lt (r : Rdr) (k : Nat) : (r.num k).1 < 256 ^ k := by
  have h1 := beVal_lt (r.take k).1
  have h2 : 256 ^ (r.take k).1.length ≤ 256 ^ k := Nat.pow_le_pow_right (by decide) (r.take_len k)
  exact Nat.lt_of_lt_of_le h1 h2
def Rdr.ok (r : Rdr) : Prop := r.short = true → r.l = []
end Go.Lw
namespace Go.Proofs.YtgegjjnfcnalfaaGreatDoor
open Go Go.RowKit Go.Lw
set_option linter.unusedVariables false
structure Fd where
  p : List UInt8
  num : Nat
  sum : Nat
  fin : Nat
deriving DecidableEq
def Fd.zero : Fd := ⟨[], 0, 0, 0⟩
def stepF (b : List UInt8) (s : Fd) : Option Fd :=
  let r : Rdr := ⟨b.drop s.fin, false⟩
  let a := r.num 2
  let m := a.2.num 4
  let c := m.2.num 4
  let t := c.2.take a.1
  if t.2.short = true ∨ m.1 ≠ (s.num + 1) % 4294967296 ∨ c.1 ≠ checkN s.sum m.1 t.1 then none else some ⟨t.1, m.1, c.1, s.fin + 10 + a.1⟩
def framesF (b : List UInt8) : Nat → Fd → List Fd
  | 0, _ => []
  | n + 1, s => match stepF b s with
    | none => []
    | some f => f :: framesF b n f
theorem take_ok {r : Rdr} {n : Nat} (h : (r.take n).2.short = false) : r.short = false ∧ n ≤ r.l.length ∧ r.take n = (r.l.take n, ⟨r.l.drop n, false⟩) := by
  unfold Rdr.take at *
  split at h
  · rename_i e; rw [e] at h; cases h
  · rename_i e
    split at h
    · cases h
    · rename_i e2
      exact ⟨by simpa using e, by omega, by rw [if_neg e, if_neg e2]⟩
theorem step_some {b : List UInt8} {s f : Fd} (h : stepF b s = some f) : 10 + beVal ((b.drop s.fin).take 2) ≤ (b.drop s.fin).length ∧ f.p = ((b.drop s.fin).drop 10).take (beVal ((b.drop s.fin).take 2)) ∧ f.num = beVal (((b.drop s.fin).drop 2).take 4) ∧ f.sum = beVal (((b.drop s.fin).drop 6).take 4) ∧ f.fin = s.fin + 10 + beVal ((b.drop s.fin).take 2) ∧ f.num = (s.num + 1) % 4294967296 ∧ f.sum = checkN s.sum f.num f.p := by
  unfold stepF at h
  simp only at h
  split at h
  · cases h
  · rename_i hc
    cases h
    simp only [not_or, Bool.not_eq_true, ne_eq, Decidable.not_not] at hc
    obtain ⟨h1, h2, h3⟩ := hc
    obtain ⟨t1, t2, t3⟩ := take_ok h1
    obtain ⟨c1, c2, c3⟩ := take_ok (n := 4) t1
    obtain ⟨m1, m2, m3⟩ := take_ok (n := 4) c1
    obtain ⟨a1, a2, a3⟩ := take_ok (n := 2) m1
    have m3' : (((Rdr.mk (b.drop s.fin) false).num 2).2.take 4) = ((((b.drop s.fin).drop 2).take 4), ⟨((b.drop s.fin).drop 2).drop 4, false⟩) := by
      rw [m3]; simp only [Rdr.num, a3]
    have c3' : ((((Rdr.mk (b.drop s.fin) false).num 2).2.num 4).2.take 4) = (((((b.drop s.fin).drop 2).drop 4).take 4), ⟨(((b.drop s.fin).drop 2).drop 4).drop 4, false⟩) := by
      rw [c3]; simp only [Rdr.num]; simp only [Rdr.num] at m3'; rw [m3']
    have n2 : ((Rdr.mk (b.drop s.fin) false).num 2).1 = beVal ((b.drop s.fin).take 2) := by simp only [Rdr.num, a3]
    have q2 : (((Rdr.mk (b.drop s.fin) false).num 2).2.num 4).1 = beVal (((b.drop s.fin).drop 2).take 4) := by
      show beVal (((Rdr.mk (b.drop s.fin) false).num 2).2.take 4).1 = _; rw [m3']
    have q3 : ((((Rdr.mk (b.drop s.fin) false).num 2).2.num 4).2.num 4).1 = beVal ((((b.drop s.fin).drop 2).drop 4).take 4) := by
      show beVal ((((Rdr.mk (b.drop s.fin) false).num 2).2.num 4).2.take 4).1 = _; rw [c3']
    have q4 : ((((Rdr.mk (b.drop s.fin) false).num 2).2.num 4).2.num 4).2 = ⟨(((b.drop s.fin).drop 2).drop 4).drop 4, false⟩ := by
      show ((((Rdr.mk (b.drop s.fin) false).num 2).2.num 4).2.take 4).2 = _; rw [c3']
    have c2' : 4 ≤ (((b.drop s.fin).drop 2).drop 4).length := by
      have h5 : 4 ≤ (((Rdr.mk (b.drop s.fin) false).num 2).2.take 4).2.l.length := c2
      rw [m3'] at h5; exact h5
    rw [n2, q4] at t2 t3
    dsimp only at t2
    rw [q4, n2] at h3
    rw [t3] at h3
    rw [q2] at h2
    rw [q2, q3] at h3
    simp only [n2, q2, q3, q4, t3]
    simp only [List.drop_drop, List.length_drop, Nat.add_assoc, Nat.reduceAdd] at t2 h2 h3 c2' ⊢
    exact ⟨by omega, trivial, trivial, trivial, trivial, h2, h3⟩
theorem step_fin {b : List UInt8} {s f : Fd} (h : stepF b s = some f) (hs : s.fin ≤ b.length) : f.fin ≤ b.length ∧ s.fin + 10 ≤ f.fin := by
  obtain ⟨h1, _, _, _, h5, _⟩ := step_some h
  rw [List.length_drop] at h1
  omega
end Go.Proofs.YtgegjjnfcnalfaaGreatDoor
