/- log.check, log.frame: a writer's chain of calls. -/
import Derived.Test.YtfmebmaklakckaaDoorCrc
import Derived.Test.YtfmebmaklakckaaDoorWriter
namespace Go.Proofs.YtfmebmaklakckaaDoor
open Go Go.RowKit Go.Lw
set_option maxRecDepth 100000
set_option linter.unusedVariables false
/-- What is checked of a payload. -/
def checkB (ahead number : Nat) (p : List UInt8) : List UInt8 := be 4 ahead ++ be 4 number ++ be 2 p.length ++ p
def checkN (ahead number : Nat) (p : List UInt8) : Nat := crcN (checkB ahead number p)
def frameB (number sum : Nat) (p : List UInt8) : List UInt8 := be 2 p.length ++ be 4 number ++ be 4 sum ++ p
theorem wr_step {w0 a b : World} {bw : Nat} {v : Value} {l' : List UInt8} (hk : Kept (fun k => k = bw) w0 a) (hf : ∀ k, blk v k → w0.heap.size ≤ k) (h : WrPost a b bw v l' 0) :
    ∃ v', WriterAt b bw v' l' 0 ∧ Kept (fun k => k = bw) w0 b ∧ ∀ k, blk v' k → w0.heap.size ≤ k := by
  obtain ⟨v', h1, h2, h3⟩ := h
  refine ⟨v', h1, hk.trans h2 (fun i hi e => by
    rcases e with e | e
    · exact e
    · have := hf i e; omega), fun k hb => ?_⟩
  rcases h3 k hb with e | e
  · exact hf k e
  · exact Nat.le_trans hk.size e
set_option maxHeartbeats 4000000 in
theorem check_any (w : World) (ahead number : Nat) (v : Value) (p : List UInt8) (hp : RdB w v p) (hl : p.length ≤ 65535) (ha : ahead < 4294967296) (hn : number < 4294967296) (ht : Tab w) :
    Calls Tryd.prog 32 #[.int .u32 (ahead : Int), .int .u32 (number : Int), v] w fun e w' => e = .returned (.int .u32 ((checkN ahead number p : Nat) : Int)) ∧ Kept (fun _ => False) w w' := by
  obtain ⟨ad, cap, rfl, h1, h2, _⟩ := hp.open
  have HV := Lw.hid hp; have HT := Lw.hid ht
  obtain ⟨n, hln⟩ : ∃ n, p.length = n := ⟨_, rfl⟩
  have HLN := Lw.hid hln
  rw [hln] at hl h1 HV ⊢
  clear hp ht hln h2
  go_enter Tryd.func32, Tryd.ntmps32
  go_wp2_with fail
  obtain ⟨w0, hw0⟩ : ∃ w0, w.alloc (.cells #[.slice none 0 0, .int .i64 0] 93) = w0 := ⟨_, rfl⟩
  obtain ⟨bw, hbw⟩ : ∃ bw, w.heap.size = bw := ⟨_, rfl⟩
  have K0 : Hid (Kept (fun _ => False) w w0) := Lw.hid (by rw [← hw0]; exact (Kept.refl _ w).alloc _)
  have H0 : Hid (WriterAt w0 bw (.slice none 0 0) [] 0) := Lw.hid (by
    rw [← hw0, ← hbw]
    exact ⟨⟨_, heap_alloc w _⟩, World.ownsRow_nil _ _ _ _, fun h => (blk_none h).elim⟩)
  have HBW := Lw.hid hbw
  rw [hw0, hbw]
  clear hw0 hbw
  refine (four_any w0 bw _ [] _ ahead rfl ha H0.out (by simp)).mono ?_
  rintro e w1 ⟨rfl, hq⟩
  obtain ⟨v1, hw1, hk1, hf1⟩ := wr_step (Kept.refl _ w0) (fun k h => (blk_none h).elim) hq
  have H1 := Lw.hid hw1; have K1 := Lw.hid hk1; have F1 := Lw.hid hf1
  clear hq hw1 hk1 hf1
  go_wp2_with fail
  refine (four_any w1 bw v1 _ _ number rfl hn H1.out (by simp [be_length])).mono ?_
  rintro e w2 ⟨rfl, hq⟩
  obtain ⟨v2, hw2, hk2, hf2⟩ := wr_step K1.out F1.out hq
  have H2 := Lw.hid hw2; have K2 := Lw.hid hk2; have F2 := Lw.hid hf2
  clear hq hw2 hk2 hf2
  go_wp2_with fail
  refine (two_any w2 bw v2 _ _ n rfl (by omega) H2.out (by simp [be_length])).mono ?_
  rintro e w3 ⟨rfl, hq⟩
  obtain ⟨v3, hw3, hk3, hf3⟩ := wr_step K2.out F2.out hq
  have H3 := Lw.hid hw3; have K3 := Lw.hid hk3; have F3 := Lw.hid hf3
  clear hq hw3 hk3 hf3
  have HV3 : Hid (RdB w3 (.slice ad n cap) p) := Lw.hid ((HV.out.kept K0.out (fun _ _ h => h)).keptE K3.out (fun hne k hk e => by
    have := HV.out.lt hne k hk
    rw [HBW.out] at this; omega))
  go_wp2_with fail
  refine (byte_any w3 bw v3 _ _ p H3.out HV3.out (by simp [be_length]; rw [HLN.out]; omega)).mono ?_
  rintro e w4 ⟨rfl, hq⟩
  obtain ⟨v4, hw4, hk4, hf4⟩ := wr_step K3.out F3.out hq
  have H4 := Lw.hid hw4; have K4 := Lw.hid hk4; have F4 := Lw.hid hf4
  clear hq hw4 hk4 hf4
  obtain ⟨L, hL⟩ : ∃ L, [] ++ be 4 ahead ++ be 4 number ++ be 2 n ++ p = L := ⟨_, rfl⟩
  have HLL : Hid (checkB ahead number p = L ∧ L.length ≤ 70000) := Lw.hid (by
    rw [← hL]
    refine ⟨by unfold checkB; rw [HLN.out]; simp, by simp [be_length]; rw [HLN.out]; omega⟩)
  rw [hL] at H4
  clear hL
  go_wp2_with fail
  refine (done_any w4 bw v4 _ H4.out (by have := HLL.out.2; omega)).mono ?_
  rintro e w5 ⟨r, rfl, v5, hw5, hk5, hf5, hr5, _⟩
  have K5 : Hid (Kept (fun _ => False) w w5) := Lw.hid (K0.out.trans (K4.out.trans hk5 (fun i hi e => by
    rcases e with e | e
    · exact e
    · have := F4.out i e; omega)) (fun i hi e => by subst e; have := HBW.out; omega))
  have HR5 := Lw.hid (RdB.of_own hr5 rfl)
  clear hw5 hk5 hf5 hr5
  obtain ⟨ad5, cap5, e5, _, _, _⟩ := HR5.out.open
  obtain ⟨m5, hm5⟩ : ∃ m5, L.length = m5 := ⟨_, rfl⟩
  rw [hm5] at e5
  clear hm5
  subst e5
  go_wp2_with fail
  refine (crc_any _ _ w5 HR5.out (HT.out.below (K5.out.below (Nat.le_refl _) (fun _ _ h => h)))).mono ?_
  rintro e w6 ⟨rfl, rfl⟩
  go_wp2_with fail
  go_ret
  refine ⟨?_, K5.out⟩
  unfold checkN
  rw [HLL.out.1]; rfl
set_option maxHeartbeats 4000000 in
theorem frame_any (w : World) (number sum : Nat) (v : Value) (p : List UInt8) (hp : RdB w v p) (hl : p.length ≤ 65535) (hn : number < 4294967296) (ha : sum < 4294967296) :
    Calls Tryd.prog 34 #[.int .u32 (number : Int), .int .u32 (sum : Int), v] w fun e w' => ∃ r, e = .returned r ∧ w'.ownsRow 0 5 1 r (frameB number sum p).length ((frameB number sum p).map bv) ∧ (∀ k, blk r k → w.heap.size ≤ k) ∧ Kept (fun _ => False) w w' := by
  obtain ⟨ad, cap, rfl, h1, h2, _⟩ := hp.open
  have HV := Lw.hid hp
  obtain ⟨n, hln⟩ : ∃ n, p.length = n := ⟨_, rfl⟩
  have HLN := Lw.hid hln
  rw [hln] at hl h1 HV ⊢
  clear hp hln h2
  go_enter Tryd.func34, Tryd.ntmps34
  go_wp2_with fail
  obtain ⟨w0, hw0⟩ : ∃ w0, w.alloc (.cells #[.slice none 0 0, .int .i64 0] 93) = w0 := ⟨_, rfl⟩
  obtain ⟨bw, hbw⟩ : ∃ bw, w.heap.size = bw := ⟨_, rfl⟩
  have K0 : Hid (Kept (fun _ => False) w w0) := Lw.hid (by rw [← hw0]; exact (Kept.refl _ w).alloc _)
  have H0 : Hid (WriterAt w0 bw (.slice none 0 0) [] 0) := Lw.hid (by
    rw [← hw0, ← hbw]
    exact ⟨⟨_, heap_alloc w _⟩, World.ownsRow_nil _ _ _ _, fun h => (blk_none h).elim⟩)
  have HBW := Lw.hid hbw
  rw [hw0, hbw]
  clear hw0 hbw
  refine (two_any w0 bw _ [] _ n rfl (by omega) H0.out (by simp)).mono ?_
  rintro e w1 ⟨rfl, hq⟩
  obtain ⟨v1, hw1, hk1, hf1⟩ := wr_step (Kept.refl _ w0) (fun k h => (blk_none h).elim) hq
  have H1 := Lw.hid hw1; have K1 := Lw.hid hk1; have F1 := Lw.hid hf1
  clear hq hw1 hk1 hf1
  go_wp2_with fail
  refine (four_any w1 bw v1 _ _ number rfl hn H1.out (by simp [be_length])).mono ?_
  rintro e w2 ⟨rfl, hq⟩
  obtain ⟨v2, hw2, hk2, hf2⟩ := wr_step K1.out F1.out hq
  have H2 := Lw.hid hw2; have K2 := Lw.hid hk2; have F2 := Lw.hid hf2
  clear hq hw2 hk2 hf2
  go_wp2_with fail
  refine (four_any w2 bw v2 _ _ sum rfl ha H2.out (by simp [be_length])).mono ?_
  rintro e w3 ⟨rfl, hq⟩
  obtain ⟨v3, hw3, hk3, hf3⟩ := wr_step K2.out F2.out hq
  have H3 := Lw.hid hw3; have K3 := Lw.hid hk3; have F3 := Lw.hid hf3
  clear hq hw3 hk3 hf3
  have HV3 : Hid (RdB w3 (.slice ad n cap) p) := Lw.hid ((HV.out.kept K0.out (fun _ _ h => h)).keptE K3.out (fun hne k hk e => by
    have := HV.out.lt hne k hk
    rw [HBW.out] at this; omega))
  go_wp2_with fail
  refine (byte_any w3 bw v3 _ _ p H3.out HV3.out (by simp [be_length]; rw [HLN.out]; omega)).mono ?_
  rintro e w4 ⟨rfl, hq⟩
  obtain ⟨v4, hw4, hk4, hf4⟩ := wr_step K3.out F3.out hq
  have H4 := Lw.hid hw4; have K4 := Lw.hid hk4; have F4 := Lw.hid hf4
  clear hq hw4 hk4 hf4
  obtain ⟨L, hL⟩ : ∃ L, [] ++ be 2 n ++ be 4 number ++ be 4 sum ++ p = L := ⟨_, rfl⟩
  have HLL : Hid (frameB number sum p = L ∧ L.length ≤ 70000) := Lw.hid (by
    rw [← hL]
    refine ⟨by unfold frameB; rw [HLN.out]; simp, by simp [be_length]; rw [HLN.out]; omega⟩)
  rw [hL] at H4
  clear hL
  go_wp2_with fail
  refine (done_any w4 bw v4 _ H4.out (by have := HLL.out.2; omega)).mono ?_
  rintro e w5 ⟨r, rfl, v5, hw5, hk5, hf5, hr5, hb5⟩
  have K5 : Hid (Kept (fun _ => False) w w5) := Lw.hid (K0.out.trans (K4.out.trans hk5 (fun i hi e => by
    rcases e with e | e
    · exact e
    · have := F4.out i e; omega)) (fun i hi e => by subst e; have := HBW.out; omega))
  have HR5 := Lw.hid hr5
  have HB5 : Hid (∀ k, blk r k → w.heap.size ≤ k) := Lw.hid (fun k hk => by have := (hb5 k hk).1; have := K4.out.size; have := K0.out.size; omega)
  obtain ⟨ad5, cap5, e5, _, _, _⟩ := own_slice hr5
  obtain ⟨m5, hm5⟩ : ∃ m5, L.length = m5 := ⟨_, rfl⟩
  rw [hm5] at e5
  clear hw5 hk5 hf5 hr5 hb5 hm5
  subst e5
  go_wp2_with fail
  go_ret
  refine ⟨_, rfl, ?_, HB5.out, K5.out⟩
  rw [HLL.out.1]; exact HR5.out
end Go.Proofs.YtfmebmaklakckaaDoor
