/- longwireref15: number, Check, Frame. -/
import Derived.Test.YtfmebmaklakckaaDoorLogT
import Derived.Test.YtfmebmaklakckaaDoorNum
import Derived.Deep.LoopGhost
namespace Go.Proofs.YtfmebmaklakckaaDoor
open Go Go.RowKit Go.Lw
set_option maxRecDepth 100000
set_option linter.unusedVariables false
set_option linter.unusedSimpArgs false
/-- A row of bytes of one's own, in new memory. -/
structure OwnB (w wr : World) (v : Value) (l : List UInt8) (n : Nat) : Prop where
  own : wr.ownsRow 0 5 1 v n (l.map bv)
  fr : ∀ k, blk v k → w.heap.size ≤ k
  k : Kept (fun _ => False) w wr
theorem OwnB.keptF {w wr w' : World} {v : Value} {l : List UInt8} {n : Nat} (h : OwnB w wr v l n) (k : Kept (fun _ => False) wr w') : OwnB w w' v l n :=
  ⟨own_kept k h.own (fun _ _ h => h), h.fr, h.k.trans k (fun _ _ h => h)⟩
theorem OwnB.nil (w : World) : OwnB w w (.slice none 0 0) [] 0 := ⟨World.ownsRow_nil _ 0 _ 1, fun k hk => (blk_none hk).elim, Kept.refl _ _⟩
theorem OwnB.app {w wr w' : World} {ad ad' : Option Addr} {n m c c' : Nat} {l l' : List UInt8} (h : OwnB w wr (.slice ad n c) l n) (ho : w'.ownsRow 0 5 1 (.slice ad' (n + m) c') (n + m) (l.map bv ++ l'.map bv)) (hg : wr.grownBy w' (Value.slice ad n c).ownBlock) (hf : Fresh wr (.slice ad n c) (.slice ad' (n + m) c')) : OwnB w w' (.slice ad' (n + m) c') (l ++ l') (n + m) :=
  ⟨by rw [List.map_append]; exact ho, fun k hk => by
    rcases hf k hk with e | e
    · exact h.fr k e
    · have := h.k.size; omega, h.k.grown hg (fun k e hk => by have := h.fr k e; omega)⟩
set_option maxHeartbeats 8000000 in
theorem rcheck_any (w : World) (ahead number : Nat) (v : Value) (p : List UInt8) (hp : RdB w v p) (hl : p.length ≤ 65535) (ha : ahead < 4294967296) (hn : number < 4294967296) :
    Calls Tryd.prog 63 #[.int .u32 (ahead : Int), .int .u32 (number : Int), v] w fun e w' => e = .returned (.int .u32 ((checkN ahead number p : Nat) : Int)) ∧ Kept (fun _ => False) w w' := by
  obtain ⟨ad, cap, rfl, h1, h2, _⟩ := hp.open
  have HV := Lw.hid hp
  obtain ⟨n, hln⟩ : ∃ n, p.length = n := ⟨_, rfl⟩
  have HLN := Lw.hid hln
  rw [hln] at hl h1 HV ⊢
  unfold maxLen at h2
  clear hp hln
  have O0 := Lw.hid (OwnB.nil w)
  go_enter Tryd.func63, Tryd.ntmps63
  go_wp2_with fail
  refine (number_any w ahead 4 (by omega) (by decide)).mono ?_
  rintro e w1 ⟨r1, rfl, ho1, k1, b1⟩
  obtain ⟨ad1, cap1, rfl, _, _, _⟩ := own_slice ho1
  have O1 := Lw.hid (O0.out.keptF k1); have R1 := Lw.hid (Rd.own ho1)
  clear ho1 k1 b1
  go_wp2_with (at_builtin; refine wpList_app rfl _ _ _ rfl EB _ 0 _ rfl O1.out.own _ 4 _ rfl R1.out (bytes_oneCell _) (by unfold maxLen; omega) (by omega) ?_; intro ad2 cap2 wx2 ho hg hf; have P1 := Lw.hid (O1.out.app ho hg hf); clear ho hg hf)
  refine (number_any wx2 number 4 (by omega) (by decide)).mono ?_
  rintro e w2 ⟨r2, rfl, ho2, k2, b2⟩
  obtain ⟨ad3, cap3, rfl, _, _, _⟩ := own_slice ho2
  have O2 := Lw.hid (P1.out.keptF k2); have R2 := Lw.hid (Rd.own ho2)
  clear ho2 k2 b2
  go_wp2_with (at_builtin; refine wpList_app rfl _ _ _ rfl EB _ (0 + 4) _ rfl O2.out.own _ 4 _ rfl R2.out (bytes_oneCell _) (by unfold maxLen; omega) (by omega) ?_; intro ad4 cap4 wx4 ho hg hf; have P2 := Lw.hid (O2.out.app ho hg hf); clear ho hg hf)
  refine (number_any wx4 n 2 (by omega) (by decide)).mono ?_
  rintro e w3 ⟨r3, rfl, ho3, k3, b3⟩
  obtain ⟨ad5, cap5, rfl, _, _, _⟩ := own_slice ho3
  have O3 := Lw.hid (P2.out.keptF k3); have R3 := Lw.hid (Rd.own ho3)
  have HV3 := Lw.hid (rd_castL HLN.out (HV.out.kept O3.out.k (fun _ _ h => h)))
  clear ho3 k3 b3
  go_wp2_with first
    | (at_builtin; refine wpList_app rfl _ _ _ rfl EB _ (0 + 4 + 4) _ rfl O3.out.own _ 2 _ rfl R3.out (bytes_oneCell _) (by unfold maxLen; omega) (by omega) ?_; intro ad6 cap6 wx6 ho hg hf; have P3 := Lw.hid (O3.out.app ho hg hf); have HV4 := Lw.hid (rd_castL HLN.out (HV.out.kept P3.out.k (fun _ _ h => h))); clear ho hg hf)
    | (at_builtin; refine wpList_app rfl _ _ _ rfl EB _ (0 + 4 + 4 + 2) _ rfl P3.out.own _ n _ rfl HV4.out (bytes_oneCell _) (by unfold maxLen; omega) (by omega) ?_; intro ad7 cap7 wx7 ho hg hf; have P4 := Lw.hid (P3.out.app ho hg hf); clear ho hg hf)
  have hcl : ([] ++ be 4 ahead ++ be 4 number ++ be 2 n ++ p).length = 0 + 4 + 4 + 2 + n := by simp [be_length, HLN.out]; omega
  refine (refCrc_any _ ([] ++ be 4 ahead ++ be 4 number ++ be 2 n ++ p) wx7 (RdB.of_own P4.out.own hcl.symm)).mono ?_
  rintro e _ ⟨rfl, rfl⟩
  go_wp2_with fail
  go_ret
  refine ⟨?_, P4.out.k⟩
  unfold checkN checkB
  rw [HLN.out]
  simp
set_option maxHeartbeats 8000000 in
theorem rframe_any (w : World) (ahead number : Nat) (v : Value) (p : List UInt8) (hp : RdB w v p) (hl : p.length ≤ 65535) (ha : ahead < 4294967296) (hn : number < 4294967296) :
    Calls Tryd.prog 64 #[.int .u32 (ahead : Int), .int .u32 (number : Int), v] w fun e w' => ∃ r, e = .returned r ∧ w'.ownsRow 0 5 1 r (frameB number (checkN ahead number p) p).length ((frameB number (checkN ahead number p) p).map bv) ∧ (∀ k, blk r k → w.heap.size ≤ k) ∧ Kept (fun _ => False) w w' := by
  obtain ⟨ad, cap, rfl, h1, h2, _⟩ := hp.open
  have HV := Lw.hid hp
  obtain ⟨n, hln⟩ : ∃ n, p.length = n := ⟨_, rfl⟩
  have HLN := Lw.hid hln
  rw [hln] at hl h1 HV ⊢
  unfold maxLen at h2
  clear hp hln
  go_enter Tryd.func64, Tryd.ntmps64
  go_wp2_with fail
  refine (number_any w n 2 (by omega) (by decide)).mono ?_
  rintro e w1 ⟨r1, rfl, ho1, k1, b1⟩
  obtain ⟨ad1, cap1, rfl, _, _, _⟩ := own_slice ho1
  have O1 : Hid (OwnB w w1 (.slice ad1 2 cap1) (be 2 n) 2) := Lw.hid ⟨ho1, b1, k1⟩
  clear ho1 k1 b1
  go_wp2_with fail
  refine (number_any w1 number 4 (by omega) (by decide)).mono ?_
  rintro e w2 ⟨r2, rfl, ho2, k2, b2⟩
  obtain ⟨ad3, cap3, rfl, _, _, _⟩ := own_slice ho2
  have O2 := Lw.hid (O1.out.keptF k2); have R2 := Lw.hid (Rd.own ho2)
  clear ho2 k2 b2
  go_wp2_with (at_builtin; refine wpList_app rfl _ _ _ rfl EB _ 2 _ rfl O2.out.own _ 4 _ rfl R2.out (bytes_oneCell _) (by unfold maxLen; omega) (by omega) ?_; intro ad4 cap4 wx4 ho hg hf; have P2 := Lw.hid (O2.out.app ho hg hf); clear ho hg hf)
  have HV2 := Lw.hid (HV.out.kept P2.out.k (fun _ _ h => h))
  refine (rcheck_any wx4 ahead number _ p HV2.out (by rw [HLN.out]; exact hl) ha hn).mono ?_
  rintro e w3 ⟨rfl, k3⟩
  have hcs := checkN_lt ahead number p
  obtain ⟨cs, hcse⟩ : ∃ cs, checkN ahead number p = cs := ⟨_, rfl⟩
  have HCS := Lw.hid hcse
  rw [hcse] at hcs ⊢
  have O3 := Lw.hid (P2.out.keptF k3)
  clear k3 hcse
  go_wp2_with fail
  refine (number_any w3 cs 4 (by omega) (by decide)).mono ?_
  rintro e w4 ⟨r4, rfl, ho4, k4, b4⟩
  obtain ⟨ad5, cap5, rfl, _, _, _⟩ := own_slice ho4
  have O4 := Lw.hid (O3.out.keptF k4); have R4 := Lw.hid (Rd.own ho4)
  clear ho4 k4 b4
  go_wp2_with first
    | (at_builtin; refine wpList_app rfl _ _ _ rfl EB _ (2 + 4) _ rfl O4.out.own _ 4 _ rfl R4.out (bytes_oneCell _) (by unfold maxLen; omega) (by omega) ?_; intro ad6 cap6 wx6 ho hg hf; have P5 := Lw.hid (O4.out.app ho hg hf); have HV4 := Lw.hid (rd_castL HLN.out (HV.out.kept P5.out.k (fun _ _ h => h))); clear ho hg hf)
    | (at_builtin; refine wpList_app rfl _ _ _ rfl EB _ (2 + 4 + 4) _ rfl P5.out.own _ n _ rfl HV4.out (bytes_oneCell _) (by unfold maxLen; omega) (by omega) ?_; intro ad7 cap7 wx7 ho hg hf; have P6 := Lw.hid (P5.out.app ho hg hf); clear ho hg hf)
  go_ret
  have he : be 2 n ++ be 4 number ++ be 4 cs ++ p = frameB number cs p := by unfold frameB; rw [HLN.out]
  have h := P6.out.own
  rw [he] at h
  refine ⟨_, rfl, ?_, P6.out.fr, P6.out.k⟩
  rw [HCS.out, frameB_len, HLN.out, show 10 + n = 2 + 4 + 4 + n by omega]
  exact h
end Go.Proofs.YtfmebmaklakckaaDoor
