/- DiskRefused, walked. -/
import Derived.Test.YtoiinmiedmjghaaDiskT
namespace Go.Lw
open Go Go.RowKit
/-- make of a row, where the operation stands behind a guard. -/
theorem wpList_mkg {P : Program} {w : World} {ops : Array Oper} {rest : List Oper} {o : Oper} {a : Act} {Q : Exit → Act → World → Prop} (hw : Region.wanted o (yielded ops a.tmps) = true) (l c : Operand) (t : TypeId) (hop : o.op = Op.makeSlice t l c)
    {e : TypeId} {i : TypeInfo} (h1 : P.underlying t = some (.slice e)) (h2 : P.info? e = some i) (h3 : i.zero = some (.int .u8 0)) (h4 : i.size = 1) (h5 : i.bytes = 1)
    (kl kc : IntKind) (L C : Int) (n : Nat) (hl : a.eval l = .int kl L) (hc : a.eval c = .int kc C) (hL : L = (n : Int)) (hC : C = (n : Int)) (b2 : n ≤ 281474976710656)
    (hK : ∀ g w', g = w.heap.size → w'.ownsRow 0 e 1 (.slice (some ⟨g, 0, none⟩) n n) n ((List.replicate n (0 : UInt8)).map bv) → Kept (fun _ => False) w w' → wpList P ops Q rest (a.put o.dst (.slice (some ⟨g, 0, none⟩) n n)) w') :
    wpList P ops Q (o :: rest) a w := by
  refine wpList_step fun K hK' => ?_
  rw [if_pos hw]
  obtain ⟨w', hrun, r1, r2⟩ := run_make_full (P := P) w 0 t e i (.int .u8 0) 1 h1 h2 h3 h4 kl kc n (by rw [h5, Nat.one_mul]; exact b2) (by unfold maxLen; omega) (Nat.zero_le _)
  subst hL
  subst hC
  have hm : (madeCells (Value.int .u8 0).cells (n * 1)).toList = (List.replicate n (0 : UInt8)).map bv := by
    apply List.ext_getElem
    · simp [madeCells, Value.cells]
    · intro j h1 h2
      simp [madeCells, Value.cells, bv, Nat.mod_one]
  rw [hm] at r1
  unfold Oper.wp
  simp [execOp, hop, hl, hc, hrun, Result.andThen]
  exact hK' _ _ (hK _ w' rfl r1 ⟨r2.os, r2.tape, r2.output, r2.size, fun k hk _ => r2.block k hk (by simp)⟩)
end Go.Lw
namespace Go.Proofs.Ytoiinmiedmjghaa
open Go Go.RowKit Go.Lw
set_option maxRecDepth 100000
theorem diskInfoB : ∃ i, Try.prog.info? 5 = some i ∧ i.zero = some (.int .u8 0) ∧ i.size = 1 ∧ i.bytes = 1 := by
  obtain ⟨i, h1, h2, h3, h4⟩ := info_parts (P := Try.prog) (e := 5) (z := .int .u8 0) (size := 1) (bytes := 1) (by kernel_rfl)
  exact ⟨i, h1, h2, h3, h4⟩
theorem refused_plain (N : Nat) (a : Int) (l : List UInt8) (st : Bool) (er : Nat) (h : a < 0 ∧ st = false ∧ er = 1 ∨ ((N / 2 : Nat) : Int) < a ∧ st = false ∧ er = 1 ∨ ¬ a < 0 ∧ ¬ ((N / 2 : Nat) : Int) < a ∧ (N : Int) < a + l.length ∧ st = false ∧ er = 7 ∨ ¬ a < 0 ∧ ¬ ((N / 2 : Nat) : Int) < a ∧ ¬ (N : Int) < a + l.length ∧ st = true ∧ er = 10) :
    ∃ D : Dsk, (⟨N, List.replicate (N / 2) 0, 1, false, true, 0, 0⟩ : Dsk).put a l = (D, er) ∧ D.b = List.replicate (N / 2) 0 ∧ D.puts = 1 ∧ D.stopped = st := by
  unfold Dsk.put
  simp only [List.length_replicate]
  rw [if_neg (by simp)]
  rcases h with ⟨h, rfl, rfl⟩ | ⟨h, rfl, rfl⟩ | ⟨h1, h2, h, rfl, rfl⟩ | ⟨h1, h2, h, rfl, rfl⟩
  · rw [if_pos (.inl h)]; exact ⟨_, rfl, rfl, rfl, rfl⟩
  · rw [if_pos (.inr h)]; exact ⟨_, rfl, rfl, rfl, rfl⟩
  · rw [if_neg (by omega), if_pos (by omega)]; exact ⟨_, rfl, rfl, rfl, rfl⟩
  · rw [if_neg (by omega), if_neg (by omega), if_pos (by simp)]
    refine ⟨_, rfl, ?_, rfl, rfl⟩
    simp [lay]
    omega
theorem _root_.Go.Lw.RdB.at {w : World} {a : Option Addr} {n c : Nat} (h : RdB w (.slice a n c) (List.replicate n 0)) (k : Nat) (hk : k < n) : ∃ g off, a = some ⟨g, off, none⟩ ∧ w.cell? ⟨g, off + k, none⟩ = some (.int .u8 0) := by
  obtain ⟨a', c', e, _, _, hc⟩ := h.open
  obtain rfl : a = a' := by injection e
  obtain ⟨g, off, e, hc⟩ := hc k (by simpa using hk)
  exact ⟨g, off, e, by simpa using hc⟩
set_option maxHeartbeats 8000000 in
theorem drefused_any (w : World) (u : Value) (B : List UInt8) (hu : RdB w u B) (a : Int) (ha : -9223372036854775808 ≤ a ∧ a ≤ 9223372036854775807) (room : Nat) (hr : room < 256) :
    Calls Try.prog 3 #[u, .int .i64 a, .int .u8 (room : Int)] w fun e w' => e = .returned (.bool true) ∧ Below w.heap.size w w' := by
  obtain ⟨adu, capu, rfl, hu1, hu2, hu3⟩ := hu.open
  clear hu3
  unfold maxLen at hu2
  have HU := Lw.hid hu
  clear hu
  obtain ⟨n', hn', HB⟩ : ∃ n', n' = min B.length 60 ∧ Hid (RdB w (.slice adu n' capu) (B.take n')) := ⟨_, rfl, Lw.hid (HU.out.take _ (Nat.min_le_left _ _))⟩
  have HBL : Hid ((B.take n').length = n') := Lw.hid (by rw [List.length_take]; omega)
  have hn9 : n' ≤ 60 := by omega
  have hcases : n' = 60 ∧ 60 < B.length ∨ n' = B.length ∧ B.length ≤ 60 := by omega
  clear hn' HU
  generalize hbb : B.take n' = b at *
  clear hbb
  generalize B.length = bl at *
  obtain ⟨N, hN⟩ : ∃ N, room % 80 = N := ⟨_, rfl⟩
  have hN9 : N < 80 := by omega
  have hNr : (room : Int) % 80 = (N : Int) := by omega
  clear hN
  obtain ⟨hf, hhf⟩ : ∃ hf, N / 2 = hf := ⟨_, rfl⟩
  have hhz : (N : Int).tdiv 2 = (hf : Int) := by rw [← hhf]; rfl
  have hh2 : hf ≤ N := by omega
  obtain ⟨i, hi, hz0, hz1, hz2⟩ := diskInfoB
  have P1 : Hid ((⟨N, [], 0, false, false, 0, 0⟩ : Dsk).put 0 (List.replicate hf 0) = (⟨N, List.replicate hf 0, 1, false, false, -1, 0⟩, 0)) := Lw.hid (by
    unfold Dsk.put
    rw [if_neg (by simp), if_neg (by simp), if_neg (by simp; omega), if_neg (by simp)]
    simp [lay])
  have P2 : Hid ((⟨N, List.replicate hf 0, 1, false, false, -1, 0⟩ : Dsk).plan 0 0 = (⟨N, List.replicate hf 0, 1, false, true, 0, 0⟩, 0)) := Lw.hid rfl
  have HHF := Lw.hid hhf
  clear hhf
  go_enter Try.func3, Try.ntmps3
  rcases hcases with ⟨rfl, hlt⟩ | ⟨rfl, hlt⟩
  all_goals
    go_wp2_with fail
    refine (dnew_any w N (by omega)).mono ?_
    rintro e w1 ⟨g, rfl, d1, k1, hg⟩
    have D1 := Lw.hid d1; have K1 := Lw.hid k1
    have hg1 := heap_lt d1.box
    clear d1 k1
    go_wp2_with (refine wpList_mkg rfl _ _ _ rfl Try.underlying22 hi hz0 hz1 hz2 .i64 .i64 (hf : Int) (hf : Int) hf rfl rfl rfl rfl (by omega) ?_; intro gz w2 hgz ho hk; have HO := Lw.hid ho; have HK := Lw.hid hk; have HGZ := Lw.hid hgz; clear ho hk hgz)
    have ok1 : Dsk.ok ⟨N, [], 0, false, false, 0, 0⟩ := ⟨Nat.zero_le _, show N ≤ 1048576 by omega, (show 0 < 4611686018427387904 by decide), (show -4611686018427387904 < (0 : Int) by decide), (show (0 : Int) ≤ 9223372036854775807 by decide), (fun h => by cases h), (show -1 < (0 : Int) ∧ (0 : Int) ≤ 9223372036854775807 by decide)⟩
    have rz : RdB w2 (.slice (some ⟨gz, 0, none⟩) hf hf) (List.replicate hf 0) := RdB.of_own HO.out (List.length_replicate ..).symm
    have dz : DiskAt w2 g (.slice none 0 0) ⟨N, [], 0, false, false, 0, 0⟩ := D1.out.kept HK.out (fun h => h) (fun _ _ h => h)
    have az : ∀ k, blk (.slice (some ⟨gz, 0, none⟩) hf hf) k → k ≠ g ∧ ¬ blk (.slice none 0 0) k := fun k hk => by have := blk_new hk; have := HGZ.out; exact ⟨by omega, fun h => by cases h⟩
    have hz9 : -9223372036854775808 ≤ (0 : Int) ∧ (0 : Int) ≤ 9223372036854775807 := by decide
    have hh := dput_any w2 g (.slice none 0 0) ⟨N, [], 0, false, false, 0, 0⟩ dz ok1 0 hz9 (.slice (some ⟨gz, 0, none⟩) hf hf) (List.replicate hf 0) rz (fun _ => az)
    refine hh.mono ?_
    clear hh ok1 rz dz az hz9
    rw [P1.out]
    rintro e w3 ⟨rfl, hp⟩
    obtain ⟨v3, d3, k3, hv3⟩ := hp.keeps (K1.out.trans HK.out (fun _ _ h => h)) hg (fun k hk => by cases hk)
    have D3 := Lw.hid d3; have K3 := Lw.hid k3; have HV3 := Lw.hid hv3
    clear d3 k3 hp D1 K1 HO HK HGZ hv3
    go_wp2_with fail
    refine (dplan_any _ g _ _ D3.out 0 0).mono ?_
    rw [P2.out]
    rintro e w4 ⟨rfl, hp⟩
    obtain ⟨v4, d4, k4, hv4⟩ := hp.keeps K3.out hg HV3.out
    simp only at d4
    have D4 := Lw.hid d4; have K4 := Lw.hid k4; have HV4 := Lw.hid hv4
    have hbk := fun k (hk : blk (.slice adu b.length capu) k) => hk
    clear d4 k4 hp D3 K3 hv4 HV3
    have hbl := HBL.out
    have HLT := Lw.hid (fun hn => HB.out.lt (w := w) hn)
    obtain ⟨st, er, hcs⟩ : ∃ (st : Bool) (er : Nat), a < 0 ∧ st = false ∧ er = 1 ∨ ((N / 2 : Nat) : Int) < a ∧ st = false ∧ er = 1 ∨ ¬ a < 0 ∧ ¬ ((N / 2 : Nat) : Int) < a ∧ (N : Int) < a + b.length ∧ st = false ∧ er = 7 ∨ ¬ a < 0 ∧ ¬ ((N / 2 : Nat) : Int) < a ∧ ¬ (N : Int) < a + b.length ∧ st = true ∧ er = 10 := by
      by_cases c1 : a < 0
      · exact ⟨false, 1, .inl ⟨c1, rfl, rfl⟩⟩
      by_cases c2 : ((N / 2 : Nat) : Int) < a
      · exact ⟨false, 1, .inr (.inl ⟨c2, rfl, rfl⟩)⟩
      by_cases c3 : (N : Int) < a + b.length
      · exact ⟨false, 7, .inr (.inr (.inl ⟨c1, c2, c3, rfl, rfl⟩))⟩
      · exact ⟨true, 10, .inr (.inr (.inr ⟨c1, c2, c3, rfl, rfl⟩))⟩
    obtain ⟨D, hD, hDb, hDp, hDs⟩ := refused_plain N a b st er hcs
    rw [HHF.out] at hD hDb hcs
    rw [hbl] at hcs
    obtain ⟨cp, db, pt, ds, is, np, nb⟩ := D
    simp only at hDb hDp hDs
    subst hDb; subst hDp; subst hDs
    have HDP := Lw.hid hD
    have HRD : Hid ((⟨cp, List.replicate hf 0, 1, ds, is, np, nb⟩ : Dsk).rd 0 100 = List.replicate hf 0) := Lw.hid (by
      unfold Dsk.rd
      rw [if_neg (by simp)]
      simp
      omega)
    have hh := dput_any w4 g v4 _ D4.out (Dsk.ok_mk (by simp; omega) (by omega) (by decide) (by decide) (by decide) (fun _ => by decide)) a ha _ b (HB.out.kept K4.out (fun _ _ h => h)) (fun hn k hk => by
      have h1 := HLT.out hn k hk
      exact ⟨by omega, fun h => by have := HV4.out k h; omega⟩)
    rw [HDP.out] at hh
    have HH := Lw.hid hh
    clear hD hbl hbk hh
    rcases hcs with ⟨h1, rfl, rfl⟩ | ⟨h1, rfl, rfl⟩ | ⟨h1, h2, h3, rfl, rfl⟩ | ⟨h1, h2, h3, rfl, rfl⟩
    all_goals
      go_wp2_with fail
      refine HH.out.mono ?_
      rintro e w5 ⟨rfl, hp⟩
      obtain ⟨v5, d5, k5, hv5⟩ := hp.keeps K4.out hg HV4.out
      have D5 := Lw.hid d5; have K5 := Lw.hid k5
      have he := dend_any _ _ _ _ d5
      have hpu := dputs_any _ _ _ _ d5
      have hst := dstopped_any _ _ _ _ d5
      simp only [List.length_replicate] at he hpu hst
      have HE := Lw.hid he; have HPU := Lw.hid hpu; have HST := Lw.hid hst
      clear d5 k5 hv5 he hpu hst hp D4 K4 HV4 HH
      go_wp2_with fail
      refine HE.out.mono ?_
      rintro e _ ⟨rfl, rfl⟩
      go_wp2_with fail
      refine HPU.out.mono ?_
      rintro e _ ⟨rfl, rfl⟩
      go_wp2_with fail
      refine HST.out.mono ?_
      rintro e _ ⟨rfl, rfl⟩
      go_wp2_with fail
      refine (dread_any _ _ _ _ D5.out (by simp; omega) 0 100 (by decide) (by decide)).mono ?_
      rw [HRD.out]
      rintro e w6 ⟨r, rfl, o6, k6, _⟩
      have D6 := Lw.hid (D5.out.kept k6 (fun h => h) (fun _ _ h => h))
      have K6 := Lw.hid (K5.out.trans k6 (fun _ _ h => h))
      obtain ⟨ad6, cap6, rfl, _, _, _⟩ := own_slice o6
      have R6 := Lw.hid (RdB.of_own o6 rfl)
      rw [List.length_replicate] at R6 ⊢
      clear o6 k6 D5 K5 HE HPU HST
      go_wp2_with fail
      go_loop [85] (fun i => ∃ k : Nat, k ≤ hf ∧ i = .int .i64 k) (fun i => hf - (intOf i).toNat)
      case atStart => exact ⟨0, by omega, rfl⟩
      case round =>
        obtain ⟨k, hk, rfl⟩ := hrel
        by_cases hlt : k < hf
        · obtain ⟨ag, ao, rfl, hc⟩ := R6.out.at k hlt
          go_wp2_with fail
          go_round
          case rel => exact ⟨k + 1, by omega, by go_num⟩
          case measure => simp [intOf]; omega
        · go_wp2_with fail
          refine (dtells_any _).mono ?_
          rintro e w7 ⟨rfl, k7⟩
          have K7 := Lw.hid (K6.out.trans k7 (fun _ _ h => h))
          clear k7
          go_wp2_with fail
          go_ret
          exact ⟨rfl, Below.of_kept K7.out⟩
end Go.Proofs.Ytoiinmiedmjghaa
