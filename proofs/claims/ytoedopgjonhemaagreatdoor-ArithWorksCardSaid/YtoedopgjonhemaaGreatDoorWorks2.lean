/- ArithWorks: ranks, numbers, signs at a place. -/
import Derived.Test.YtoedopgjonhemaaGreatDoorWorks1
import Derived.Test.YtoedopgjonhemaaGreatDoorArith1
import Derived.Test.YtoedopgjonhemaaGreatDoorSoftTail
namespace Go.Proofs.YtoedopgjonhemaaGreatDoor
open Go Go.RowKit Go.Lw
set_option maxRecDepth 100000
set_option linter.unusedVariables false
set_option linter.unusedSimpArgs false
attribute [local go_sem] BA_toList
theorem so_any (w : World) (b : Bool) : Calls Tryz.prog 41 #[.bool b] w fun x w' => x = .returned (.int .i64 (truthI b)) ∧ w' = w := by
  cases b
  all_goals
    go_enter Tryz.func41, Tryz.ntmps41
    go_wp2_with fail
    go_ret
    exact ⟨rfl, rfl⟩
/-- A sign's token. -/
def tokSg (g : List UInt8) : Prop := g ∈ signsL ∨ g = [35]
set_option maxHeartbeats 4000000 in
theorem rank_any (w : World) (g : List UInt8) (h : tokSg g) : Calls Tryz.prog 40 #[.string (BA g)] w fun x w' => x = .returned (.int .i64 (rankF g : Int)) ∧ w' = w := by
  unfold tokSg signsL at h
  simp only [List.mem_cons, List.not_mem_nil, or_false] at h
  rcases h with (rfl | rfl | rfl | rfl | rfl | rfl | rfl | rfl | rfl | rfl | rfl | rfl | rfl | rfl | rfl | rfl | rfl | rfl | rfl | rfl | rfl | rfl | rfl | rfl) | rfl
  all_goals
    go_enter Tryz.func40, Tryz.ntmps40
    go_wp2_with fail
    go_ret
    exact ⟨rfl, rfl⟩
/-- What a number's digits are: a number, and whether it is one. -/
def numV (o : Option Nat) : Value := match o with
  | some n => .tuple #[.int .u64 (n : Int), .bool true]
  | none => .tuple #[.int .u64 0, .bool false]
set_option maxHeartbeats 4000000 in
theorem number23_any (w : World) (s : List UInt8) (hs9 : s.length ≤ 1000000) (hd : s.all digitB = true) :
    Calls Tryz.prog 59 #[.string (BA s)] w fun x w' => x = .returned (numV (numR s 0)) ∧ w' = w := by
  have hs := BA_size s
  obtain ⟨n, hn⟩ : ∃ n, s.length = n := ⟨_, rfl⟩
  have HN := Lw.hid hn; have HD := Lw.hid hd
  rw [hn] at hs hs9
  clear hn hd
  go_enter Tryz.func59, Tryz.ntmps59
  go_wp2_with fail
  go_loopg [4, 5] n (fun gk s4 s5 wx => ∃ k acc : Nat, gk = n - k ∧ k ≤ n ∧ s5 = .int .i64 (k : Int) ∧ s4 = .int .u64 (acc : Int) ∧ acc ≤ 9223372036854775808 ∧ numR s 0 = numR (s.drop k) acc ∧ wx = w)
  case atStart => exact ⟨0, 0, rfl, Nat.zero_le _, rfl, rfl, by omega, by rw [List.drop_zero], rfl⟩
  case round =>
    obtain ⟨k, acc, rfl, hk, rfl, rfl, hacc, hnum, rfl⟩ := hrel
    have HNUM := Lw.hid hnum
    clear hnum
    by_cases hlt : k < n
    · obtain ⟨c, hc⟩ : ∃ c, s[k]? = some c := ⟨_, List.getElem?_eq_getElem (by rw [HN.out]; exact hlt)⟩
      have g0 := BA_get hc
      have hdc : digitB c = true := List.all_eq_true.1 HD.out c (List.mem_of_getElem? hc)
      have hcn := dg_nat hdc
      have HDR : Hid (s.drop k = c :: s.drop (k + 1)) := Lw.hid (by
        obtain ⟨h1, h2⟩ := List.getElem?_eq_some_iff.1 hc
        rw [← h2, List.drop_eq_getElem_cons h1])
      obtain ⟨d, hdv⟩ : ∃ d, dgN c = d := ⟨_, rfl⟩
      have hd9 : d ≤ 9 ∧ d = c.toNat - 48 := by rw [← hdv]; unfold dgN; omega
      have HW8 : Hid (IntKind.u8.wrap ((c.toNat : Int) - 48) = (d : Int)) := Lw.hid (by rw [IntKind.wrap_u8]; omega)
      by_cases hb : (9223372036854775808 - d) / 10 < acc
      · have HR : Hid (numR s 0 = none) := Lw.hid (by rw [HNUM.out, HDR.out]; unfold numR; rw [hdv, if_pos hb])
        have hq : ((9223372036854775808 - ((c.toNat : Int) - 48)) / 10 < (acc : Int)) := by omega
        clear hc hdc hdv hb
        go_wp2_with fail
        go_ret2
        rw [HR.out]
        exact ⟨rfl, rfl⟩
      · have HR : Hid (numR s 0 = numR (s.drop (k + 1)) (10 * acc + d)) := Lw.hid (by rw [HNUM.out, HDR.out]; conv => lhs; unfold numR; rw [hdv, if_neg hb])
        have hq : ¬ ((9223372036854775808 - ((c.toNat : Int) - 48)) / 10 < (acc : Int)) := by omega
        clear hc hdc hdv
        go_wp2_with fail
        go_roundg (n - (k + 1))
        case measure => omega
        case rel => exact ⟨k + 1, 10 * acc + d, rfl, hlt, by go_num, by congr 1; omega, by omega, HR.out, rfl⟩
    · obtain rfl : k = n := by omega
      have HR : Hid (numR s 0 = some acc) := Lw.hid (by rw [HNUM.out, List.drop_eq_nil_of_le (by rw [HN.out]; exact Nat.le_refl _)]; rfl)
      clear HNUM
      go_wp2_with fail
      go_ret2
      rw [HR.out]
      exact ⟨rfl, rfl⟩
def sV2 (s : List UInt8) : Value := .string (BA s)
/-- The literal of signs, laid. -/
theorem sgAt_eq (k : Nat) (hk : k < 24) : (signsL.map sV2)[k]? = some (.string (BA (sgAt k))) := by
  have h : k = 0 ∨ k = 1 ∨ k = 2 ∨ k = 3 ∨ k = 4 ∨ k = 5 ∨ k = 6 ∨ k = 7 ∨ k = 8 ∨ k = 9 ∨ k = 10 ∨ k = 11 ∨ k = 12 ∨ k = 13 ∨ k = 14 ∨ k = 15 ∨ k = 16 ∨ k = 17 ∨ k = 18 ∨ k = 19 ∨ k = 20 ∨ k = 21 ∨ k = 22 ∨ k = 23 := by omega
  rcases h with rfl | rfl | rfl | rfl | rfl | rfl | rfl | rfl | rfl | rfl | rfl | rfl | rfl | rfl | rfl | rfl | rfl | rfl | rfl | rfl | rfl | rfl | rfl | rfl <;> rfl
set_option maxHeartbeats 8000000 in
theorem sign23_any (w : World) (s : List UInt8) (at_ : Nat) (hs9 : s.length ≤ 1000000) (hat : at_ < s.length) :
    Calls Tryz.prog 24 #[.string (BA s), .int .i64 (at_ : Int)] w fun x w' => x = .returned (.string (BA (signF (s.drop at_)))) ∧ Kept (fun _ => False) w w' := by
  have hs := BA_size s
  obtain ⟨n, hn⟩ : ∃ n, s.length = n := ⟨_, rfl⟩
  have HN := Lw.hid hn
  rw [hn] at hs hs9 hat
  clear hn
  go_enter Tryz.func24, Tryz.ntmps24
  go_wp2_with fail
  obtain ⟨z, hz⟩ : ∃ z, w.heap.size = z := ⟨_, rfl⟩
  obtain ⟨wa, hwa⟩ : ∃ wa, w.alloc (.cells signsC 9) = wa := ⟨_, rfl⟩
  have HC : Hid (∀ k, k < 24 → wa.cell? ⟨z, k, none⟩ = some (.string (BA (sgAt k)))) := Lw.hid (fun k hk => by
    have h1 : wa.heap[z]? = some (.cells signsC 9 (0, 0)) := by rw [← hwa, ← hz]; exact heap_alloc w _
    have h2 := sgAt_eq k hk
    rw [show (signsL.map sV2) = signsC.toList from rfl] at h2
    have := heap_cell h1 k
    rw [this]
    rw [← h2, Array.getElem?_toList])
  have HK : Hid (Kept (fun _ => False) w wa) := Lw.hid (by rw [← hwa]; exact (Kept.refl _ w).alloc _)
  unfold signsC at hwa
  rw [hwa, hz]
  clear hwa hz
  go_loopg [6] 24 (fun gk s6 wx => ∃ k : Nat, gk = 24 - k ∧ k ≤ 24 ∧ s6 = .int .i64 (k : Int) ∧ (∀ j, j < k → ((s.drop at_).take (sgAt j).length == sgAt j) = false) ∧ Kept (fun _ => False) wa wx)
  case atStart => exact ⟨0, rfl, Nat.zero_le _, rfl, fun j hj => by omega, Kept.refl _ _⟩
  case round =>
    obtain ⟨k, rfl, hk, rfl, hmiss, hkw⟩ := hrel
    have HMISS := Lw.hid hmiss; have HKW := Lw.hid hkw
    clear hmiss hkw
    by_cases hlt : k < 24
    · have hc := HKW.out.cell (HC.out k hlt) (fun h => h)
      obtain ⟨hm2, hm1⟩ := sgAt_len k hlt
      have hsz := BA_size (sgAt k)
      obtain ⟨m, hm⟩ : ∃ m, (sgAt k).length = m := ⟨_, rfl⟩
      have HM := Lw.hid hm
      rw [hm] at hm1 hm2 hsz
      clear hm
      by_cases hfit : m ≤ n - at_
      · have ht : (m : Int) ≤ (n : Int) - (at_ : Int) := by omega
        have HE : Hid ((BA s).extract at_ (at_ + m) = BA ((s.drop at_).take m)) := Lw.hid (by rw [BA_extract, List.drop_take, Nat.add_sub_cancel_left])
        have hext := HE.out
        cases hb : ((s.drop at_).take m == sgAt k) with
        | true =>
          have HR : Hid (signF (s.drop at_) = sgAt k) := Lw.hid (sg_hit _ k hlt HMISS.out (by rw [HM.out]; exact hb))
          clear hfit
          go_wp2_with fail
          go_quiet (fail)
          go_wp2_with fail
          go_ret
          rw [HR.out]
          exact ⟨rfl, (HK.out.trans HKW.out (fun _ _ h => h)).trans (kept_drewN' _ _) (fun _ _ h => h)⟩
        | false =>
          have HMISS2 : Hid (∀ j, j < k + 1 → ((s.drop at_).take (sgAt j).length == sgAt j) = false) := Lw.hid (fun j hj => by
            by_cases e : j = k
            · subst e; rw [HM.out]; exact hb
            · exact HMISS.out j (by omega))
          clear hfit
          go_wp2_with fail
          go_quiet (fail)
          go_wp2_with fail
          go_roundg (24 - (k + 1))
          case measure => omega
          case rel => exact ⟨k + 1, rfl, by omega, by go_num, HMISS2.out, HKW.out.trans (kept_drewN' _ _) (fun _ _ h => h)⟩
      · have ht : ¬ (m : Int) ≤ (n : Int) - (at_ : Int) := by omega
        have htd : decide ((m : Int) ≤ (n : Int) - (at_ : Int)) = false := decide_eq_false ht
        have HMISS2 : Hid (∀ j, j < k + 1 → ((s.drop at_).take (sgAt j).length == sgAt j) = false) := Lw.hid (fun j hj => by
          by_cases e : j = k
          · subst e; rw [HM.out]
            have hl : ((s.drop at_).take m).length ≠ (sgAt j).length := by rw [HM.out, List.length_take, List.length_drop, HN.out]; omega
            exact beq_eq_false_iff_ne.2 (fun e => hl (by rw [e]))
          · exact HMISS.out j (by omega))
        clear hfit
        go_wp2_with fail
        go_quiet (fail)
        go_wp2_with fail
        go_roundg (24 - (k + 1))
        case measure => omega
        case rel => exact ⟨k + 1, rfl, by omega, by go_num, HMISS2.out, HKW.out.trans (kept_drewN' _ _) (fun _ _ h => h)⟩
    · obtain rfl : k = 24 := by omega
      have HR : Hid (signF (s.drop at_) = []) := Lw.hid (sg_miss _ 24 (Nat.le_refl _) HMISS.out)
      go_wp2_with fail
      go_ret
      rw [HR.out]
      exact ⟨rfl, HK.out.trans HKW.out (fun _ _ h => h)⟩
end Go.Proofs.YtoedopgjonhemaaGreatDoor
