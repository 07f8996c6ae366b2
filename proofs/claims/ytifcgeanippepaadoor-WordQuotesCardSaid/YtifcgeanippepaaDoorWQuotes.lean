/- WordQuotes, walked. -/
import Derived.Test.YtifcgeanippepaaDoorWordQP
import Derived.Test.YtifcgeanippepaaDoorQuotes2
import Derived.Test.YtifcgeanippepaaDoorWordB
import Derived.WalkLawsBesides
namespace Go.Proofs.YtifcgeanippepaaDoor
open Go Go.RowKit Go.Lw
set_option maxRecDepth 100000
set_option linter.unusedVariables false
set_option linter.unusedSimpArgs false
attribute [local go_sem] BA_toList
theorem BA_minq (l : List UInt8) (m : Nat) (M : Int) (h : M = m) : (BA l).extract 0 (min (l.length : Int) M).toNat = BA (l.take m) := by
  subst h
  rw [BA_head]
  congr 1
  rw [show (min (l.length : Int) (m : Int)).toNat = min m l.length by omega]
  rw [List.take_eq_take_iff]; omega
/-- What stands there, when what may not is a q. -/
def fixq (c : UInt8) : UInt8 := if c.toNat < 32 ∧ c.toNat ≠ 9 ∨ c.toNat = 127 ∨ c.toNat = 39 then 113 else c
def fixG (k : Nat) (s : List UInt8) : List UInt8 := (s.take k).map fixq ++ s.drop k
theorem fixG_len (k : Nat) (s : List UInt8) : (fixG k s).length = s.length := by
  unfold fixG; rw [List.length_append, List.length_map, List.length_take, List.length_drop]; omega
theorem fixG_zero (s : List UInt8) : fixG 0 s = s := by simp [fixG]
theorem fixG_end (s : List UInt8) : fixG s.length s = s.map fixq := by simp [fixG]
theorem fixG_get {k : Nat} {s : List UInt8} {c : UInt8} (h : s[k]? = some c) : (fixG k s)[k]? = some c := by
  have hk := (List.getElem?_eq_some_iff.1 h).1
  unfold fixG
  rw [List.getElem?_append_right (by rw [List.length_map, List.length_take]; omega), List.length_map, List.length_take, Nat.min_eq_left (by omega), Nat.sub_self, List.getElem?_drop, Nat.add_zero, h]
theorem fixG_next {k : Nat} {s : List UInt8} {c : UInt8} (h : s[k]? = some c) : fixG (k + 1) s = (fixG k s).set k (fixq c) := by
  have hk := (List.getElem?_eq_some_iff.1 h).1
  have hd : s.drop k = c :: s.drop (k + 1) := by
    rw [List.drop_eq_getElem_cons hk]
    rw [List.getElem?_eq_getElem hk] at h
    rw [Option.some.inj h]
  unfold fixG
  rw [hd, List.set_append_right _ _ (by rw [List.length_map, List.length_take]; omega), List.length_map, List.length_take, Nat.min_eq_left (by omega), Nat.sub_self, List.set_cons_zero, List.take_add_one, h, List.map_append]
  simp
theorem fixG_same {k : Nat} {s : List UInt8} {c : UInt8} (h : s[k]? = some c) (hc : fixq c = c) : fixG (k + 1) s = fixG k s := by
  rw [fixG_next h, hc]
  apply List.ext_getElem?
  intro i
  rw [List.getElem?_set]
  split
  · rename_i e
    subst e
    have := fixG_get h
    split
    · exact this.symm
    · rename_i hl
      rw [List.getElem?_eq_none (by omega)] at this
      cases this
  · rfl
theorem fixq_may (s : List UInt8) : MayQ (s.map fixq) := by
  intro x hx
  obtain ⟨c, _, rfl⟩ := List.mem_map.1 hx
  unfold fixq
  split
  · decide
  · rename_i h
    have h1 : ¬ (c.toNat < 32 ∧ c.toNat ≠ 9) := fun e => h (.inl e)
    have h2 : c.toNat ≠ 127 := fun e => h (.inr (.inl e))
    have h3 : c.toNat ≠ 39 := fun e => h (.inr (.inr e))
    refine ⟨fun e => h3 (by rw [e]; rfl), fun e => h1 (by rw [e]; decide), ?_⟩
    unfold okB
    simp only [Bool.not_eq_true', Bool.or_eq_false_iff, Bool.and_eq_false_iff, decide_eq_false_iff_not, Bool.not_eq_false', decide_eq_true_eq]
    omega
theorem oddW_any (w : World) (c : UInt8) : Calls Tryd.prog 20 #[.string ⟨#[36, 34, 92, 96]⟩, .int .u8 (c.toNat : Int)] w fun e w' => (∃ i : Int, e = .returned (.int .i64 i) ∧ decide (0 ≤ i) = oddQ c) ∧ w' = w := by
  refine (idx_any [36, 34, 92, 96] c _ rfl w).mono ?_
  rintro e w' ⟨rfl, hw⟩
  refine ⟨⟨_, rfl, ?_⟩, hw⟩
  have h := contains_odd [c] (Nat.le_refl _)
  unfold Lib.contains at h
  rw [Lib.index_one] at h
  rw [h, oddQ_B]
  show (oddB c && true) = _
  rw [Bool.and_true]
set_option maxHeartbeats 40000000 in
theorem wquotes_any (w : World) (s0 : List UInt8) (cut : Int) (hc0 : 0 ≤ cut) (hc1 : cut < 256) (hE : WEnv w) (hs9 : s0.length ≤ 9223372036854775807) :
    Calls Tryd.prog 5 #[.string (BA s0), .int .u8 cut] w fun x w' => x = .returned (.bool true) ∧ Kept (fun _ => False) w w' := by
  have HE := Lw.hid hE
  clear hE
  have hs0 := BA_size s0
  have e1 := BA_minq s0 100 100 rfl
  obtain ⟨s, hs⟩ : ∃ s, s0.take 100 = s := ⟨_, rfl⟩
  have hsl : s.length ≤ 100 := by rw [← hs]; exact List.length_take_le _ _
  rw [hs] at e1
  obtain ⟨n0, hn0⟩ : ∃ n, s0.length = n := ⟨_, rfl⟩
  rw [hn0] at e1 hs0 hs9
  obtain ⟨N, hN⟩ : ∃ N, s.length = N := ⟨_, rfl⟩
  have hqs := BA_size s
  rw [hN] at hqs hsl
  have HN := Lw.hid hN
  clear hs hn0 hN
  go_enter Tryd.func5, Tryd.ntmps5
  go_wp2_with (refine wpList_bytes rfl _ _ _ rfl (BA s) rfl Tryd.underlying9 Tryd.underlying36 Tryd.underlying5 (by rw [hqs]; unfold maxLen; omega) ?_; intro g cap wq hg hrow hrd hk1 hsz)
  rw [BA_list] at hrow hrd
  have HCAP : Hid (N ≤ cap ∧ cap ≤ maxLen) := Lw.hid (by
    obtain ⟨a, cap', e, h1, h2, _⟩ := hrd.open
    cases e
    rw [HN.out] at h1
    exact ⟨h1, h2⟩)
  have HROW := Lw.hid hrow; have HK1 := Lw.hid hk1; have HG := Lw.hid hg.out
  clear hrow hrd hk1 hsz hg
  go_wp2_with fail
  go_loopg [26] N (fun gk s26 wx => ∃ k : Nat, gk = N - k ∧ k ≤ N ∧ s26 = .int .i64 (k : Int) ∧ RowAt wx g ((fixG k s).map bv) ∧ Kept (fun _ => False) w wx)
  case atStart => exact ⟨0, rfl, Nat.zero_le _, rfl, by rw [fixG_zero]; exact HROW.out, HK1.out⟩
  case round =>
    obtain ⟨k, rfl, hk, rfl, hrow, hkk⟩ := hrel
    have HR2 := Lw.hid hrow; have HKK := Lw.hid hkk
    clear hrow hkk
    by_cases hlt : k < N
    · obtain ⟨c, hc⟩ : ∃ c, s[k]? = some c := ⟨_, List.getElem?_eq_getElem (by rw [HN.out]; exact hlt)⟩
      have c0 : wr.cell? ⟨g, k, none⟩ = some (.int .u8 (c.toNat : Int)) := by
        apply HR2.out.cell
        rw [List.getElem?_map, fixG_get hc]; rfl
      have f0 : wr.frozen? ⟨g, k, none⟩ = false := HR2.out.free k (by rw [List.length_map, fixG_len, HN.out]; exact hlt)
      have hc9 := c.toNat_lt
      have HC := Lw.hid hc
      clear hc
      have keep : fixq c = c → Hid (RowAt wr g ((fixG (k + 1) s).map bv)) := fun h => Lw.hid (by rw [fixG_same HC.out h]; exact HR2.out)
      have put : fixq c = 113 → Hid (RowAt (wr.setCell ⟨g, k, none⟩ (bv (113 : UInt8))) g ((fixG (k + 1) s).map bv)) := fun h => Lw.hid (by
        have := HR2.out.stored k (bv (113 : UInt8))
        rw [fixG_next HC.out, h, List.map_set]; exact this)
      by_cases h32 : c.toNat < 32
      · have b1 : decide ((c.toNat : Int) < 32) = true := decide_eq_true (by omega)
        by_cases h9 : c.toNat = 9
        · have b2 : ((c.toNat : Int) != 9) = false := by rw [h9]; rfl
          have b3 : ((c.toNat : Int) == 127) = false := by rw [h9]; rfl
          have b4 : ((c.toNat : Int) == 39) = false := by rw [h9]; rfl
          have HX := keep (by unfold fixq; rw [if_neg (by omega)])
          clear keep put h32 h9
          go_wp2_with fail
          go_roundg (N - (k + 1))
          case measure => omega
          case rel => exact ⟨k + 1, rfl, hlt, by go_num, HX.out, HKK.out⟩
        · have b2 : ((c.toNat : Int) != 9) = true := by simp [bne]; omega
          have HX := put (by unfold fixq; rw [if_pos (by omega)])
          clear keep put h32 h9
          go_wp2_with fail
          go_roundg (N - (k + 1))
          case measure => omega
          case rel => exact ⟨k + 1, rfl, hlt, by go_num, HX.out, HKK.out.set g k (fun h => by have := HG.out; omega) _⟩
      · have b1 : decide ((c.toNat : Int) < 32) = false := decide_eq_false (by omega)
        by_cases h127 : c.toNat = 127
        · have b3 : ((c.toNat : Int) == 127) = true := by rw [h127]; rfl
          have HX := put (by unfold fixq; rw [if_pos (by omega)])
          clear keep put h32 h127
          go_wp2_with fail
          go_roundg (N - (k + 1))
          case measure => omega
          case rel => exact ⟨k + 1, rfl, hlt, by go_num, HX.out, HKK.out.set g k (fun h => by have := HG.out; omega) _⟩
        · have b3 : ((c.toNat : Int) == 127) = false := beq_eq_false_iff_ne.2 (by omega)
          by_cases h39 : c.toNat = 39
          · have b4 : ((c.toNat : Int) == 39) = true := by rw [h39]; rfl
            have HX := put (by unfold fixq; rw [if_pos (by omega)])
            clear keep put h32 h127 h39
            go_wp2_with fail
            go_roundg (N - (k + 1))
            case measure => omega
            case rel => exact ⟨k + 1, rfl, hlt, by go_num, HX.out, HKK.out.set g k (fun h => by have := HG.out; omega) _⟩
          · have b4 : ((c.toNat : Int) == 39) = false := beq_eq_false_iff_ne.2 (by omega)
            have HX := keep (by unfold fixq; rw [if_neg (by omega)])
            clear keep put h32 h127 h39
            go_wp2_with fail
            go_roundg (N - (k + 1))
            case measure => omega
            case rel => exact ⟨k + 1, rfl, hlt, by go_num, HX.out, HKK.out⟩
    · obtain rfl : k = N := by omega
      obtain ⟨p, hp⟩ : ∃ p, fixG k s = p := ⟨_, rfl⟩
      have hpl : p.length = k := by rw [← hp, fixG_len, HN.out]
      have HFO : Hid (MayQ p) := Lw.hid (by rw [← hp, ← HN.out, fixG_end]; exact fixq_may s)
      have HP := Lw.hid hpl
      have hrow : RowAt wr g (p.map bv) := by rw [← hp]; exact HR2.out
      have hrd : RdB wr (.slice (some ⟨g, 0, none⟩) k cap) p := by
        have h := hrow.rd 1 k cap (by rw [List.length_map, hpl]; omega) HCAP.out.1 HCAP.out.2
        unfold RdB
        rw [hpl]
        exact h
      have HRD := Lw.hid hrd
      have zp : (BA p).size = k := by rw [BA_size, hpl]
      clear hrow hrd hp hpl hk hlt HR2 HROW HCAP HG e1 hs0 hqs hs9 HN HK1
      obtain ⟨wa, rfl⟩ : ∃ wa : World, wa = wr := ⟨_, rfl⟩
      go_wp2_with (refine wpList_strBA rfl _ _ _ rfl _ p rfl HRD.out Tryd.underlying36 Tryd.underlying5 Tryd.underlying9 ?_)
      go_loopg [8, 9, 53] k (fun gk s8 s9 s53 wx => ∃ j : Nat, gk = k - j ∧ j ≤ k ∧ s8 = .string (BA (dqB (p.take j))) ∧ s9 = .string (BA (eaB (p.take j))) ∧ s53 = .int .i64 (j : Int) ∧ wx = wa)
      case atStart => exact ⟨0, rfl, Nat.zero_le _, rfl, rfl, rfl, rfl⟩
      case round =>
        obtain ⟨j, rfl, hj, rfl, rfl, rfl, rfl⟩ := hrel
        have hjl : (p.take j).length ≤ 100 := by rw [List.length_take]; omega
        have zd := dq_len (p.take j); have ze := ea_len (p.take j)
        have zD : (BA (dqB (p.take j))).size ≤ 200 := by rw [BA_size]; omega
        have zE : (BA (eaB (p.take j))).size ≤ 200 := by rw [BA_size]; omega
        clear zd ze hjl
        by_cases hlt : j < k
        · obtain ⟨c, hc⟩ : ∃ c, p[j]? = some c := ⟨_, List.getElem?_eq_getElem (by rw [HP.out]; exact hlt)⟩
          have g0 := BA_get hc
          have eX : (BA p).extract j (j + 1) = BA [c] := by
            rw [BA_extract]
            congr 1
            have hjl : j < p.length := by rw [HP.out]; exact hlt
            rw [List.getElem?_eq_getElem hjl] at hc
            rw [take_snoc p j hjl, Option.some.inj hc, List.drop_append_of_le_length (by rw [List.length_take]; omega), List.drop_eq_nil_of_le (by rw [List.length_take]; omega)]
            rfl
          have hc9 := c.toNat_lt
          have HDN := Lw.hid (dq_next hc); have HEN := Lw.hid (ea_next hc)
          clear hc
          obtain ⟨D, hD⟩ : ∃ q, dqB (p.take j) = q := ⟨_, rfl⟩
          obtain ⟨E, hE⟩ : ∃ q, eaB (p.take j) = q := ⟨_, rfl⟩
          rw [hD] at HDN zD ⊢
          rw [hE] at HEN zE ⊢
          clear hD hE
          have zc : (BA [c]).size = 1 := BA_size _
          have b1 : BA D ++ (⟨#[92]⟩ : ByteArray) = BA (D ++ [92]) := BA_append D [92]
          have b2 : BA (D ++ [92]) ++ BA [c] = BA (D ++ [92, c]) := (BA_append (D ++ [92]) [c]).trans (by simp)
          have b3 : BA D ++ BA [c] = BA (D ++ [c]) := BA_append D [c]
          have b4 : (⟨#[92]⟩ : ByteArray) ++ BA [c] = BA [92, c] := BA_append [92] [c]
          have b5 : BA E ++ BA [92, c] = BA (E ++ [92, c]) := BA_append E [92, c]
          have zm : (BA (D ++ [92])).size ≤ 201 := by rw [BA_size] at zD ⊢; simp at zD ⊢; omega
          have zo : (BA [92, c]).size = 2 := BA_size _
          have hodd := oddW_any wr c
          cases ho : oddQ c with
          | true =>
            rw [ho] at HDN hodd
            have HO := Lw.hid hodd
            clear hodd ho
            go_wp2_with fail
            refine HO.out.mono ?_
            rintro x w3 ⟨⟨i, rfl, hi⟩, rfl⟩
            go_wp2_with fail
            go_roundg (k - (j + 1))
            case measure => omega
            case rel => exact ⟨j + 1, rfl, hlt, by rw [HDN.out]; rfl, by rw [HEN.out], by go_num, rfl⟩
          | false =>
            rw [ho] at HDN hodd
            have HO := Lw.hid hodd
            clear hodd ho
            go_wp2_with fail
            refine HO.out.mono ?_
            rintro x w3 ⟨⟨i, rfl, hi⟩, rfl⟩
            go_wp2_with fail
            go_roundg (k - (j + 1))
            case measure => omega
            case rel => exact ⟨j + 1, rfl, hlt, by rw [HDN.out]; rfl, by rw [HEN.out], by go_num, rfl⟩
        · obtain rfl : j = k := by omega
          have htk : p.take j = p := List.take_of_length_le (by rw [HP.out]; exact Nat.le_refl _)
          rw [htk] at zD zE ⊢
          obtain ⟨M, hM⟩ : ∃ M : Nat, min cut (j : Int) = (M : Int) := ⟨(min cut (j : Int)).toNat, by omega⟩
          have hMj : M ≤ j := by omega
          have eH := BA_head p M
          have eT := BA_tail p M j HP.out.symm
          have zH : (BA (p.take M)).size ≤ 100 := by rw [BA_size, List.length_take]; omega
          have zT : (BA (p.drop M)).size ≤ 100 := by rw [BA_size, List.length_drop, HP.out]; omega
          have a1 : (⟨#[39]⟩ : ByteArray) ++ BA p = BA (39 :: p) := BA_append [39] p
          have a2 : BA (39 :: p) ++ (⟨#[39]⟩ : ByteArray) = BA (q1 p) := BA_append (39 :: p) [39]
          have a3 : (⟨#[34]⟩ : ByteArray) ++ BA (dqB p) = BA (34 :: dqB p) := BA_append [34] (dqB p)
          have a4 : BA (34 :: dqB p) ++ (⟨#[34]⟩ : ByteArray) = BA (q2 p) := BA_append (34 :: dqB p) [34]
          have a5 : (⟨#[39, 39]⟩ : ByteArray) ++ BA (eaB p) = BA (q3 p) := BA_append [39, 39] (eaB p)
          have a6 : (⟨#[39]⟩ : ByteArray) ++ BA (p.take M) = BA (39 :: p.take M) := BA_append [39] (p.take M)
          have a7 : BA (39 :: p.take M) ++ (⟨#[39, 39]⟩ : ByteArray) = BA (39 :: p.take M ++ [39, 39]) := BA_append (39 :: p.take M) [39, 39]
          have a8 : BA (39 :: p.take M ++ [39, 39]) ++ BA (p.drop M) = BA (39 :: p.take M ++ [39, 39] ++ p.drop M) := BA_append _ _
          have a9 : BA (39 :: p.take M ++ [39, 39] ++ p.drop M) ++ (⟨#[39]⟩ : ByteArray) = BA (q4 p M) := (BA_append _ [39]).trans (by simp [q4])
          have a10 : (⟨#[34, 34, 39]⟩ : ByteArray) ++ BA p = BA (34 :: 34 :: 39 :: p) := BA_append [34, 34, 39] p
          have a11 : BA (34 :: 34 :: 39 :: p) ++ (⟨#[39, 34, 34]⟩ : ByteArray) = BA (q5 p) := BA_append (34 :: 34 :: 39 :: p) [39, 34, 34]
          have z1 : (BA (39 :: p)).size ≤ 101 := by rw [BA_size, List.length_cons, HP.out]; omega
          have z2 : (BA (34 :: dqB p)).size ≤ 201 := by rw [BA_size] at zD ⊢; rw [List.length_cons]; omega
          have z3 : (BA (39 :: p.take M)).size ≤ 101 := by rw [BA_size] at zH ⊢; rw [List.length_cons]; omega
          have z4 : (BA (39 :: p.take M ++ [39, 39])).size ≤ 103 := by rw [← a7, ByteArray.size_append]; have : (⟨#[39, 39]⟩ : ByteArray).size = 2 := rfl; omega
          have z5 : (BA (39 :: p.take M ++ [39, 39] ++ p.drop M)).size ≤ 203 := by rw [← a8, ByteArray.size_append]; omega
          have z6 : (BA (34 :: 34 :: 39 :: p)).size ≤ 103 := by rw [← a10, ByteArray.size_append]; have : (⟨#[34, 34, 39]⟩ : ByteArray).size = 3 := rfl; omega
          have HX := Lw.hid (quotes_parse M HFO.out (by rw [HP.out]; exact hsl))
          have hxl : ∀ x ∈ qAll p M, x.length ≤ 1000000 := by
            have h1 := dqB_len p; have h2 := eaB_len p; have h3 := HP.out
            intro x hx
            simp only [qAll, List.mem_cons, List.not_mem_nil, or_false] at hx
            rcases hx with rfl | rfl | rfl | rfl | rfl
            · simp [q1]; omega
            · simp [q2]; omega
            · simp [q3]; omega
            · simp [q4]; omega
            · simp [q5]; omega
          have HXL := Lw.hid hxl
          obtain ⟨S1, hS1⟩ : ∃ q, BA (39 :: p) = q := ⟨_, rfl⟩
          obtain ⟨S2, hS2⟩ : ∃ q, BA (34 :: dqB p) = q := ⟨_, rfl⟩
          obtain ⟨S3, hS3⟩ : ∃ q, BA (39 :: p.take M) = q := ⟨_, rfl⟩
          obtain ⟨S4, hS4⟩ : ∃ q, BA (39 :: p.take M ++ [39, 39]) = q := ⟨_, rfl⟩
          obtain ⟨S5, hS5⟩ : ∃ q, BA (39 :: p.take M ++ [39, 39] ++ p.drop M) = q := ⟨_, rfl⟩
          obtain ⟨S6, hS6⟩ : ∃ q, BA (34 :: 34 :: 39 :: p) = q := ⟨_, rfl⟩
          obtain ⟨D, hD⟩ : ∃ q, BA (dqB p) = q := ⟨_, rfl⟩
          obtain ⟨E, hE⟩ : ∃ q, BA (eaB p) = q := ⟨_, rfl⟩
          obtain ⟨T1, hT1⟩ : ∃ q, BA (p.take M) = q := ⟨_, rfl⟩
          obtain ⟨T2, hT2⟩ : ∃ q, BA (p.drop M) = q := ⟨_, rfl⟩
          rw [hS1] at a1 a2 z1; rw [hS2] at a3 a4 z2; rw [hS3] at a6 a7 z3; rw [hS4] at a7 a8 z4; rw [hS5] at a8 a9 z5; rw [hS6] at a10 a11 z6
          rw [hD] at a3 zD ⊢; rw [hE] at a5 zE ⊢; rw [hT1] at eH a6 zH; rw [hT2] at eT a8 zT
          clear hS1 hS2 hS3 hS4 hS5 hS6 hD hE hT1 hT2 htk hlt hxl HFO HRD
          go_wp2_with fail
          go_quiet (fail)
          obtain ⟨wf, hwf⟩ : ∃ wf, wr.drewN nq = wf := ⟨_, rfl⟩
          have KF : Hid (Kept (fun _ => False) w wf) := Lw.hid (by rw [← hwf]; exact HKK.out.trans (kept_drewN' _ _) (fun _ _ h => h))
          rw [hwf]
          clear hwf a1 a2 a3 a4 a5 a6 a7 a8 a9 a10 a11 z1 z2 z3 z4 z5 z6 zD zE zH zT eH eT
          go_wp2_with fail
          go_loopg [106] 5 (fun gk s106 wx => ∃ i : Nat, gk = 5 - i ∧ i ≤ 5 ∧ s106 = .int .i64 (i : Int) ∧ Kept (fun _ => False) w wx)
          case atStart => exact ⟨0, rfl, Nat.zero_le _, rfl, KF.out⟩
          case round =>
            obtain ⟨i, rfl, hi, rfl, hki⟩ := hrel
            have HKI := Lw.hid hki
            have HWR : Hid (WEnv wr) := Lw.hid (HE.out.kept hki (fun h => h) (fun h => h) (fun h => h))
            clear hki
            obtain ⟨wc, rfl⟩ : ∃ wc : World, wc = wr := ⟨_, rfl⟩
            by_cases hlt : i < 5
            · have hbp : (BA p != BA p) = false := by rw [bne, BA_beq]; simp
              have hbp2 : (p != p) = false := by simp
              rcases (by omega : i = 0 ∨ i = 1 ∨ i = 2 ∨ i = 3 ∨ i = 4) with rfl | rfl | rfl | rfl | rfl
              · have HP1 := Lw.hid (parse_any wc (q1 p) HWR.out (HXL.out _ (by simp [qAll])))
                have HPX := Lw.hid (HX.out (q1 p) (by simp [qAll]))
                have hix : ∀ w, (Instr.index 40 (.agg #[.string (BA (q1 p)), .string (BA (q2 p)), .string (BA (q3 p)), .string (BA (q4 p M)), .string (BA (q5 p))]) (.int .i64 0)).run Tryd.prog w = .ok (.string (BA (q1 p))) w := fun _ => by rfl
                clear hi hlt
                go_wp2_with fail
                refine HP1.out.mono ?_
                rintro y w9 ⟨hy, k9⟩
                obtain ⟨v9, rfl, ha9⟩ := pp_at hy HPX.out
                obtain ⟨sa, sn, sc, rfl⟩ := ha9.slice
                have hsn : sn = 1 := ha9.elem.1
                obtain ⟨b9, off9, oa, on, oc, rfl, r0, r1, r2, r3, _⟩ := ha9.elem.2 0 _ rfl
                simp only [Nat.zero_mul, Nat.add_zero, Prt.kind, Prt.text, Prt.quoted] at r0 r1 r3
                subst hsn
                have K9 := Lw.hid (HKI.out.trans k9 (fun _ _ h => h))
                have HB9 := Lw.hid (bare_any w9 _ _ _ ha9)
                clear hy ha9 k9 r2
                go_wp2_with fail
                refine HB9.out.mono ?_
                rintro y w10 ⟨rfl, rfl⟩
                rw [show bareV (Qd p) = .tuple #[.string (BA []), .bool false] from rfl]
                go_wp2_with fail
                go_roundg 4
                case measure => decide
                case rel => exact ⟨1, rfl, by decide, by go_num, K9.out⟩
              · have HP1 := Lw.hid (parse_any wc (q2 p) HWR.out (HXL.out _ (by simp [qAll])))
                have HPX := Lw.hid (HX.out (q2 p) (by simp [qAll]))
                have hix : ∀ w, (Instr.index 40 (.agg #[.string (BA (q1 p)), .string (BA (q2 p)), .string (BA (q3 p)), .string (BA (q4 p M)), .string (BA (q5 p))]) (.int .i64 1)).run Tryd.prog w = .ok (.string (BA (q2 p))) w := fun _ => by rfl
                clear hi hlt
                go_wp2_with fail
                refine HP1.out.mono ?_
                rintro y w9 ⟨hy, k9⟩
                obtain ⟨v9, rfl, ha9⟩ := pp_at hy HPX.out
                obtain ⟨sa, sn, sc, rfl⟩ := ha9.slice
                have hsn : sn = 1 := ha9.elem.1
                obtain ⟨b9, off9, oa, on, oc, rfl, r0, r1, r2, r3, _⟩ := ha9.elem.2 0 _ rfl
                simp only [Nat.zero_mul, Nat.add_zero, Prt.kind, Prt.text, Prt.quoted] at r0 r1 r3
                subst hsn
                have K9 := Lw.hid (HKI.out.trans k9 (fun _ _ h => h))
                have HB9 := Lw.hid (bare_any w9 _ _ _ ha9)
                clear hy ha9 k9 r2
                go_wp2_with fail
                refine HB9.out.mono ?_
                rintro y w10 ⟨rfl, rfl⟩
                rw [show bareV (Qd p) = .tuple #[.string (BA []), .bool false] from rfl]
                go_wp2_with fail
                go_roundg 3
                case measure => decide
                case rel => exact ⟨2, rfl, by decide, by go_num, K9.out⟩
              · have HP1 := Lw.hid (parse_any wc (q3 p) HWR.out (HXL.out _ (by simp [qAll])))
                have HPX := Lw.hid (HX.out (q3 p) (by simp [qAll]))
                have hix : ∀ w, (Instr.index 40 (.agg #[.string (BA (q1 p)), .string (BA (q2 p)), .string (BA (q3 p)), .string (BA (q4 p M)), .string (BA (q5 p))]) (.int .i64 2)).run Tryd.prog w = .ok (.string (BA (q3 p))) w := fun _ => by rfl
                clear hi hlt
                go_wp2_with fail
                refine HP1.out.mono ?_
                rintro y w9 ⟨hy, k9⟩
                obtain ⟨v9, rfl, ha9⟩ := pp_at hy HPX.out
                obtain ⟨sa, sn, sc, rfl⟩ := ha9.slice
                have hsn : sn = 1 := ha9.elem.1
                obtain ⟨b9, off9, oa, on, oc, rfl, r0, r1, r2, r3, _⟩ := ha9.elem.2 0 _ rfl
                simp only [Nat.zero_mul, Nat.add_zero, Prt.kind, Prt.text, Prt.quoted] at r0 r1 r3
                subst hsn
                have K9 := Lw.hid (HKI.out.trans k9 (fun _ _ h => h))
                have HB9 := Lw.hid (bare_any w9 _ _ _ ha9)
                clear hy ha9 k9 r2
                go_wp2_with fail
                refine HB9.out.mono ?_
                rintro y w10 ⟨rfl, rfl⟩
                rw [show bareV (Qd p) = .tuple #[.string (BA []), .bool false] from rfl]
                go_wp2_with fail
                go_roundg 2
                case measure => decide
                case rel => exact ⟨3, rfl, by decide, by go_num, K9.out⟩
              · have HP1 := Lw.hid (parse_any wc (q4 p M) HWR.out (HXL.out _ (by simp [qAll])))
                have HPX := Lw.hid (HX.out (q4 p M) (by simp [qAll]))
                have hix : ∀ w, (Instr.index 40 (.agg #[.string (BA (q1 p)), .string (BA (q2 p)), .string (BA (q3 p)), .string (BA (q4 p M)), .string (BA (q5 p))]) (.int .i64 3)).run Tryd.prog w = .ok (.string (BA (q4 p M))) w := fun _ => by rfl
                clear hi hlt
                go_wp2_with fail
                refine HP1.out.mono ?_
                rintro y w9 ⟨hy, k9⟩
                obtain ⟨v9, rfl, ha9⟩ := pp_at hy HPX.out
                obtain ⟨sa, sn, sc, rfl⟩ := ha9.slice
                have hsn : sn = 1 := ha9.elem.1
                obtain ⟨b9, off9, oa, on, oc, rfl, r0, r1, r2, r3, _⟩ := ha9.elem.2 0 _ rfl
                simp only [Nat.zero_mul, Nat.add_zero, Prt.kind, Prt.text, Prt.quoted] at r0 r1 r3
                subst hsn
                have K9 := Lw.hid (HKI.out.trans k9 (fun _ _ h => h))
                have HB9 := Lw.hid (bare_any w9 _ _ _ ha9)
                clear hy ha9 k9 r2
                go_wp2_with fail
                refine HB9.out.mono ?_
                rintro y w10 ⟨rfl, rfl⟩
                rw [show bareV (Qd p) = .tuple #[.string (BA []), .bool false] from rfl]
                go_wp2_with fail
                go_roundg 1
                case measure => decide
                case rel => exact ⟨4, rfl, by decide, by go_num, K9.out⟩
              · have HP1 := Lw.hid (parse_any wc (q5 p) HWR.out (HXL.out _ (by simp [qAll])))
                have HPX := Lw.hid (HX.out (q5 p) (by simp [qAll]))
                have hix : ∀ w, (Instr.index 40 (.agg #[.string (BA (q1 p)), .string (BA (q2 p)), .string (BA (q3 p)), .string (BA (q4 p M)), .string (BA (q5 p))]) (.int .i64 4)).run Tryd.prog w = .ok (.string (BA (q5 p))) w := fun _ => by rfl
                clear hi hlt
                go_wp2_with fail
                refine HP1.out.mono ?_
                rintro y w9 ⟨hy, k9⟩
                obtain ⟨v9, rfl, ha9⟩ := pp_at hy HPX.out
                obtain ⟨sa, sn, sc, rfl⟩ := ha9.slice
                have hsn : sn = 1 := ha9.elem.1
                obtain ⟨b9, off9, oa, on, oc, rfl, r0, r1, r2, r3, _⟩ := ha9.elem.2 0 _ rfl
                simp only [Nat.zero_mul, Nat.add_zero, Prt.kind, Prt.text, Prt.quoted] at r0 r1 r3
                subst hsn
                have K9 := Lw.hid (HKI.out.trans k9 (fun _ _ h => h))
                have HB9 := Lw.hid (bare_any w9 _ _ _ ha9)
                clear hy ha9 k9 r2
                go_wp2_with fail
                refine HB9.out.mono ?_
                rintro y w10 ⟨rfl, rfl⟩
                rw [show bareV (Qd p) = .tuple #[.string (BA []), .bool false] from rfl]
                go_wp2_with fail
                go_roundg 0
                case measure => decide
                case rel => exact ⟨5, rfl, by decide, by go_num, K9.out⟩
            · obtain rfl : i = 5 := by omega
              go_wp2_with fail
              refine (wakes17_any _ HWR.out).mono ?_
              rintro y w9 ⟨rfl, k9⟩
              have K9 := Lw.hid (HKI.out.trans k9 (fun _ _ h => h))
              clear k9
              go_wp2_with fail
              go_ret
              exact ⟨rfl, K9.out⟩
theorem wquotes_below (w : World) (s : ByteArray) (cut : Int) (hc0 : 0 ≤ cut) (hc1 : cut < 256) (hE : WEnv w) (hs : s.size ≤ 9223372036854775807) :
    Calls Tryd.prog 5 #[.string s, .int .u8 cut] w fun e w' => e = .returned (.bool true) ∧ Below w.heap.size w w' := by
  have h := wquotes_any w s.data.toList cut hc0 hc1 hE (by rw [← BA_size, ← BA_of]; exact hs)
  rw [← BA_of] at h
  exact h.mono fun _ _ ⟨e, k⟩ => ⟨e, Below.of_kept k⟩
end Go.Proofs.YtifcgeanippepaaDoor
