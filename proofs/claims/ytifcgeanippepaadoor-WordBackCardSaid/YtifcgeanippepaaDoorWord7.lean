/- package word: Parse; what the examples say. -/
import Derived.Test.YtifcgeanippepaaDoorWord6
import Derived.Test.YtifcgeanippepaaDoorLexK
namespace Go.Proofs.YtifcgeanippepaaDoor
open Go Go.RowKit Go.Lw
set_option maxRecDepth 100000
set_option linter.unusedVariables false
set_option linter.unusedSimpArgs false
attribute [local go_sem] BA_toList
/-- How Parse answers. -/
def ParsePost (w : World) (s : List UInt8) (x : Ending) (w' : World) : Prop := match parseW s with
  | .error e => x = .returned (.tuple #[.slice none 0 0, .int .i64 (e : Int)])
  | .ok l => ∃ v, x = .returned (.tuple #[v, .int .i64 0]) ∧ WAt w' (fun b => w.heap.size ≤ b) v l
theorem pp_error {w w' : World} {s : List UInt8} {x : Ending} {e : Nat} (h : parseW s = .error e) (hx : x = .returned (.tuple #[.slice none 0 0, .int .i64 (e : Int)])) : ParsePost w s x w' := by
  unfold ParsePost; rw [h]; exact hx
theorem pp_ok {w w' : World} {s : List UInt8} {x : Ending} {l : List Prt} {v : Value} (h : parseW s = .ok l) (hx : x = .returned (.tuple #[v, .int .i64 0])) (hv : WAt w' (fun b => w.heap.size ≤ b) v l) : ParsePost w s x w' := by
  unfold ParsePost; rw [h]; exact ⟨v, hx, hv⟩
theorem lexT_short {s : List UInt8} {l : List Tk} (h : lexT s = .ok l) : s.length ≤ 2048 := by
  unfold lexT at h
  split at h
  · cases h
  · omega
set_option maxHeartbeats 16000000 in
theorem parse_any (w : World) (s : List UInt8) (hE : WEnv w) (hs9 : s.length ≤ 1000000) :
    Calls Tryd.prog 21 #[.string (BA s)] w fun x w' => ParsePost w s x w' ∧ Kept (fun _ => False) w w' := by
  have HL := Lw.hid (lex_any w s hE.lex hs9)
  have HE := Lw.hid hE
  clear hE
  cases hlx : lexT s with
  | error e =>
    have HP : Hid (parseW s = .error e) := Lw.hid (by unfold parseW; rw [hlx])
    have he0 : ((e : Int) != 0) = true := by
      have : e ≠ 0 := fun h => by subst h; exact lexT_ne0 hlx
      simp [bne]; omega
    have HLX := Lw.hid hlx
    clear hlx
    go_enter Tryd.func21, Tryd.ntmps21
    go_wp2_with fail
    refine HL.out.mono ?_
    rintro x w1 ⟨hx, k1⟩
    unfold LexPost at hx
    rw [HLX.out] at hx
    subst hx
    have K1 := Lw.hid k1
    clear k1
    go_wp2_with fail
    go_ret2
    exact ⟨pp_error HP.out rfl, K1.out⟩
  | ok toks =>
    have hshort := lexT_short hlx
    have HLX := Lw.hid hlx
    by_cases hone : toks.length = 1
    · obtain ⟨⟨tk, tx, tp⟩, rfl⟩ : ∃ t, toks = [t] := List.length_eq_one_iff.1 hone
      by_cases hk : tk = 1
      · by_cases ht : tx = s
        · have HP : Hid (parseW s = if (wordW .bare false [] ⟨s, false⟩).2.bad then .error 5 else .ok (wordW .bare false [] ⟨s, false⟩).1) := Lw.hid (by
            unfold parseW
            rw [hlx]
            simp only [hk, ht]
            exact if_pos (by simp))
          have hk1 : ((tk : Int) != 1) = false := by rw [hk]; rfl
          have ht1 : (BA tx == BA s) = true := by rw [BA_beq, ht]; simp
          have ht2 : (tx == s) = true := by rw [ht]; simp
          have ht3 : (tx != s) = false := by rw [ht]; simp [bne]
          clear hlx hone
          go_enter Tryd.func21, Tryd.ntmps21
          go_wp2_with fail
          refine HL.out.mono ?_
          rintro x w1 ⟨hx, k1⟩
          unfold LexPost at hx
          rw [HLX.out] at hx
          obtain ⟨v, rfl, hown, hblk, _⟩ := hx
          obtain ⟨ad, cap, rfl, _, _, hsome⟩ := own_slice hown
          obtain ⟨gt, rfl⟩ := hsome (by simp)
          obtain ⟨a0, a1, a2⟩ := tk_at hown 0 _ rfl
          simp only [Nat.zero_mul, Nat.zero_add] at a0 a1 a2
          have K1 := Lw.hid k1
          have HRD : Hid (RdrAt (w1.alloc (.cells #[.string (BA s), .bool false] 95)) w1.heap.size ⟨s, false⟩) := Lw.hid (heap_alloc w1 _)
          have K2 := Lw.hid (k1.alloc (.cells #[.string (BA s), .bool false] 95))
          have HE2 : Hid (WEnv (w1.alloc (.cells #[.string (BA s), .bool false] 95))) := Lw.hid (HE.out.kept K2.out (fun h => h) (fun h => h) (fun h => h))
          have hsz1 := k1.size
          clear k1 hown hblk hsome hk ht
          go_wp2_with fail
          generalize w1.alloc (.cells #[.string (BA s), .bool false] 95) = w2 at *
          obtain ⟨g, hg⟩ : ∃ g, w1.heap.size = g := ⟨_, rfl⟩
          rw [hg] at HRD hsz1 ⊢
          clear hg
          obtain ⟨J, ⟨u, b⟩, hW⟩ : ∃ J st, wordW .bare false [] ⟨s, false⟩ = (J, st) := ⟨_, _, rfl⟩
          rw [hW] at HP
          have hwd := word_all s.length (by omega) .bare false w2 g s (Nat.le_refl _) HRD.out HE2.out
          unfold WordPost at hwd
          rw [hW] at hwd
          have HWD := Lw.hid hwd
          clear hwd hW
          refine HWD.out.mono ?_
          rintro x w3 ⟨v3, rfl, hr3, ha3, k3⟩
          have HR3 := Lw.hid hr3
          have K3 : Hid (Kept (fun _ => False) w w3) := Lw.hid (K2.out.trans k3 (fun i hi e => by have e' : i = g := e; omega))
          have hsz2 := K2.out.size
          have HA3 := Lw.hid (ha3.mono (G := fun b => w.heap.size ≤ b) (fun b _ hb => by omega))
          obtain ⟨⟨g0, g1⟩, gf0, gf1⟩ := hr3.cells
          simp only at g0 g1
          clear hr3 ha3 k3 hsz2
          cases b with
          | true =>
            go_wp2_with fail
            go_ret2
            exact ⟨pp_error (e := 5) (by rw [HP.out]; rfl) rfl, K3.out⟩
          | false =>
            go_wp2_with fail
            go_ret2
            exact ⟨pp_ok (by rw [HP.out]; rfl) rfl HA3.out, K3.out⟩
        · have HP : Hid (parseW s = .error 5) := Lw.hid (by
            unfold parseW
            rw [hlx]
            exact if_neg (fun h => ht (by simpa using h.2.2)))
          have hk1 : ((tk : Int) != 1) = false := by rw [hk]; rfl
          have ht1 : (BA tx == BA s) = false := by rw [BA_beq]; simpa using ht
          have ht2 : (tx == s) = false := by simpa using ht
          have ht3 : (tx != s) = true := by simpa [bne] using ht
          clear hlx hone
          go_enter Tryd.func21, Tryd.ntmps21
          go_wp2_with fail
          refine HL.out.mono ?_
          rintro x w1 ⟨hx, k1⟩
          unfold LexPost at hx
          rw [HLX.out] at hx
          obtain ⟨v, rfl, hown, hblk, _⟩ := hx
          obtain ⟨ad, cap, rfl, _, _, hsome⟩ := own_slice hown
          obtain ⟨gt, rfl⟩ := hsome (by simp)
          obtain ⟨a0, a1, a2⟩ := tk_at hown 0 _ rfl
          simp only [Nat.zero_mul, Nat.zero_add] at a0 a1 a2
          have K1 := Lw.hid k1
          clear k1 hown hblk hsome hk ht
          go_wp2_with fail
          go_ret2
          exact ⟨pp_error HP.out rfl, K1.out⟩
      · have HP : Hid (parseW s = .error 5) := Lw.hid (by
          unfold parseW
          rw [hlx]
          exact if_neg (fun h => hk (by simpa using h.2.1)))
        have hk1 : ((tk : Int) != 1) = true := by simp [bne]; omega
        clear hlx hone
        go_enter Tryd.func21, Tryd.ntmps21
        go_wp2_with fail
        refine HL.out.mono ?_
        rintro x w1 ⟨hx, k1⟩
        unfold LexPost at hx
        rw [HLX.out] at hx
        obtain ⟨v, rfl, hown, hblk, _⟩ := hx
        obtain ⟨ad, cap, rfl, _, _, hsome⟩ := own_slice hown
        obtain ⟨gt, rfl⟩ := hsome (by simp)
        obtain ⟨a0, a1, a2⟩ := tk_at hown 0 _ rfl
        simp only [Nat.zero_mul, Nat.zero_add] at a0 a1 a2
        have K1 := Lw.hid k1
        clear k1 hown hblk hsome hk
        go_wp2_with fail
        go_ret2
        exact ⟨pp_error HP.out rfl, K1.out⟩
    · have HP : Hid (parseW s = .error 5) := Lw.hid (by
        unfold parseW
        rw [hlx]
        exact if_neg (fun h => hone h.1))
      obtain ⟨n, hn⟩ : ∃ n, toks.length = n := ⟨_, rfl⟩
      have HN := Lw.hid hn
      have hn1 : ((n : Int) != 1) = true := by simp [bne]; omega
      clear hlx hone hn
      go_enter Tryd.func21, Tryd.ntmps21
      go_wp2_with fail
      refine HL.out.mono ?_
      rintro x w1 ⟨hx, k1⟩
      unfold LexPost at hx
      rw [HLX.out] at hx
      obtain ⟨v, rfl, hown, hblk, _⟩ := hx
      obtain ⟨ad, cap, rfl, _, _, hsome⟩ := own_slice hown
      rw [HN.out]
      have K1 := Lw.hid k1
      clear k1 hown hblk hsome
      go_wp2_with fail
      go_ret2
      exact ⟨pp_error HP.out rfl, K1.out⟩
/-! The examples. -/
def exA : List UInt8 := [97, 34, 98, 32, 36, 99, 34, 39, 100, 39]
def exB : List UInt8 := [36, 123, 120, 58, 45, 34, 121, 32, 122, 34, 125]
def exAp : List Prt := [.mk 1 [97] [] false, .mk 1 [98, 32] [] true, .mk 2 [99] [] true, .mk 1 [100] [] true]
def exBp : List Prt := [.mk 3 [120] [.mk 1 [121, 32, 122] [] true] false]
theorem exA_ok : parseW exA = .ok exAp := by kernel_rfl
theorem exB_ok : parseW exB = .ok exBp := by kernel_rfl
theorem same_self : ∀ (n : Nat) (l : List Prt), szL l ≤ n → sameW l l = true
  | 0, l, h => by have := szL_pos l; omega
  | n + 1, [], _ => same_nil
  | n + 1, .mk k t o q :: l, h => by
    have e : szL (.mk k t o q :: l) = szP (.mk k t o q) + szL l := by show szP.szL _ = _; rw [szP.szL]
    have h1 := sizeOf_orw (.mk k t o q)
    have h2 := szL_pos l
    have h4 : szL o < szP (.mk k t o q) := h1
    have h3 := szL_pos o
    rw [same_cons, same_mk, same_self n o (by omega), same_self n l (by omega)]
    simp
end Go.Proofs.YtifcgeanippepaaDoor
