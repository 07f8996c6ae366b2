/- package word: Parse; what the examples say. -/
import Derived.Test.YtifcgeanippepaaDoorM20
import Derived.Test.YtifcgeanippepaaDoorM09
import Derived.Test.YtifcgeanippepaaDoorWordTM
namespace Go.Proofs.YtifcgeanippepaaDoor
open Go Go.RowKit Go.Lw
set_option maxRecDepth 100000
set_option linter.unusedVariables false
set_option linter.unusedSimpArgs false
attribute [local go_sem] BA_toList
/-- How Parse answers. -/
def ParsePost (w : World) (s : List UInt8) (x : Ending) (w' : World) : Prop := match parseW s with
  | .error e => x = .returned (.tuple #[.slice none 0 0, .int .i64 (e : Int)])
  | .ok l => ∃ v, x = .returned (.tuple #[v, .int .i64 0]) ∧ WAt w' (fun b => w.heap.size ≤ b) v l
theorem pp_error {w w' : World} {s : List UInt8} {x : Ending} {e : Nat} (h : parseW s = .error e) (hx : x = .returned (.tuple #[.slice none 0 0, .int .i64 (e : Int)])) : ParsePost w s x w' := by
  unfold ParsePost; rw [h]; exact hx
theorem pp_ok {w w' : World} {s : List UInt8} {x : Ending} {l : List Prt} {v : Value} (h : parseW s = .ok l) (hx : x = .returned (.tuple #[v, .int .i64 0])) (hv : WAt w' (fun b => w.heap.size ≤ b) v l) : ParsePost w s x w' := by
  unfold ParsePost; rw [h]; exact ⟨v, hx, hv⟩
theorem lexT_short {s : List UInt8} {l : List Tk} (h : lexT s = .ok l) : s.length ≤ 2048 := by
  unfold lexT at h
  split at h
  · cases h
  · omega
set_option maxHeartbeats 16000000 in
theorem parse_any (w : World) (s : List UInt8) (hE : WEnv w) (hs9 : s.length ≤ 1000000) :
    Calls Tryd.prog 21 #[.string (BA s)] w fun x w' => ParsePost w s x w' ∧ Kept (fun _ => False) w w' := by
  have HL := Lw.hid (lex_any w s hE.lex hs9)
  have HE := Lw.hid hE
  clear hE
  cases hlx : lexT s with
  | error e =>
    have HP : Hid (parseW s = .error e) := Lw.hid (by unfold parseW; rw [hlx])
    have he0 : ((e : Int) != 0) = true := by
      have : e ≠ 0 := fun h => by subst h; exact lexT_ne0 hlx
      simp [bne]; omega
    have HLX := Lw.hid hlx
    clear hlx
    go_enter Tryd.func21, Tryd.ntmps21
    go_wp2_with fail
    refine HL.out.mono ?_
    rintro x w1 ⟨hx, k1⟩
    unfold LexPost at hx
    rw [HLX.out] at hx
    subst hx
    have K1 := Lw.hid k1
    clear k1
    go_wp2_with fail
    go_ret2
    exact ⟨pp_error HP.out rfl, K1.out⟩
  | ok toks =>
    have hshort := lexT_short hlx
    have HLX := Lw.hid hlx
    by_cases hone : toks.length = 1
    · obtain ⟨⟨tk, tx, tp⟩, rfl⟩ : ∃ t, toks = [t] := List.length_eq_one_iff.1 hone
      by_cases hk : tk = 1
      · by_cases ht : tx = s
        · have HP : Hid (parseW s = if (wordW .bare false [] ⟨s, false⟩).2.bad then .error 5 else .ok (wordW .bare false [] ⟨s, false⟩).1) := Lw.hid (by
            unfold parseW
            rw [hlx]
            simp only [hk, ht]
            exact if_pos (by simp))
          have hk1 : ((tk : Int) != 1) = false := by rw [hk]; rfl
          have ht1 : (BA tx == BA s) = true := by rw [BA_beq, ht]; simp
          have ht2 : (tx == s) = true := by rw [ht]; simp
          have ht3 : (tx != s) = false := by rw [ht]; simp [bne]
          clear hlx hone
          go_enter Tryd.func21, Tryd.ntmps21
          go_wp2_with fail
          refine HL.out.mono ?_
          rintro x w1 ⟨hx, k1⟩
          unfold LexPost at hx
          rw [HLX.out] at hx
          obtain ⟨v, rfl, hown, hblk, _⟩ := hx
          obtain ⟨ad, cap, rfl, _, _, hsome⟩ := own_slice hown
          obtain ⟨gt, rfl⟩ := hsome (by simp)
          obtain ⟨a0, a1, a2⟩ := tk_at hown 0 _ rfl
          simp only [Nat.zero_mul, Nat.zero_add] at a0 a1 a2
          have K1 := Lw.hid k1
          have HRD : Hid (RdrAt (w1.alloc (.cells #[.string (BA s), .bool false] 95)) w1.heap.size ⟨s, false⟩) := Lw.hid (heap_alloc w1 _)
          have K2 := Lw.hid (k1.alloc (.cells #[.string (BA s), .bool false] 95))
          have HE2 : Hid (WEnv (w1.alloc (.cells #[.string (BA s), .bool false] 95))) := Lw.hid (HE.out.kept K2.out (fun h => h) (fun h => h) (fun h => h))
          have hsz1 := k1.size
          clear k1 hown hblk hsome hk ht
          go_wp2_with fail
          generalize w1.alloc (.cells #[.string (BA s), .bool false] 95) = w2 at *
          obtain ⟨g, hg⟩ : ∃ g, w1.heap.size = g := ⟨_, rfl⟩
          rw [hg] at HRD hsz1 ⊢
          clear hg
          obtain ⟨J, ⟨u, b⟩, hW⟩ : ∃ J st, wordW .bare false [] ⟨s, false⟩ = (J, st) := ⟨_, _, rfl⟩
          rw [hW] at HP
          have hwd := word_all s.length (by omega) .bare false w2 g s (Nat.le_refl _) HRD.out HE2.out
          unfold WordPost at hwd
          rw [hW] at hwd
          have HWD := Lw.hid hwd
          clear hwd hW
          refine HWD.out.mono ?_
          rintro x w3 ⟨v3, rfl, hr3, ha3, k3⟩
          have HR3 := Lw.hid hr3
          have K3 : Hid (Kept (fun _ => False) w w3) := Lw.hid (K2.out.trans k3 (fun i hi e => by have e' : i = g := e; omega))
          have hsz2 := K2.out.size
          have HA3 := Lw.hid (ha3.mono (G := fun b => w.heap.size ≤ b) (fun b _ hb => by omega))
          obtain ⟨⟨g0, g1⟩, gf0, gf1⟩ := hr3.cells
          simp only at g0 g1
          clear hr3 ha3 k3 hsz2
          cases b with
          | true =>
            go_wp2_with fail
            go_ret2
            exact ⟨pp_error (e := 5) (by rw [HP.out]; rfl) rfl, K3.out⟩
          | false =>
            go_wp2_with fail
            go_ret2
            exact ⟨pp_ok (by rw [HP.out]; rfl) rfl HA3.out, K3.out⟩
        · have HP : Hid (parseW s = .error 5) := Lw.hid (by
            unfold parseW
            rw [hlx]
            exact if_neg (fun h => ht (by simpa using h.2.2)))
          have hk1 : ((tk : Int) != 1) = false := by rw [hk]; rfl
          have ht1 : (BA tx == BA s) = false := by rw [BA_beq]; simpa using ht
          have ht2 : (tx == s) = false := by simpa using ht
          have ht3 : (tx != s) = true := by simpa [bne] using ht
          clear hlx hone
          go_enter Tryd.func21, Tryd.ntmps21
          go_wp2_with fail
          refine HL.out.mono ?_
          rintro x w1 ⟨hx, k1⟩
          unfold LexPost at hx
          rw [HLX.out] at hx
          obtain ⟨v, rfl, hown, hblk, _⟩ := hx
          obtain ⟨ad, cap, rfl, _, _, hsome⟩ := own_slice hown
          obtain ⟨gt, rfl⟩ := hsome (by simp)
          obtain ⟨a0, a1, a2⟩ := tk_at hown 0 _ rfl
          simp only [Nat.zero_mul, Nat.zero_add] at a0 a1 a2
          have K1 := Lw.hid k1
          clear k1 hown hblk hsome hk ht
          go_wp2_with fail
          go_ret2
          exact ⟨pp_error HP.out rfl, K1.out⟩
      · have HP : Hid (parseW s = .error 5) := Lw.hid (by
          unfold parseW
          rw [hlx]
          exact if_neg (fun h => hk (by simpa using h.2.1)))
        have hk1 : ((tk : Int) != 1) = true := by simp [bne]; omega
        clear hlx hone
        go_enter Tryd.func21, Tryd.ntmps21
        go_wp2_with fail
        refine HL.out.mono ?_
        rintro x w1 ⟨hx, k1⟩
        unfold LexPost at hx
        rw [HLX.out] at hx
        obtain ⟨v, rfl, hown, hblk, _⟩ := hx
        obtain ⟨ad, cap, rfl, _, _, hsome⟩ := own_slice hown
        obtain ⟨gt, rfl⟩ := hsome (by simp)
        obtain ⟨a0, a1, a2⟩ := tk_at hown 0 _ rfl
        simp only [Nat.zero_mul, Nat.zero_add] at a0 a1 a2
        have K1 := Lw.hid k1
        clear k1 hown hblk hsome hk
        go_wp2_with fail
        go_ret2
        exact ⟨pp_error HP.out rfl, K1.out⟩
    · have HP : Hid (parseW s = .error 5) := Lw.hid (by
        unfold parseW
        rw [hlx]
        exact if_neg (fun h => hone h.1))
      obtain ⟨n, hn⟩ : ∃ n, toks.length = n := ⟨_, rfl⟩
      have HN := Lw.hid hn
      have hn1 : ((n : Int) != 1) = true := by simp [bne]; omega
      clear hlx hone hn
      go_enter Tryd.func21, Tryd.ntmps21
      go_wp2_with fail
      refine HL.out.mono ?_
      rintro x w1 ⟨hx, k1⟩
      unfold LexPost at hx
      rw [HLX.out] at hx
      obtain ⟨v, rfl, hown, hblk, _⟩ := hx
      obtain ⟨ad, cap, rfl, _, _, hsome⟩ := own_slice hown
      rw [HN.out]
      have K1 := Lw.hid k1
      clear k1 hown hblk hsome
      go_wp2_with fail
      go_ret2
      exact ⟨pp_error HP.out rfl, K1.out⟩
/-! The examples. -/
def exA : List UInt8 := [97, 34, 98, 32, 36, 99, 34, 39, 100, 39]
def exB : List UInt8 := [36, 123, 120, 58, 45, 34, 121, 32, 122, 34, 125]
def exAp : List Prt := [.mk 1 [97] [] false, .mk 1 [98, 32] [] true, .mk 2 [99] [] true, .mk 1 [100] [] true]
def exBp : List Prt := [.mk 3 [120] [.mk 1 [121, 32, 122] [] true] false]
theorem exA_ok : parseW exA = .ok exAp := by kernel_rfl
theorem exB_ok : parseW exB = .ok exBp := by kernel_rfl
theorem same_self : ∀ (n : Nat) (l : List Prt), szL l ≤ n → sameW l l = true
  | 0, l, h => by have := szL_pos l; omega
  | n + 1, [], _ => same_nil
  | n + 1, .mk k t o q :: l, h => by
    have e : szL (.mk k t o q :: l) = szP (.mk k t o q) + szL l := by show szP.szL _ = _; rw [szP.szL]
    have h1 := sizeOf_orw (.mk k t o q)
    have h2 := szL_pos l
    have h4 : szL o < szP (.mk k t o q) := h1
    have h3 := szL_pos o
    rw [same_cons, same_mk, same_self n o (by omega), same_self n l (by omega)]
    simp
end Go.Proofs.YtifcgeanippepaaDoor
/- package word: Assign. -/
namespace Go.Proofs.YtifcgeanippepaaDoor
open Go Go.RowKit Go.Lw
set_option maxRecDepth 100000
set_option linter.unusedVariables false
set_option linter.unusedSimpArgs false
attribute [local go_sem] BA_toList
/-- What Assign tells. -/
def assignF (s : List UInt8) : Option (List UInt8 × List Prt) :=
  if s.contains 61 = true ∧ nameB (cutR 61 s).1 = true then
    (if (cutR 61 s).2 = [] then some ((cutR 61 s).1, []) else match parseW (cutR 61 s).2 with
      | .ok l => some ((cutR 61 s).1, l)
      | .error _ => none)
  else none
def AssignPost (w : World) (s : List UInt8) (x : Ending) (w' : World) : Prop := match assignF s with
  | some (nm, l) => ∃ v, x = .returned (.tuple #[.string (BA nm), v, .bool true]) ∧ WAt w' (fun b => w.heap.size ≤ b) v l
  | none => x = .returned (.tuple #[.string (BA []), .slice none 0 0, .bool false])
theorem as_none {w w' : World} {s : List UInt8} {x : Ending} (h : assignF s = none) (hx : x = .returned (.tuple #[.string (BA []), .slice none 0 0, .bool false])) : AssignPost w s x w' := by
  unfold AssignPost; rw [h]; exact hx
theorem as_some {w w' : World} {s nm : List UInt8} {l : List Prt} {v : Value} {x : Ending} (h : assignF s = some (nm, l)) (hx : x = .returned (.tuple #[.string (BA nm), v, .bool true])) (hv : WAt w' (fun b => w.heap.size ≤ b) v l) : AssignPost w s x w' := by
  unfold AssignPost; rw [h]; exact ⟨v, hx, hv⟩
theorem cut_third (c : UInt8) (s : List UInt8) : (Lib.cut s [c]).2.2 = s.contains c := by
  rw [← idx_contains]
  unfold Lib.cut
  rw [Lib.index_one]
  split
  · rename_i h; rw [decide_eq_true h]
  · rename_i h; rw [decide_eq_false h]
theorem parseW_ne0 {s : List UInt8} {e : Nat} (h : parseW s = .error e) : e ≠ 0 := by
  unfold parseW at h
  split at h
  · rename_i e' he
    cases h
    intro h0
    subst h0
    exact lexT_ne0 he
  · split at h
    · split at h
      · cases h; decide
      · cases h
    · cases h; decide
set_option maxHeartbeats 16000000 in
theorem assign_any (w : World) (s : List UInt8) (hE : WEnv w) (hs9 : s.length ≤ 1000000) :
    Calls Tryd.prog 36 #[.string (BA s)] w fun x w' => AssignPost w s x w' ∧ Kept (fun _ => False) w w' := by
  have HE := Lw.hid hE
  obtain ⟨m, hm⟩ := hE.lex.max
  have hz : (BA s).size < 4294967281 := by rw [BA_size]; omega
  have hC := Tryd.strings_Cut (BA s) ⟨#[61]⟩ m w hz hm
  rw [BA_list, show (⟨#[61]⟩ : ByteArray).data.toList = [61] from rfl, (cutR_lib 61 s).1, (cutR_lib 61 s).2, cut_third] at hC
  clear hE hm hz
  have hla : (cutR 61 s).1.length ≤ 1000000 := by have := cutR_mass 61 s; omega
  have hlb : (cutR 61 s).2.length ≤ 1000000 := by have := cutR_mass 61 s; omega
  obtain ⟨A, hA⟩ : ∃ A, (cutR 61 s).1 = A := ⟨_, rfl⟩
  obtain ⟨B, hB⟩ : ∃ B, (cutR 61 s).2 = B := ⟨_, rfl⟩
  have hAF : assignF s = if s.contains 61 = true ∧ nameB A = true then (if B = [] then some (A, []) else match parseW B with | .ok l => some (A, l) | .error _ => none) else none := by unfold assignF; rw [hA, hB]
  rw [hA, hB] at hC
  rw [hA] at hla; rw [hB] at hlb
  have HA := Lw.hid hAF
  clear hA hB hAF
  cases hc : s.contains 61 with
  | false =>
    rw [hc] at hC HA
    have HC := Lw.hid hC
    have HN : Hid (assignF s = none) := Lw.hid (by rw [HA.out]; simp)
    clear hC hc
    go_enter Tryd.func36, Tryd.ntmps36
    go_wp2_with fail
    refine HC.out.mono ?_
    rintro x w1 ⟨rfl, nd, rfl⟩
    go_wp2_with fail
    refine bodyPost_ret (v := .tuple #[.string (BA []), .slice none 0 0, .bool false]) (by simp [results, go_sem, BA_nil]) rfl ?_
    exact ⟨as_none HN.out rfl, kept_drewN' w nd⟩
  | true =>
    rw [hc] at hC HA
    have HC := Lw.hid hC
    clear hC hc
    cases hnm : nameB A with
    | false =>
      have HN : Hid (assignF s = none) := Lw.hid (by rw [HA.out, hnm]; simp)
      have HNM := Lw.hid hnm
      clear hnm
      go_enter Tryd.func36, Tryd.ntmps36
      go_wp2_with fail
      refine HC.out.mono ?_
      rintro x w1 ⟨rfl, nd, rfl⟩
      have HNA := Lw.hid (name_any (w.drewN nd) A hla)
      rw [HNM.out] at HNA
      go_wp2_with fail
      refine HNA.out.mono ?_
      rintro x w2 ⟨rfl, rfl⟩
      go_wp2_with fail
      refine bodyPost_ret (v := .tuple #[.string (BA []), .slice none 0 0, .bool false]) (by simp [results, go_sem, BA_nil]) rfl ?_
      exact ⟨as_none HN.out rfl, kept_drewN' w nd⟩
    | true =>
      have HNM := Lw.hid hnm
      rw [hnm] at HA
      cases B with
      | nil =>
        have HN : Hid (assignF s = some (A, [])) := Lw.hid (by rw [HA.out]; simp)
        clear hnm
        go_enter Tryd.func36, Tryd.ntmps36
        go_wp2_with fail
        refine HC.out.mono ?_
        rintro x w1 ⟨rfl, nd, rfl⟩
        have HNA := Lw.hid (name_any (w.drewN nd) A hla)
        rw [HNM.out] at HNA
        go_wp2_with fail
        refine HNA.out.mono ?_
        rintro x w2 ⟨rfl, rfl⟩
        go_wp2_with fail
        refine bodyPost_ret (v := .tuple #[.string (BA A), .slice none 0 0, .bool true]) (by simp [results, go_sem]; rfl) rfl ?_
        exact ⟨as_some HN.out rfl (WAt.nil _ _), kept_drewN' w nd⟩
      | cons b B =>
        have HB : Hid (assignF s = match parseW (b :: B) with | .ok l => some (A, l) | .error _ => none) := Lw.hid (by rw [HA.out]; simp)
        have HEA : ∀ nd, Hid (WEnv (w.drewN nd)) := fun nd => Lw.hid (HE.out.kept (kept_drewN' w nd) (fun h => h) (fun h => h) (fun h => h))
        clear hnm HA
        cases hp : parseW (b :: B) with
        | error e =>
          have he0 : ((e : Int) != 0) = true := by have := parseW_ne0 hp; simp [bne]; omega
          have HN : Hid (assignF s = none) := Lw.hid (by rw [HB.out, hp])
          have HP := Lw.hid hp
          clear hp HB
          go_enter Tryd.func36, Tryd.ntmps36
          go_wp2_with fail
          refine HC.out.mono ?_
          rintro x w1 ⟨rfl, nd, rfl⟩
          have HNA := Lw.hid (name_any (w.drewN nd) A hla)
          rw [HNM.out] at HNA
          go_wp2_with fail
          refine HNA.out.mono ?_
          rintro x w2 ⟨rfl, rfl⟩
          have HPA := Lw.hid (parse_any (w.drewN nd) (b :: B) (HEA nd).out hlb)
          go_wp2_with fail
          refine HPA.out.mono ?_
          rintro x w3 ⟨hx, k3⟩
          unfold ParsePost at hx
          rw [HP.out] at hx
          subst hx
          have K3 := Lw.hid ((kept_drewN' w nd).trans k3 (fun _ _ h => h))
          clear k3
          go_wp2_with fail
          refine bodyPost_ret (v := .tuple #[.string (BA []), .slice none 0 0, .bool false]) (by simp [results, go_sem, BA_nil]) rfl ?_
          exact ⟨as_none HN.out rfl, K3.out⟩
        | ok l =>
          have HN : Hid (assignF s = some (A, l)) := Lw.hid (by rw [HB.out, hp])
          have HP := Lw.hid hp
          clear hp HB
          go_enter Tryd.func36, Tryd.ntmps36
          go_wp2_with fail
          refine HC.out.mono ?_
          rintro x w1 ⟨rfl, nd, rfl⟩
          have HNA := Lw.hid (name_any (w.drewN nd) A hla)
          rw [HNM.out] at HNA
          go_wp2_with fail
          refine HNA.out.mono ?_
          rintro x w2 ⟨rfl, rfl⟩
          have HPA := Lw.hid (parse_any (w.drewN nd) (b :: B) (HEA nd).out hlb)
          go_wp2_with fail
          refine HPA.out.mono ?_
          rintro x w3 ⟨hx, k3⟩
          obtain ⟨v, rfl, hv⟩ : ∃ v, x = .returned (.tuple #[v, .int .i64 0]) ∧ WAt w3 (fun b => (w.drewN nd).heap.size ≤ b) v l := by unfold ParsePost at hx; rw [HP.out] at hx; exact hx
          have HV : Hid (WAt w3 (fun b => w.heap.size ≤ b) v l) := Lw.hid hv
          have K3 := Lw.hid ((kept_drewN' w nd).trans k3 (fun _ _ h => h))
          clear k3 hv hx
          go_wp2_with fail
          refine bodyPost_ret (v := .tuple #[.string (BA A), v, .bool true]) (by simp [results, go_sem]; rfl) rfl ?_
          exact ⟨as_some HN.out rfl HV.out, K3.out⟩
end Go.Proofs.YtifcgeanippepaaDoor
