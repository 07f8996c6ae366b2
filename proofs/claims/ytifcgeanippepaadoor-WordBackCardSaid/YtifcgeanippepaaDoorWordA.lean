/- package word: Assign. -/
import Derived.Test.YtifcgeanippepaaDoorWordT
import Derived.Test.YtifcgeanippepaaDoorWord7
namespace Go.Proofs.YtifcgeanippepaaDoor
open Go Go.RowKit Go.Lw
set_option maxRecDepth 100000
set_option linter.unusedVariables false
set_option linter.unusedSimpArgs false
attribute [local go_sem] BA_toList
/-- What Assign tells. -/
def assignF (s : List UInt8) : Option (List UInt8 × List Prt) :=
  if s.contains 61 = true ∧ nameB (cutR 61 s).1 = true then
    (if (cutR 61 s).2 = [] then some ((cutR 61 s).1, []) else match parseW (cutR 61 s).2 with
      | .ok l => some ((cutR 61 s).1, l)
      | .error _ => none)
  else none
def AssignPost (w : World) (s : List UInt8) (x : Ending) (w' : World) : Prop := match assignF s with
  | some (nm, l) => ∃ v, x = .returned (.tuple #[.string (BA nm), v, .bool true]) ∧ WAt w' (fun b => w.heap.size ≤ b) v l
  | none => x = .returned (.tuple #[.string (BA []), .slice none 0 0, .bool false])
theorem as_none {w w' : World} {s : List UInt8} {x : Ending} (h : assignF s = none) (hx : x = .returned (.tuple #[.string (BA []), .slice none 0 0, .bool false])) : AssignPost w s x w' := by
  unfold AssignPost; rw [h]; exact hx
theorem as_some {w w' : World} {s nm : List UInt8} {l : List Prt} {v : Value} {x : Ending} (h : assignF s = some (nm, l)) (hx : x = .returned (.tuple #[.string (BA nm), v, .bool true])) (hv : WAt w' (fun b => w.heap.size ≤ b) v l) : AssignPost w s x w' := by
  unfold AssignPost; rw [h]; exact ⟨v, hx, hv⟩
theorem cut_third (c : UInt8) (s : List UInt8) : (Lib.cut s [c]).2.2 = s.contains c := by
  rw [← idx_contains]
  unfold Lib.cut
  rw [Lib.index_one]
  split
  · rename_i h; rw [decide_eq_true h]
  · rename_i h; rw [decide_eq_false h]
theorem parseW_ne0 {s : List UInt8} {e : Nat} (h : parseW s = .error e) : e ≠ 0 := by
  unfold parseW at h
  split at h
  · rename_i e' he
    cases h
    intro h0
    subst h0
    exact lexT_ne0 he
  · split at h
    · split at h
      · cases h; decide
      · cases h
    · cases h; decide
set_option maxHeartbeats 16000000 in
theorem assign_any (w : World) (s : List UInt8) (hE : WEnv w) (hs9 : s.length ≤ 1000000) :
    Calls Tryd.prog 36 #[.string (BA s)] w fun x w' => AssignPost w s x w' ∧ Kept (fun _ => False) w w' := by
  have HE := Lw.hid hE
  obtain ⟨m, hm⟩ := hE.lex.max
  have hz : (BA s).size < 4294967281 := by rw [BA_size]; omega
  have hC := Tryd.strings_Cut (BA s) ⟨#[61]⟩ m w hz hm
  rw [BA_list, show (⟨#[61]⟩ : ByteArray).data.toList = [61] from rfl, (cutR_lib 61 s).1, (cutR_lib 61 s).2, cut_third] at hC
  clear hE hm hz
  have hla : (cutR 61 s).1.length ≤ 1000000 := by have := cutR_mass 61 s; omega
  have hlb : (cutR 61 s).2.length ≤ 1000000 := by have := cutR_mass 61 s; omega
  obtain ⟨A, hA⟩ : ∃ A, (cutR 61 s).1 = A := ⟨_, rfl⟩
  obtain ⟨B, hB⟩ : ∃ B, (cutR 61 s).2 = B := ⟨_, rfl⟩
  have hAF : assignF s = if s.contains 61 = true ∧ nameB A = true then (if B = [] then some (A, []) else match parseW B with | .ok l => some (A, l) | .error _ => none) else none := by unfold assignF; rw [hA, hB]
  rw [hA, hB] at hC
  rw [hA] at hla; rw [hB] at hlb
  have HA := Lw.hid hAF
  clear hA hB hAF
  cases hc : s.contains 61 with
  | false =>
    rw [hc] at hC HA
    have HC := Lw.hid hC
    have HN : Hid (assignF s = none) := Lw.hid (by rw [HA.out]; simp)
    clear hC hc
    go_enter Tryd.func36, Tryd.ntmps36
    go_wp2_with fail
    refine HC.out.mono ?_
    rintro x w1 ⟨rfl, nd, rfl⟩
    go_wp2_with fail
    refine bodyPost_ret (v := .tuple #[.string (BA []), .slice none 0 0, .bool false]) (by simp [results, go_sem, BA_nil]) rfl ?_
    exact ⟨as_none HN.out rfl, kept_drewN' w nd⟩
  | true =>
    rw [hc] at hC HA
    have HC := Lw.hid hC
    clear hC hc
    cases hnm : nameB A with
    | false =>
      have HN : Hid (assignF s = none) := Lw.hid (by rw [HA.out, hnm]; simp)
      have HNM := Lw.hid hnm
      clear hnm
      go_enter Tryd.func36, Tryd.ntmps36
      go_wp2_with fail
      refine HC.out.mono ?_
      rintro x w1 ⟨rfl, nd, rfl⟩
      have HNA := Lw.hid (name_any (w.drewN nd) A hla)
      rw [HNM.out] at HNA
      go_wp2_with fail
      refine HNA.out.mono ?_
      rintro x w2 ⟨rfl, rfl⟩
      go_wp2_with fail
      refine bodyPost_ret (v := .tuple #[.string (BA []), .slice none 0 0, .bool false]) (by simp [results, go_sem, BA_nil]) rfl ?_
      exact ⟨as_none HN.out rfl, kept_drewN' w nd⟩
    | true =>
      have HNM := Lw.hid hnm
      rw [hnm] at HA
      cases B with
      | nil =>
        have HN : Hid (assignF s = some (A, [])) := Lw.hid (by rw [HA.out]; simp)
        clear hnm
        go_enter Tryd.func36, Tryd.ntmps36
        go_wp2_with fail
        refine HC.out.mono ?_
        rintro x w1 ⟨rfl, nd, rfl⟩
        have HNA := Lw.hid (name_any (w.drewN nd) A hla)
        rw [HNM.out] at HNA
        go_wp2_with fail
        refine HNA.out.mono ?_
        rintro x w2 ⟨rfl, rfl⟩
        go_wp2_with fail
        refine bodyPost_ret (v := .tuple #[.string (BA A), .slice none 0 0, .bool true]) (by simp [results, go_sem]; rfl) rfl ?_
        exact ⟨as_some HN.out rfl (WAt.nil _ _), kept_drewN' w nd⟩
      | cons b B =>
        have HB : Hid (assignF s = match parseW (b :: B) with | .ok l => some (A, l) | .error _ => none) := Lw.hid (by rw [HA.out]; simp)
        have HEA : ∀ nd, Hid (WEnv (w.drewN nd)) := fun nd => Lw.hid (HE.out.kept (kept_drewN' w nd) (fun h => h) (fun h => h) (fun h => h))
        clear hnm HA
        cases hp : parseW (b :: B) with
        | error e =>
          have he0 : ((e : Int) != 0) = true := by have := parseW_ne0 hp; simp [bne]; omega
          have HN : Hid (assignF s = none) := Lw.hid (by rw [HB.out, hp])
          have HP := Lw.hid hp
          clear hp HB
          go_enter Tryd.func36, Tryd.ntmps36
          go_wp2_with fail
          refine HC.out.mono ?_
          rintro x w1 ⟨rfl, nd, rfl⟩
          have HNA := Lw.hid (name_any (w.drewN nd) A hla)
          rw [HNM.out] at HNA
          go_wp2_with fail
          refine HNA.out.mono ?_
          rintro x w2 ⟨rfl, rfl⟩
          have HPA := Lw.hid (parse_any (w.drewN nd) (b :: B) (HEA nd).out hlb)
          go_wp2_with fail
          refine HPA.out.mono ?_
          rintro x w3 ⟨hx, k3⟩
          unfold ParsePost at hx
          rw [HP.out] at hx
          subst hx
          have K3 := Lw.hid ((kept_drewN' w nd).trans k3 (fun _ _ h => h))
          clear k3
          go_wp2_with fail
          refine bodyPost_ret (v := .tuple #[.string (BA []), .slice none 0 0, .bool false]) (by simp [results, go_sem, BA_nil]) rfl ?_
          exact ⟨as_none HN.out rfl, K3.out⟩
        | ok l =>
          have HN : Hid (assignF s = some (A, l)) := Lw.hid (by rw [HB.out, hp])
          have HP := Lw.hid hp
          clear hp HB
          go_enter Tryd.func36, Tryd.ntmps36
          go_wp2_with fail
          refine HC.out.mono ?_
          rintro x w1 ⟨rfl, nd, rfl⟩
          have HNA := Lw.hid (name_any (w.drewN nd) A hla)
          rw [HNM.out] at HNA
          go_wp2_with fail
          refine HNA.out.mono ?_
          rintro x w2 ⟨rfl, rfl⟩
          have HPA := Lw.hid (parse_any (w.drewN nd) (b :: B) (HEA nd).out hlb)
          go_wp2_with fail
          refine HPA.out.mono ?_
          rintro x w3 ⟨hx, k3⟩
          obtain ⟨v, rfl, hv⟩ : ∃ v, x = .returned (.tuple #[v, .int .i64 0]) ∧ WAt w3 (fun b => (w.drewN nd).heap.size ≤ b) v l := by unfold ParsePost at hx; rw [HP.out] at hx; exact hx
          have HV : Hid (WAt w3 (fun b => w.heap.size ≤ b) v l) := Lw.hid hv
          have K3 := Lw.hid ((kept_drewN' w nd).trans k3 (fun _ _ h => h))
          clear k3 hv hx
          go_wp2_with fail
          refine bodyPost_ret (v := .tuple #[.string (BA A), v, .bool true]) (by simp [results, go_sem]; rfl) rfl ?_
          exact ⟨as_some HN.out rfl HV.out, K3.out⟩
end Go.Proofs.YtifcgeanippepaaDoor
