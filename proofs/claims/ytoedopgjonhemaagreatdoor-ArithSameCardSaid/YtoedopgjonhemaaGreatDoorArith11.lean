/- arith: Eval; the law's Eval; the examples. -/
import Derived.Test.YtoedopgjonhemaaGreatDoorArith10
namespace Go.Proofs.YtoedopgjonhemaaGreatDoor
open Go Go.RowKit Go.Lw
set_option maxRecDepth 100000
set_option linter.unusedVariables false
set_option linter.unusedSimpArgs false
attribute [local go_sem] BA_toList
def szL : Lvl → Nat
  | .loop _ y => szE y
  | _ => 0
/-- What an expression asks is in its text. -/
theorem readA_sz : ∀ (n : Nat) (l : Lvl) (d : Nat) (s : List UInt8) {x : Ex × List UInt8}, readA n l d s = .ok x → szE x.1 + 2 * x.2.length ≤ 2 * s.length + szL l
  | 0, l, d, s, x, h => by unfold readA at h; cases h
  | n + 1, .one, d, s, x, h => by
    have ht := trimA_len s
    simp only [szL]
    unfold readA at h
    split at h
    · cases h
    · split at h
      · rename_i ha
        split at h
        · cases h
        · split at h
          · cases h
          · rename_i y hy
            cases h
            have := readA_sz n _ _ _ hy
            rw [List.length_drop] at this
            simp only [szE, szL] at this ⊢
            omega
      · split at h
        · split at h
          · cases h
          · split at h
            · cases h
            · rename_i y hy
              split at h
              · cases h
                have h1 := readA_sz n _ _ _ hy
                have h2 := trimA_len y.2
                rw [List.length_drop] at h1
                simp only [szL] at h1 ⊢
                rw [List.length_drop]; omega
              · cases h
        · split at h
          · unfold numberF at h
            split at h
            · cases h
              have := (List.dropWhile_sublist digitB (l := trimA s)).length_le
              simp only [szE]
              omega
            · cases h
          · unfold wordA at h
            split at h
            · cases h
            · rename_i hne
              cases h
              have h1 : 1 ≤ (nameA (trimA s)).length := List.length_pos_iff.2 hne
              have h2 := nameA_len (trimA s)
              simp only [szE]
              rw [List.length_drop]; omega
  | n + 1, .row k, d, s, x, h => by
    simp only [szL]
    unfold readA at h
    split at h
    · exact readA_sz n _ _ _ h
    · split at h
      · cases h
      · rename_i y hy
        have h1 := readA_sz n _ _ _ hy
        have h2 := readA_sz n _ _ _ h
        simp only [szL] at h1 h2
        omega
  | n + 1, .loop k y, d, s, x, h => by
    have ht := trimA_len s
    simp only [szL]
    unfold readA at h
    split at h
    · split at h
      · cases h
      · rename_i y' hy
        have h1 := readA_sz n _ _ _ hy
        have h2 := readA_sz n _ _ _ h
        rw [List.length_drop] at h1
        simp only [szL, szE] at h1 h2
        omega
    · cases h; simp only; omega
  | n + 1, .all, d, s, x, h => by
    simp only [szL]
    unfold readA at h
    split at h
    · cases h
    · rename_i x0 hx
      have h1 := readA_sz n _ _ _ hx
      have ht := trimA_len x0.2
      simp only [szL] at h1
      split at h
      · split at h
        · cases h
        · split at h
          · cases h
          · rename_i y hy
            have h2 := readA_sz n _ _ _ hy
            have ht2 := trimA_len y.2
            simp only [szL] at h2
            split at h
            · split at h
              · cases h
              · rename_i z hz
                cases h
                have h3 := readA_sz n _ _ _ hz
                rw [List.length_drop] at h2 h3
                simp only [szL, szE] at h3 ⊢
                omega
            · cases h
      · cases h
        simp only
        omega
theorem readT_sz {s : List UInt8} {x : Ex} (h : readT s = .ok x) : szE x ≤ 2 * s.length := by
  unfold readT at h
  cases hx : rdA .all 0 s with
  | error e => rw [hx] at h; cases h
  | ok y =>
    rw [hx] at h
    simp only at h
    split at h
    · cases h
      have := readA_sz _ _ _ _ hx
      simp only [szL] at this
      omega
    · cases h
/-- What all of it stands upon. -/
structure DEnv (B : Nat) (dv : Value) (w : World) : Prop where
  ae : AEnv B w
  dcell : w.cell? ⟨1, 0, none⟩ = some dv
  dlt : 1 < B
  dlook : LkAt 123 dv (· ∈ twoL) doesV w
  dblk : ∀ b, dv = .map (some b) → b < B
theorem DEnv.kept {B : Nat} {dv : Value} {S : Nat → Prop} {w w' : World} (h : DEnv B dv w) (k : Kept S w w') (hS : ∀ i, S i → B ≤ i) : DEnv B dv w' :=
  ⟨h.ae.kept k hS, k.cell h.dcell (fun hi => by have := hS _ hi; have := h.dlt; simp only at *; omega), h.dlt, h.dlook.kept k (fun b hb hi => by have := hS _ hi; have := h.dblk b hb; omega), h.dblk⟩
def evR (A : Va) : Va := if A.e ≠ 0 then ⟨0, A.e, A.l⟩ else ⟨A.v, 0, A.l⟩
theorem evalF_ok {env : List UInt8 → List UInt8} {s : List UInt8} {x : Ex} (h : readT s = .ok x) : evalF env s = evR (ofF env x) := by unfold evalF evR; rw [h]
theorem evalF_err {env : List UInt8 → List UInt8} {s : List UInt8} {e : Nat} (h : readT s = .error e) : evalF env s = ⟨0, e, []⟩ := by unfold evalF; rw [h]
def twoA (A : Va) : Value := .tuple #[.int .i64 A.v, .int .i64 (A.e : Int)]
set_option maxHeartbeats 8000000 in
/-- arith.Eval. -/
theorem evalA_any (B : Nat) (w : World) (s : List UInt8) (ak vk : Nat) (mv dv : Value) (env : List UInt8 → List UInt8) (hD : DEnv B dv w) (hs9 : s.length ≤ 1000000) (henv : ∀ s, (env s).length ≤ 1000000)
    (ha : w.heap[ak]? = some (.cells #[.slice none 0 0] 30 (0, 0))) (hv : w.heap[vk]? = some (.cells #[mv] 23 (0, 0))) (hL : LkAt 23 mv (fun _ => True) (fun s => textV (env s)) w)
    (hm : ∀ b, mv = .map (some b) → b ≠ ak) (hBa : B ≤ ak) (hav : ak ≠ vk) :
    Calls Tryz.prog 12 #[.string (BA s), .func (.func 13) #[] #[.pointer (some ⟨ak, 0, none⟩), .pointer (some ⟨vk, 0, none⟩)]] w fun x w' => x = .returned (twoA (evalF env s)) ∧ ASt w' ak w.heap.size (evalF env s).l ∧ Kept (fun k => k = ak) w w' := by
  have HRD := Lw.hid (read_any B w s hD.ae hs9)
  have hak := heap_lt ha; have hvk := heap_lt hv
  have HD := Lw.hid hD; have HA := Lw.hid ha; have HV := Lw.hid hv; have HL := Lw.hid hL
  have HEO : Hid (∀ x, readT s = .ok x → evalF env s = evR (ofF env x)) := Lw.hid (fun x h => evalF_ok h)
  have HEE : Hid (∀ e, readT s = .error e → evalF env s = ⟨0, e, []⟩) := Lw.hid (fun x h => evalF_err h)
  have HSZ : Hid (∀ x, readT s = .ok x → szE x ≤ 2000000) := Lw.hid (fun x h => by have := readT_sz h; omega)
  obtain ⟨RT, hR⟩ : ∃ R, readT s = R := ⟨_, rfl⟩
  rw [hR] at HRD HEO HEE HSZ
  obtain ⟨V, hV⟩ : ∃ V, evalF env s = V := ⟨_, rfl⟩
  rw [hV] at HEO HEE ⊢
  have HAS0 : Hid (∀ (H : Nat) (w' : World), w'.heap[ak]? = some (.cells #[.slice none 0 0] 30 (0, 0)) → ASt w' ak H []) := Lw.hid (fun H w' h => ⟨⟨none, 0, h, World.ownsRow_nil _ 0 _ 1, fun k hk => (blk_none hk).elim⟩⟩)
  clear hD ha hv hL hR hV
  go_enter Tryz.func12, Tryz.ntmps12
  go_wp2_with fail
  refine HRD.out.mono ?_
  rintro x w1 ⟨hp, k1⟩
  have K1 := Lw.hid k1
  cases RT with
  | error e =>
    obtain ⟨he, a, rfl⟩ := hp
    have hne : (((e : Nat) : Int) != 0) = true := by simp [he]
    have hne' : (((e : Nat) : Int) == 0) = false := by simp [he]
    have HW := Lw.hid (HEE.out e rfl)
    clear he k1 HRD
    go_wp2_with fail
    go_ret2
    rw [HW.out]
    exact ⟨rfl, HAS0.out _ _ (K1.out.heap HA.out (fun h => h)), K1.out.mono (fun _ _ h => h.elim)⟩
  | ok x =>
    obtain ⟨pv, rfl, hn⟩ := hp
    obtain ⟨bp, rfl, hbp⟩ := hn.ptr
    obtain ⟨g, hg⟩ : ∃ g, w1.heap.size = g := ⟨_, rfl⟩
    have HW := Lw.hid (HEO.out x rfl)
    have hsx := HSZ.out x rfl
    have hsz : w.heap.size ≤ g := by rw [← hg]; exact k1.size
    obtain ⟨w2, hw2⟩ : ∃ w2, w1.alloc (.cells #[.func (.func 13) #[] #[.pointer (some ⟨ak, 0, none⟩), .pointer (some ⟨vk, 0, none⟩)], .int .i64 0] 75) = w2 := ⟨_, rfl⟩
    have hb2 : w2.heap[g]? = some (.cells #[.func (.func 13) #[] #[.pointer (some ⟨ak, 0, none⟩), .pointer (some ⟨vk, 0, none⟩)], .int .i64 0] 75 (0, 0)) := by rw [← hw2, ← hg]; exact heap_alloc w1 _
    have k12 : Kept (fun _ => False) w1 w2 := by rw [← hw2]; exact (Kept.refl _ w1).alloc _
    have k2 : Kept (fun _ => False) w w2 := k1.trans k12 (fun _ _ h => h)
    have hg2 : g < w2.heap.size := heap_lt hb2
    have hBg : B ≤ g := by omega
    have HEV : Hid (EvS ⟨B, g, ak, vk, g + 1, mv, dv, env⟩ w2 0 []) := Lw.hid {
      ae := HD.out.ae.kept k2 (fun _ h => h.elim)
      dcell := k2.cell HD.out.dcell (fun h => h)
      dlt := HD.out.dlt
      dlook := HD.out.dlook.kept k2 (fun _ _ h => h)
      dblk := HD.out.dblk
      vcell := k2.heap HV.out (fun h => h)
      vlook := HL.out.kept k2 (fun _ _ h => h)
      mblk := fun b hb => by have := HL.out.lt b hb; have := hm b hb; refine ⟨this, ?_, ?_⟩ <;> simp only <;> omega
      ord := by simp only; omega
      envl := henv
      wk := hb2
      asd := HAS0.out _ _ (k2.heap HA.out (fun h => h)) }
    have hnn : NAt w2 (FN ⟨B, g, ak, vk, g + 1, mv, dv, env⟩) (.pointer (some ⟨bp, 0, none⟩)) x :=
      (hn.mono (G := FN ⟨B, g, ak, vk, g + 1, mv, dv, env⟩) (fun b hb hlo => by unfold FN; simp only; omega)).kept k12 (fun _ _ h => h)
    have HOF := Lw.hid (of_any ⟨B, g, ak, vk, g + 1, mv, dv, env⟩ x w2 [] _ HEV.out hnn (by simp; omega))
    have K2 := Lw.hid k2; have HG := Lw.hid hg; have HW2 := Lw.hid hw2
    obtain ⟨A, hA⟩ : ∃ A, ofF env x = A := ⟨_, rfl⟩
    have HOF2 : Hid (Calls Tryz.prog 20 #[.pointer (some ⟨g, 0, none⟩), .pointer (some ⟨bp, 0, none⟩)] w2 (OfPost ⟨B, g, ak, vk, g + 1, mv, dv, env⟩ w2 [] A)) := Lw.hid (by have := HOF.out; simp only [hA] at this; exact this)
    rw [hA] at HW
    clear hn hnn k1 k12 k2 hb2 hg hw2 hA HRD HOF
    go_wp2_with fail
    rw [HW2.out, HG.out]
    go_wp2_with fail
    refine HOF2.out.mono ?_
    rintro e w3 ⟨rfl, he3, k3⟩
    have HE3 : Hid (EvS ⟨B, g, ak, vk, g + 1, mv, dv, env⟩ w3 (A.e : Int) A.l) := Lw.hid he3
    have K3 : Hid (Kept (fun k => k = ak) w w3) := Lw.hid ((K2.out.mono (S' := fun k => k = ak) (fun _ _ h => h.elim)).trans k3 (fun i hi h => by unfold SE at h; simp only at h; omega))
    have cc := he3.cells.2.1
    simp only at cc
    have HAS3 : Hid (ASt w3 ak w.heap.size A.l) := Lw.hid (by
      obtain ⟨ad, cap, e1, e2, e3⟩ := he3.asd.cell
      exact ⟨⟨ad, cap, e1, e2, fun k hk => by have := e3 k hk; simp only at this; omega⟩⟩)
    clear he3 k3
    by_cases h0 : A.e = 0
    · have hf0 : (((A.e : Nat) : Int) != 0) = false := by simp [h0]
      have hf0' : (((A.e : Nat) : Int) == 0) = true := by simp [h0]
      have HW3 : Hid (V = ⟨A.v, 0, A.l⟩) := Lw.hid (by rw [HW.out]; unfold evR; simp [h0])
      clear h0
      go_wp2_with fail
      go_ret2
      rw [HW3.out]
      exact ⟨rfl, HAS3.out, K3.out⟩
    · have hf0 : (((A.e : Nat) : Int) != 0) = true := by simp [h0]
      have hf0' : (((A.e : Nat) : Int) == 0) = false := by simp [h0]
      have HW3 : Hid (V = ⟨0, A.e, A.l⟩) := Lw.hid (by rw [HW.out]; unfold evR; simp [h0])
      clear h0
      go_wp2_with fail
      go_quiet (fail)
      go_wp2_with fail
      go_ret2
      rw [HW3.out]
      first
        | exact ⟨rfl, HAS3.out, K3.out⟩
        | exact ⟨rfl, HAS3.out.kept (kept_drewN' _ _) (fun h => h) (fun _ h => h.elim), K3.out.trans (kept_drewN' _ _) (fun _ _ h => h.elim)⟩
end Go.Proofs.YtoedopgjonhemaaGreatDoor
