/- package word: pair. -/
import Derived.Test.YtifcgeanippepaaDoorWord1
namespace Go.Proofs.YtifcgeanippepaaDoor
open Go Go.RowKit Go.Lw
set_option maxRecDepth 100000
set_option linter.unusedVariables false
set_option linter.unusedSimpArgs false
attribute [local go_sem] BA_toList
/-- A part as a value; its Or lies at o. -/
def PV (p : Prt) (o : Value) : Value := .agg #[.int .i64 p.kind, .string (BA p.text), o, .bool p.quoted]
theorem EPt : ElemT Tryd.prog 42 46 4 56 := ElemT.of (z := .agg #[.int .i64 0, .string ⟨#[]⟩, .slice none 0 0, .bool false]) Tryd.underlying42 (by kernel_rfl) rfl (by decide)
theorem contains_odd : ∀ t : List UInt8, t.length ≤ 1 → Lib.contains [36, 34, 92, 96] t = t.all oddB
  | [], _ => by decide
  | [c], _ => by
    unfold Lib.contains
    rw [Lib.index_one]
    show _ = (oddB c && true)
    rw [Bool.and_true]
    unfold oddB
    by_cases h1 : c = 36
    · subst h1; decide
    · by_cases h2 : c = 34
      · subst h2; decide
      · by_cases h3 : c = 92
        · subst h3; decide
        · by_cases h4 : c = 96
          · subst h4; decide
          · have e : ∀ {a b : UInt8}, ¬ b = a → (a == b) = false := fun h => beq_eq_false_iff_ne.2 (fun x => h x.symm)
            have e' : ∀ {a b : UInt8}, ¬ b = a → (b == a) = false := fun h => beq_eq_false_iff_ne.2 h
            simp [Lib.indexByte, e h1, e h2, e h3, e h4, e' h1, e' h2, e' h3, e' h4]
  | _ :: _ :: _, h => by simp at h
theorem lvNum (lv : Lv) : lv.num = (match lv with | .bare => 0 | .dbl => 1 | .brc => 2 : Int) := by cases lv <;> rfl
set_option maxHeartbeats 4000000 in
/-- pair. -/
theorem pair_any (lv : Lv) (w : World) (g : Nat) (s : List UInt8) (b : Bool) (h : RdrAt w g ⟨s, b⟩) (hs9 : s.length ≤ 1000000) (hE : LEnv w) :
    Calls Tryd.prog 88 #[.pointer (some ⟨g, 0, none⟩), .int .i64 lv.num] w fun x w' => x = .returned (PV (pairR lv s).1 (.slice none 0 0)) ∧ RdrAt w' g ⟨(pairR lv s).2, b⟩ ∧ K1 g w w' := by
  obtain ⟨⟨c0, c1⟩, f0, f1⟩ := h.cells
  have H := Lw.hid h
  have HE := Lw.hid hE
  have hs := BA_size s
  obtain ⟨N, hN⟩ : ∃ N, s.length = N := ⟨_, rfl⟩
  have HN := Lw.hid hN
  rw [hN] at hs hs9
  obtain ⟨M, hM⟩ : ∃ M, min N 1 = M := ⟨_, rfl⟩
  have eH := BA_head s M
  have eT := BA_tail s M N hN.symm
  have hMN : M ≤ N := by omega
  have hmin : (min (N : Int) 1) = (M : Int) := by omega
  have hgl := h.lt
  have hT : (BA (s.take M)).size = M := by rw [BA_size, List.length_take]; omega
  have HTK : Hid (s.take M = s.take 1 ∧ s.drop M = s.drop 1) := Lw.hid (by
    cases s with
    | nil => simp
    | cons c r => have : M = 1 := by simp at hN; omega
                  rw [this]; exact ⟨rfl, rfl⟩)
  clear h hN hE
  have keep : ∀ (o1 o2 : Obj) (r : List UInt8), RdrAt (((w.setCell ⟨g, 0, none⟩ (.string (BA r))).alloc o1).alloc o2).drew.drew g ⟨r, b⟩ ∧ K1 g w (((w.setCell ⟨g, 0, none⟩ (.string (BA r))).alloc o1).alloc o2).drew.drew := fun o1 o2 r =>
    ⟨(H.out.left r).kept ((((Kept.refl (fun _ => False) _).alloc o1).alloc o2).drew.drew) (fun h => h), ((((K1.set (K1.refl g w) _).alloc o1).alloc o2).drew.drew)⟩
  have HKEEP := Lw.hid keep
  clear keep
  have HPR : ∀ lv, Hid ((pairR lv s).2 = s.drop M) := fun lv => Lw.hid HTK.out.2.symm
  have HPT : ∀ lv, Hid ((pairR lv s).1 = .mk 1 (if lv = .dbl ∧ (s.take M).all oddB = false then 92 :: s.take M else s.take M) [] true) := fun lv => Lw.hid (by unfold pairR; rw [HTK.out.1])
  cases lv
  case bare =>
    have e0 : (pairR .bare s).1 = .mk 1 (s.take M) [] true := (HPT .bare).out
    rw [show Lv.num .bare = 0 from rfl, e0, (HPR .bare).out]
    clear HPT HPR e0
    go_enter Tryd.func88, Tryd.ntmps88
    go_wp2_with fail
    go_region
    go_wp2_with fail
    go_region
    go_wp2_with fail
    exact bodyPost_ret (v := PV (.mk 1 (s.take M) [] true) (.slice none 0 0)) (by simp [results, go_sem, PV, Prt.kind, Prt.text, Prt.quoted]) rfl ⟨rfl, HKEEP.out _ _ _⟩
  case brc =>
    have e0 : (pairR .brc s).1 = .mk 1 (s.take M) [] true := (HPT .brc).out
    rw [show Lv.num .brc = 2 from rfl, e0, (HPR .brc).out]
    clear HPT HPR e0
    go_enter Tryd.func88, Tryd.ntmps88
    go_wp2_with fail
    go_region
    go_wp2_with fail
    go_region
    go_wp2_with fail
    exact bodyPost_ret (v := PV (.mk 1 (s.take M) [] true) (.slice none 0 0)) (by simp [results, go_sem, PV, Prt.kind, Prt.text, Prt.quoted]) rfl ⟨rfl, HKEEP.out _ _ _⟩
  case dbl =>
    have hl1 : (s.take M).length ≤ 1 := by rw [List.length_take]; omega
    have hz : (BA [36, 34, 92, 96]).size < 4294967281 := by decide
    have CO : ∀ (w' : World), K1 g w (w') → Calls Tryd.prog 111 #[.string (BA [36, 34, 92, 96]), .string (BA (s.take M))] w' fun e w2 => e = .returned (.bool ((s.take M).all oddB)) ∧ w2 = w' := by
      intro w' k
      obtain ⟨m, hm⟩ := HE.out.max
      have hm' : w'.cell? ⟨2, 0, none⟩ = some (.int .i64 m) := k.cell hm (fun e => by
        have e' : 2 = g := e
        rw [e', H.out.cells.1.1] at hm
        cases hm)
      have := Tryd.strings_Contains (BA [36, 34, 92, 96]) (BA (s.take M)) m w' hz hm'
      rwa [BA_list, BA_list, contains_odd _ hl1] at this
    cases ho : (s.take M).all oddB with
    | true =>
      have e0 : (pairR .dbl s).1 = .mk 1 (s.take M) [] true := by rw [(HPT .dbl).out, ho]; simp
      rw [show Lv.num .dbl = 1 from rfl, e0, (HPR .dbl).out]
      rw [ho] at CO
      have HCO := Lw.hid CO
      clear HPT HPR e0 CO ho hl1 hz
      go_enter Tryd.func88, Tryd.ntmps88
      go_wp2_with fail
      go_region
      go_wp2_with fail
      go_region
      go_wp2_with fail
      refine (HCO.out _ ((((K1.set (K1.refl g w) _).alloc _).alloc _).drew.drew)).mono ?_
      rintro e _ ⟨rfl, rfl⟩
      go_wp2_with fail
      exact bodyPost_ret (v := PV (.mk 1 (s.take M) [] true) (.slice none 0 0)) (by simp [results, go_sem, PV, Prt.kind, Prt.text, Prt.quoted]) rfl ⟨rfl, HKEEP.out _ _ _⟩
    | false =>
      have e0 : (pairR .dbl s).1 = .mk 1 (92 :: s.take M) [] true := by rw [(HPT .dbl).out, ho]; simp
      rw [show Lv.num .dbl = 1 from rfl, e0, (HPR .dbl).out]
      rw [ho] at CO
      have HCO := Lw.hid CO
      clear HPT HPR e0 CO ho hl1 hz
      have hcat : (⟨#[92]⟩ : ByteArray) ++ BA (s.take M) = BA (92 :: s.take M) := BA_append [92] (s.take M)
      go_enter Tryd.func88, Tryd.ntmps88
      go_wp2_with fail
      go_region
      go_wp2_with fail
      go_region
      go_wp2_with fail
      refine (HCO.out _ ((((K1.set (K1.refl g w) _).alloc _).alloc _).drew.drew)).mono ?_
      rintro e _ ⟨rfl, rfl⟩
      go_wp2_with fail
      exact bodyPost_ret (v := PV (.mk 1 (92 :: s.take M) [] true) (.slice none 0 0)) (by simp [results, go_sem, PV, Prt.kind, Prt.text, Prt.quoted]) rfl ⟨rfl, HKEEP.out _ _ _⟩
end Go.Proofs.YtifcgeanippepaaDoor
