/- arith: of and between. -/
import Derived.Test.YtoedopgjonhemaaGreatDoorArith8
namespace Go.Proofs.YtoedopgjonhemaaGreatDoor
open Go Go.RowKit Go.Lw
set_option maxRecDepth 100000
set_option linter.unusedVariables false
set_option linter.unusedSimpArgs false
attribute [local go_sem] BA_toList
def twoL : List (List UInt8) := [[124], [94], [38], [61, 61], [33, 61], [60], [60, 61], [62], [62, 61], [60, 60], [62, 62], [43], [45], [42], [47], [37]]
def doesF (g : List UInt8) : Nat := if g = [124] then 188 else if g = [94] then 189 else if g = [38] then 190 else if g = [61, 61] then 191 else if g = [33, 61] then 192 else if g = [60] then 193 else if g = [60, 61] then 194 else if g = [62] then 195 else if g = [62, 61] then 196 else if g = [60, 60] then 197 else if g = [62, 62] then 200 else if g = [43] then 202 else if g = [45] then 203 else if g = [42] then 204 else if g = [47] then 205 else 208
def doesV (g : List UInt8) : Value := .func (.func (doesF g)) #[] #[]
theorem doesF_1 : doesF [124] = 188 := by decide
theorem doesF_2 : doesF [94] = 189 := by decide
theorem doesF_3 : doesF [38] = 190 := by decide
theorem doesF_4 : doesF [61, 61] = 191 := by decide
theorem doesF_5 : doesF [33, 61] = 192 := by decide
theorem doesF_6 : doesF [60] = 193 := by decide
theorem doesF_7 : doesF [60, 61] = 194 := by decide
theorem doesF_8 : doesF [62] = 195 := by decide
theorem doesF_9 : doesF [62, 61] = 196 := by decide
theorem doesF_10 : doesF [60, 60] = 197 := by decide
theorem doesF_11 : doesF [62, 62] = 200 := by decide
theorem doesF_12 : doesF [43] = 202 := by decide
theorem doesF_13 : doesF [45] = 203 := by decide
theorem doesF_14 : doesF [42] = 204 := by decide
theorem doesF_15 : doesF [47] = 205 := by decide
theorem doesF_16 : doesF [37] = 208 := by decide
theorem does_enters {g : List UInt8} (hg : g ∈ twoL) : ∀ args w, (callFunc (doesF g) args).run Tryz.prog w = .ok (.enter (doesF g) args) w := by
  simp only [twoL, List.mem_cons, List.not_mem_nil, or_false] at hg
  rcases hg with rfl | rfl | rfl | rfl | rfl | rfl | rfl | rfl | rfl | rfl | rfl | rfl | rfl | rfl | rfl | rfl
  · rw [doesF_1]; exact Go.Proofs.enters_of Tryz.func188 (by kernel_rfl) rfl
  · rw [doesF_2]; exact Go.Proofs.enters_of Tryz.func189 (by kernel_rfl) rfl
  · rw [doesF_3]; exact Go.Proofs.enters_of Tryz.func190 (by kernel_rfl) rfl
  · rw [doesF_4]; exact Go.Proofs.enters_of Tryz.func191 (by kernel_rfl) rfl
  · rw [doesF_5]; exact Go.Proofs.enters_of Tryz.func192 (by kernel_rfl) rfl
  · rw [doesF_6]; exact Go.Proofs.enters_of Tryz.func193 (by kernel_rfl) rfl
  · rw [doesF_7]; exact Go.Proofs.enters_of Tryz.func194 (by kernel_rfl) rfl
  · rw [doesF_8]; exact Go.Proofs.enters_of Tryz.func195 (by kernel_rfl) rfl
  · rw [doesF_9]; exact Go.Proofs.enters_of Tryz.func196 (by kernel_rfl) rfl
  · rw [doesF_10]; exact Go.Proofs.enters_of Tryz.func197 (by kernel_rfl) rfl
  · rw [doesF_11]; exact Go.Proofs.enters_of Tryz.func200 (by kernel_rfl) rfl
  · rw [doesF_12]; exact Go.Proofs.enters_of Tryz.func202 (by kernel_rfl) rfl
  · rw [doesF_13]; exact Go.Proofs.enters_of Tryz.func203 (by kernel_rfl) rfl
  · rw [doesF_14]; exact Go.Proofs.enters_of Tryz.func204 (by kernel_rfl) rfl
  · rw [doesF_15]; exact Go.Proofs.enters_of Tryz.func205 (by kernel_rfl) rfl
  · rw [doesF_16]; exact Go.Proofs.enters_of Tryz.func208 (by kernel_rfl) rfl
theorem does_calls {g : List UInt8} (hg : g ∈ twoL) (w : World) (a b : Int) : Calls Tryz.prog (doesF g) #[.int .i64 a, .int .i64 b] w fun x w' => x = .returned (twoV (binF g a b)) ∧ Kept (fun _ => False) w w' := by
  simp only [twoL, List.mem_cons, List.not_mem_nil, or_false] at hg
  rcases hg with rfl | rfl | rfl | rfl | rfl | rfl | rfl | rfl | rfl | rfl | rfl | rfl | rfl | rfl | rfl | rfl
  · rw [doesF_1]; exact does1_any w a b
  · rw [doesF_2]; exact does2_any w a b
  · rw [doesF_3]; exact does3_any w a b
  · rw [doesF_4]; exact does4_any w a b
  · rw [doesF_5]; exact does5_any w a b
  · rw [doesF_6]; exact does6_any w a b
  · rw [doesF_7]; exact does7_any w a b
  · rw [doesF_8]; exact does8_any w a b
  · rw [doesF_9]; exact does9_any w a b
  · rw [doesF_10]; exact does10_any w a b
  · rw [doesF_11]; exact does11_any w a b
  · rw [doesF_12]; exact does12_any w a b
  · rw [doesF_13]; exact does13_any w a b
  · rw [doesF_14]; exact does14_any w a b
  · rw [doesF_15]; exact does15_any w a b
  · rw [doesF_16]; exact does16_any w a b
theorem rows_two {g : List UInt8} (hg : ∃ j, j < 10 ∧ g ∈ rowsL.getD j []) : g = [38, 38] ∨ g = [124, 124] ∨ (g ∈ twoL ∧ g ≠ [38, 38] ∧ g ≠ [124, 124]) := by
  obtain ⟨j, hj, h⟩ := hg
  have key : (List.range 10).all (fun j => (rowsL.getD j []).all (fun g => decide (g = [38, 38] ∨ g = [124, 124] ∨ (g ∈ twoL ∧ g ≠ [38, 38] ∧ g ≠ [124, 124])))) = true := by decide +kernel
  have h1 := List.all_eq_true.1 key j (List.mem_range.2 hj)
  exact of_decide_eq_true (List.all_eq_true.1 h1 g h)
/-- How much an expression asks at most. -/
def szE : Ex → Nat
  | .num _ => 0
  | .name s => s.length + 1
  | .un _ a => szE a
  | .bin _ a b => szE a + szE b
  | .cond a b c => szE a + szE b + szE c
theorem of_len (env : List UInt8 → List UInt8) : ∀ x, (ofF env x).l.length ≤ szE x
  | .num _ => Nat.le_refl _
  | .name s => by show ([s] : List (List UInt8)).length ≤ _; simp only [List.length_cons, List.length_nil, szE]; omega
  | .un _ a => of_len env a
  | .bin g a b => by
    have h1 := of_len env a; have h2 := of_len env b
    unfold ofF szE
    split
    · show (ofF env a).l.length ≤ _; omega
    · split
      · split
        · show ((ofF env a).l ++ (ofF env b).l).length ≤ _; rw [List.length_append]; omega
        · show (ofF env a).l.length ≤ _; omega
      · split
        · split
          · show (ofF env a).l.length ≤ _; omega
          · show ((ofF env a).l ++ (ofF env b).l).length ≤ _; rw [List.length_append]; omega
        · split
          · show ((ofF env a).l ++ (ofF env b).l).length ≤ _; rw [List.length_append]; omega
          · show ((ofF env a).l ++ (ofF env b).l).length ≤ _; rw [List.length_append]; omega
  | .cond a b c => by
    have h1 := of_len env a; have h2 := of_len env b; have h3 := of_len env c
    unfold ofF szE
    split
    · show (ofF env a).l.length ≤ _; omega
    · split
      · show ((ofF env a).l ++ (ofF env b).l).length ≤ _; rw [List.length_append]; omega
      · show ((ofF env a).l ++ (ofF env c).l).length ≤ _; rw [List.length_append]; omega
/-! Where all lies. -/
structure EP where
  B : Nat
  g : Nat
  ak : Nat
  vk : Nat
  H : Nat
  mv : Value
  dv : Value
  env : List UInt8 → List UInt8
def vT : TypeId := 23
structure EvS (p : EP) (w : World) (e : Int) (l : List (List UInt8)) : Prop where
  ae : AEnv p.B w
  dcell : w.cell? ⟨1, 0, none⟩ = some p.dv
  dlt : 1 < p.B
  dlook : LkAt 123 p.dv (· ∈ twoL) doesV w
  dblk : ∀ b, p.dv = .map (some b) → b < p.B
  vcell : w.heap[p.vk]? = some (.cells #[p.mv] 23 (0, 0))
  vlook : LkAt 23 p.mv (fun _ => True) (fun s => textV (p.env s)) w
  mblk : ∀ b, p.mv = .map (some b) → b ≠ p.ak ∧ b ≠ p.g ∧ b < p.H
  ord : (p.B ≤ p.ak ∧ p.B ≤ p.g ∧ p.B ≤ p.H ∧ p.ak < p.H ∧ p.g < p.H ∧ p.vk < p.H) ∧ p.ak ≠ p.vk ∧ p.g ≠ p.vk ∧ p.ak ≠ p.g ∧ p.H ≤ w.heap.size
  envl : ∀ s, (p.env s).length ≤ 1000000
  wk : w.heap[p.g]? = some (.cells #[.func (.func 13) #[] #[.pointer (some ⟨p.ak, 0, none⟩), .pointer (some ⟨p.vk, 0, none⟩)], .int .i64 e] 75 (0, 0))
  asd : ASt w p.ak p.H l
def SE (p : EP) : Nat → Prop := fun k => k = p.ak ∨ k = p.g ∨ p.H ≤ k
theorem EvS.keep {p : EP} {w w' : World} {e e' : Int} {l l' : List (List UInt8)} (h : EvS p w e l) (k : Kept (SE p) w w')
    (hw : w'.heap[p.g]? = some (.cells #[.func (.func 13) #[] #[.pointer (some ⟨p.ak, 0, none⟩), .pointer (some ⟨p.vk, 0, none⟩)], .int .i64 e'] 75 (0, 0))) (ha : ASt w' p.ak p.H l') : EvS p w' e' l' := by
  obtain ⟨⟨o1, o2, o3, o4, o5, o6⟩, o7, o8, o9, o10⟩ := h.ord
  have hB : ∀ i, SE p i → p.B ≤ i := fun i hi => by unfold SE at hi; omega
  refine ⟨h.ae.kept k hB, k.cell h.dcell (fun hi => by have := hB _ hi; have := h.dlt; simp only at *; omega), h.dlt, h.dlook.kept k (fun b hb hi => by have := hB _ hi; have := h.dblk b hb; omega), h.dblk,
    k.heap h.vcell (fun hi => by unfold SE at hi; omega), h.vlook.kept k (fun b hb hi => by have := h.mblk b hb; unfold SE at hi; omega), h.mblk, ⟨⟨o1, o2, o3, o4, o5, o6⟩, o7, o8, o9, Nat.le_trans o10 k.size⟩, h.envl, hw, ha⟩
theorem EvS.same {p : EP} {w w' : World} {e : Int} {l : List (List UInt8)} (h : EvS p w e l) (k : Kept (fun _ => False) w w') : EvS p w' e l :=
  h.keep (k.mono (fun _ _ h => h.elim)) (k.heap h.wk (fun h => h)) (h.asd.kept k (fun h => h) (fun _ h => h.elim))
theorem EvS.setE {p : EP} {w : World} {e : Int} {l : List (List UInt8)} (h : EvS p w e l) (e' : Int) : EvS p (w.setCell ⟨p.g, 1, none⟩ (.int .i64 e')) e' l := by
  obtain ⟨⟨o1, o2, o3, o4, o5, o6⟩, o7, o8, o9, o10⟩ := h.ord
  have k : Kept (fun k => k = p.g) w (w.setCell ⟨p.g, 1, none⟩ (.int .i64 e')) := (Kept.refl (fun k => k = p.g) w).set p.g 1 (fun _ => rfl) _
  exact h.keep (k.mono (fun i _ h => .inr (.inl h))) (heap_set h.wk 1 _) (h.asd.kept k o9 (fun i hi => by omega))
theorem EvS.cells {p : EP} {w : World} {e : Int} {l : List (List UInt8)} (h : EvS p w e l) : w.cell? ⟨p.g, 0, none⟩ = some (.func (.func 13) #[] #[.pointer (some ⟨p.ak, 0, none⟩), .pointer (some ⟨p.vk, 0, none⟩)]) ∧ w.cell? ⟨p.g, 1, none⟩ = some (.int .i64 e) ∧ w.frozen? ⟨p.g, 1, none⟩ = false :=
  ⟨heap_cell h.wk 0, heap_cell h.wk 1, heap_free h.wk 1⟩
def KE (p : EP) (w w' : World) : Prop := Kept (SE p) w w'
theorem KE.refl (p : EP) (w : World) : KE p w w := Kept.refl _ _
theorem KE.tr {p : EP} {a b c : World} (h : KE p a b) (k : KE p b c) : KE p a c := Kept.trans h k (fun _ _ h => h)
theorem KE.of {p : EP} {a b : World} (h : Kept (fun _ => False) a b) : KE p a b := h.mono (fun _ _ h => h.elim)
theorem KE.setE {p : EP} {a b : World} (h : KE p a b) (v : Value) : KE p a (b.setCell ⟨p.g, 1, none⟩ v) := Kept.set h p.g 1 (fun _ => .inr (.inl rfl)) v
def FN (p : EP) : Nat → Prop := fun b => b < p.H ∧ b ≠ p.ak ∧ b ≠ p.g
theorem NAt.ev {p : EP} {w w' : World} {v : Value} {x : Ex} (h : NAt w (FN p) v x) (k : KE p w w') : NAt w' (FN p) v x := h.kept k (fun b hb hs => by unfold FN at hb; unfold SE at hs; omega)
theorem heap_ev {p : EP} {w w' : World} {b : Nat} {x : Obj} (h : w.heap[b]? = some x) (hb : FN p b) (k : KE p w w') : w'.heap[b]? = some x := Kept.heap k h (fun hs => by unfold FN at hb; unfold SE at hs; omega)
theorem get_ev (p : EP) (w : World) (e : Int) (l : List (List UInt8)) (s : List UInt8) (h : EvS p w e l) (hs : s.length ≤ 4000000) (hl : l.length ≤ 4000000) :
    Calls Tryz.prog 13 #[.string (BA s), .pointer (some ⟨p.ak, 0, none⟩), .pointer (some ⟨p.vk, 0, none⟩)] w fun x w' => x = .returned (.string (BA (p.env s))) ∧ EvS p w' e (l ++ [s]) ∧ KE p w w' := by
  obtain ⟨⟨o1, o2, o3, o4, o5, o6⟩, o7, o8, o9, o10⟩ := h.ord
  refine (get_any w p.ak p.vk p.H p.mv p.env s l hs hl h.asd h.vcell h.vlook o7 o6 o4 o10 (fun b hb => ⟨(h.mblk b hb).1, (h.mblk b hb).2.2⟩)).mono ?_
  rintro x w' ⟨rfl, ha, k⟩
  have k2 : Kept (SE p) w w' := k.mono (fun i _ hi => by unfold SE; rcases hi with h | h; exact .inl h; exact .inr (.inr h))
  exact ⟨rfl, h.keep k2 (k.heap h.wk (by rintro (e | e); exact o9 e.symm; omega)) ha, k2⟩
def OfPost (p : EP) (w : World) (l : List (List UInt8)) (a : Va) (x : Ending) (w' : World) : Prop := x = .returned (.int .i64 a.v) ∧ EvS p w' (a.e : Int) (l ++ a.l) ∧ KE p w w'
def OfC (p : EP) (x : Ex) : Prop := ∀ w l v, EvS p w 0 l → NAt w (FN p) v x → l.length + szE x ≤ 3000000 → Calls Tryz.prog 20 #[.pointer (some ⟨p.g, 0, none⟩), v] w (OfPost p w l (ofF p.env x))
def BtC (p : EP) (x : Ex) : Prop := ∀ w l v, EvS p w 0 l → NAt w (FN p) v x → l.length + szE x ≤ 3000000 → Calls Tryz.prog 36 #[.pointer (some ⟨p.g, 0, none⟩), v] w (OfPost p w l (ofF p.env x))
theorem of_num (p : EP) (n : Int) : OfC p (.num n) := by
  intro w l v hE hN _
  cases hN with
  | num b _ h1 h2 =>
    obtain ⟨c0, c1, f1⟩ := hE.cells
    have y0 := heap_cell h1 0; have y1 := heap_cell h1 1; have y2 := heap_cell h1 2
    have HE := Lw.hid hE
    clear hE
    go_enter Tryz.func20, Tryz.ntmps20
    go_wp2_with fail
    go_ret
    exact ⟨rfl, by rw [show l ++ (ofF p.env (.num n)).l = l from List.append_nil l]; exact HE.out, KE.refl _ _⟩
set_option maxHeartbeats 8000000 in
theorem of_name (p : EP) (nm : List UInt8) : OfC p (.name nm) := by
  intro w l v hE hN hsz
  cases hN with
  | name b _ hs0 h1 h2 =>
    obtain ⟨c0, c1, f1⟩ := hE.cells
    have y0 := heap_cell h1 0; have y1 := heap_cell h1 1; have y2 := heap_cell h1 2
    have H1 := Lw.hid h1; have H2 := Lw.hid h2
    have hne : (BA nm == (⟨#[]⟩ : ByteArray)) = false := BA_ne_nil hs0
    have hne2 : (BA nm != (⟨#[]⟩ : ByteArray)) = true := by rw [bne, hne]; rfl
    have hni : nm.isEmpty = false := by cases nm with
      | nil => exact absurd rfl hs0
      | cons c r => rfl
    have hs4 : nm.length ≤ 4000000 := by simp only [szE] at hsz; omega
    have hl4 : l.length ≤ 4000000 := by omega
    have HE := Lw.hid hE
    have HO : Hid (OfPost p w l (ofF p.env (.name nm)) = OfPost p w l ⟨(valueF (p.env nm)).1, (valueF (p.env nm)).2, [nm]⟩) := Lw.hid rfl
    rw [HO.out]
    have HVL := Lw.hid (fun wx => value_any p.B wx (p.env nm))
    obtain ⟨⟨vv, ve⟩, hV⟩ : ∃ V, valueF (p.env nm) = V := ⟨_, rfl⟩
    rw [hV] at HVL ⊢
    have hEL := Lw.hid hE.envl
    obtain ⟨gg, hgg⟩ : ∃ k, p.g = k := ⟨_, rfl⟩
    have HGG := Lw.hid hgg
    rw [hgg] at c0 c1 f1 ⊢
    clear hE h1 h2 hs0 hsz hV hgg
    go_enter Tryz.func20, Tryz.ntmps20
    go_wp2_with fail
    refine wp_region_chain 18 [9, 17] (fun s' w' => KE p w w' ∧ EvS p w' (if s' ≤ 1 then 0 else (ve : Int)) (if s' = 0 then l else l ++ [nm])) (KE p) [rV (.pointer (some ⟨gg, 0, none⟩)), rV (.pointer (some ⟨gg, 0, none⟩)), rV (.pointer (some ⟨gg, 0, none⟩)), rV (.pointer (some ⟨gg, 0, none⟩)), rV (.func (.func 13) #[] #[.pointer (some ⟨p.ak, 0, none⟩), .pointer (some ⟨p.vk, 0, none⟩)]), rV (.pointer (some ⟨b, 0, none⟩)), rV (.pointer (some ⟨b, 0, none⟩)), rV (.pointer (some ⟨b, 1, none⟩)), rV (.string (BA nm)), rV (.string (BA (p.env nm))), rV (.tuple #[.int .i64 vv, .int .i64 (ve : Int)]), rV (.tuple #[.int .i64 vv, .int .i64 (ve : Int)]), rV (.int .i64 vv), rV (.int .i64 (ve : Int)), rV (.int .i64 vv), rV (.pointer (some ⟨gg, 0, none⟩)), rV (.pointer (some ⟨gg, 1, none⟩)), rV undef] (by kernel_rfl) (by kernel_rfl) ?_ ?_ ?_
    case refine_1 => exact ⟨KE.of (Kept.refl _ w).drew, HE.out.same (Kept.refl _ w).drew⟩
    case refine_2 =>
      refine csteps_free (by decide) (fun s a' w' hI hag hf K hK => ?_) ?_
      · have s0 := hag.same 0 (by decide)
        clear hag
        have HI := Lw.hid hI
        clear hI
        go_wp2_with fail
        exact hK _ _ HI.out (KE.refl _ _) rfl
      refine csteps_free (by decide) (fun s a' w' hI hag hf K hK => ?_) ?_
      · have s0 := hag.same 0 (by decide)
        clear hag
        have HI := Lw.hid hI
        clear hI
        go_wp2_with fail
        exact hK _ _ HI.out (KE.refl _ _) rfl
      refine csteps_free (by decide) (fun s a' w' hI hag hf K hK => ?_) ?_
      · obtain ⟨⟨_, h1, rfl⟩, -⟩ : SFacts _ _ a' w' [1] := hf
        clear hag
        have HI := Lw.hid hI
        clear hI
        go_wp2_with fail
        exact hK _ _ HI.out (KE.refl _ _) rfl
      refine csteps_free (by decide) (fun s a' w' hI hag hf K hK => ?_) ?_
      · obtain ⟨⟨_, h2, rfl⟩, -⟩ : SFacts _ _ a' w' [2] := hf
        clear hag
        have HI := Lw.hid hI
        clear hI
        go_wp2_with fail
        exact hK _ _ HI.out (KE.refl _ _) rfl
      refine csteps_free (by decide) (fun s a' w' hI hag hf K hK => ?_) ?_
      · obtain ⟨⟨_, h3, rfl⟩, -⟩ : SFacts _ _ a' w' [3] := hf
        clear hag
        have HI := Lw.hid hI
        have cc := hI.2.cells.1; rw [HGG.out] at cc
        clear hI
        go_wp2_with fail
        exact hK _ _ HI.out (KE.refl _ _) rfl
      refine csteps_free (by decide) (fun s a' w' hI hag hf K hK => ?_) ?_
      · have s1 := hag.same 1 (by decide)
        clear hag
        have HI := Lw.hid hI
        clear hI
        go_wp2_with fail
        exact hK _ _ HI.out (KE.refl _ _) rfl
      refine csteps_free (by decide) (fun s a' w' hI hag hf K hK => ?_) ?_
      · obtain ⟨⟨_, h5, rfl⟩, -⟩ : SFacts _ _ a' w' [5] := hf
        clear hag
        have HI := Lw.hid hI
        clear hI
        go_wp2_with fail
        exact hK _ _ HI.out (KE.refl _ _) rfl
      refine csteps_free (by decide) (fun s a' w' hI hag hf K hK => ?_) ?_
      · obtain ⟨⟨_, h6, rfl⟩, -⟩ : SFacts _ _ a' w' [6] := hf
        clear hag
        have HI := Lw.hid hI
        clear hI
        go_wp2_with fail
        exact hK _ _ HI.out (KE.refl _ _) rfl
      refine csteps_free (by decide) (fun s a' w' hI hag hf K hK => ?_) ?_
      · obtain ⟨⟨_, h7, rfl⟩, -⟩ : SFacts _ _ a' w' [7] := hf
        clear hag
        have HI := Lw.hid hI
        have cc := heap_cell (heap_ev H1.out H2.out hI.1) 1
        clear hI
        go_wp2_with fail
        exact hK _ _ HI.out (KE.refl _ _) rfl
      refine csteps_hit 0 rfl (fun a' w' hI hag hf K hK => ?_) ?_
      · obtain ⟨⟨_, h4, rfl⟩, ⟨_, h8, rfl⟩, -⟩ : SFacts _ _ a' w' [4, 8] := hf
        clear hag
        have HI : Hid (KE p w w' ∧ EvS p w' 0 l) := Lw.hid hI
        clear hI
        go_wp2_with fail
        refine (get_ev p w' 0 l nm HI.out.2 hs4 hl4).mono ?_
        rintro x w9 ⟨rfl, he9, k9⟩
        have K9 := Lw.hid k9; have HE9 := Lw.hid he9
        clear k9 he9
        go_wp2_with fail
        exact hK _ _ ⟨HI.out.1.tr K9.out, HE9.out⟩ K9.out rfl
      refine csteps_free (by decide) (fun s a' w' hI hag hf K hK => ?_) ?_
      · obtain ⟨⟨_, h9, rfl⟩, -⟩ : SFacts _ _ a' w' [9] := hf
        clear hag
        have HI := Lw.hid hI
        clear hI
        go_wp2_with fail
        refine (HVL.out w' HI.out.2.ae (hEL.out nm)).mono ?_
        rintro x w9 ⟨rfl, k9⟩
        have K9 := Lw.hid k9
        clear k9
        go_wp2_with fail
        exact hK _ _ ⟨HI.out.1.tr (KE.of K9.out), HI.out.2.same K9.out⟩ (KE.of K9.out) rfl
      refine csteps_free (by decide) (fun s a' w' hI hag hf K hK => ?_) ?_
      · obtain ⟨⟨_, h10, rfl⟩, -⟩ : SFacts _ _ a' w' [10] := hf
        clear hag
        have HI := Lw.hid hI
        clear hI
        go_wp2_with fail
        exact hK _ _ HI.out (KE.refl _ _) rfl
      refine csteps_free (by decide) (fun s a' w' hI hag hf K hK => ?_) ?_
      · obtain ⟨⟨_, h11, rfl⟩, -⟩ : SFacts _ _ a' w' [11] := hf
        clear hag
        have HI := Lw.hid hI
        clear hI
        go_wp2_with fail
        exact hK _ _ HI.out (KE.refl _ _) rfl
      refine csteps_free (by decide) (fun s a' w' hI hag hf K hK => ?_) ?_
      · obtain ⟨⟨_, h11, rfl⟩, -⟩ : SFacts _ _ a' w' [11] := hf
        clear hag
        have HI := Lw.hid hI
        clear hI
        go_wp2_with fail
        exact hK _ _ HI.out (KE.refl _ _) rfl
      refine csteps_free (by decide) (fun s a' w' hI hag hf K hK => ?_) ?_
      · obtain ⟨⟨_, h12, rfl⟩, -⟩ : SFacts _ _ a' w' [12, 10, 1, 2, 3, 4, 5, 6, 7, 8, 9, 11] := hf
        clear hag
        have HI := Lw.hid hI
        clear hI
        go_wp2_with fail
        exact hK _ _ HI.out (KE.refl _ _) rfl
      refine csteps_free (by decide) (fun s a' w' hI hag hf K hK => ?_) ?_
      · obtain ⟨⟨_, h0, rfl⟩, -⟩ : SFacts _ _ a' w' [0, 1, 2, 3, 4, 5, 6, 7, 8, 9, 10, 11, 12, 13, 14] := hf
        clear hag
        have HI := Lw.hid hI
        clear hI
        go_wp2_with fail
        exact hK _ _ HI.out (KE.refl _ _) rfl
      refine csteps_free (by decide) (fun s a' w' hI hag hf K hK => ?_) ?_
      · obtain ⟨⟨_, h15, rfl⟩, -⟩ : SFacts _ _ a' w' [15, 0, 1, 2, 3, 4, 5, 6, 7, 8, 9, 10, 11, 12, 13, 14] := hf
        clear hag
        have HI := Lw.hid hI
        clear hI
        go_wp2_with fail
        exact hK _ _ HI.out (KE.refl _ _) rfl
      refine csteps_hit 1 rfl (fun a' w' hI hag hf K hK => ?_) ?_
      · obtain ⟨⟨_, h16, rfl⟩, ⟨_, h13, rfl⟩, -⟩ : SFacts _ _ a' w' [16, 13, 14, 0, 1, 2, 3, 4, 5, 6, 7, 8, 9, 10, 11, 12] := hf
        clear hag
        have HI : Hid (KE p w w' ∧ EvS p w' 0 (l ++ [nm])) := Lw.hid hI
        have cc := hI.2.cells.2; rw [HGG.out] at cc
        obtain ⟨cc1, cf1⟩ := cc
        have HST := Lw.hid (HI.out.2.setE (ve : Int)); have HKS := Lw.hid (HI.out.1.setE (.int .i64 (ve : Int)))
        have HKT := Lw.hid ((KE.refl p w').setE (.int .i64 (ve : Int)))
        rw [HGG.out] at HST HKS HKT
        clear hI
        go_wp2_with fail
        exact hK _ _ ⟨HKS.out, HST.out⟩ HKT.out rfl
      exact trivial
    case refine_3 =>
      intro vs w9 hI hvs
      have q0 : vs 0 = (.pointer (some ⟨gg, 0, none⟩)) := hvs 0 _ _ rfl rfl
      have q1 : vs 1 = (.pointer (some ⟨gg, 0, none⟩)) := hvs 1 _ _ rfl rfl
      have q2 : vs 2 = (.pointer (some ⟨gg, 0, none⟩)) := hvs 2 _ _ rfl rfl
      have q3 : vs 3 = (.pointer (some ⟨gg, 0, none⟩)) := hvs 3 _ _ rfl rfl
      have q4 : vs 4 = (.func (.func 13) #[] #[.pointer (some ⟨p.ak, 0, none⟩), .pointer (some ⟨p.vk, 0, none⟩)]) := hvs 4 _ _ rfl rfl
      have q5 : vs 5 = (.pointer (some ⟨b, 0, none⟩)) := hvs 5 _ _ rfl rfl
      have q6 : vs 6 = (.pointer (some ⟨b, 0, none⟩)) := hvs 6 _ _ rfl rfl
      have q7 : vs 7 = (.pointer (some ⟨b, 1, none⟩)) := hvs 7 _ _ rfl rfl
      have q8 : vs 8 = (.string (BA nm)) := hvs 8 _ _ rfl rfl
      have q9 : vs 9 = (.string (BA (p.env nm))) := hvs 9 _ _ rfl rfl
      have q10 : vs 10 = (.tuple #[.int .i64 vv, .int .i64 (ve : Int)]) := hvs 10 _ _ rfl rfl
      have q11 : vs 11 = (.tuple #[.int .i64 vv, .int .i64 (ve : Int)]) := hvs 11 _ _ rfl rfl
      have q12 : vs 12 = (.int .i64 vv) := hvs 12 _ _ rfl rfl
      have q13 : vs 13 = (.int .i64 (ve : Int)) := hvs 13 _ _ rfl rfl
      have q14 : vs 14 = (.int .i64 vv) := hvs 14 _ _ rfl rfl
      have q15 : vs 15 = (.pointer (some ⟨gg, 0, none⟩)) := hvs 15 _ _ rfl rfl
      have q16 : vs 16 = (.pointer (some ⟨gg, 1, none⟩)) := hvs 16 _ _ rfl rfl
      clear hvs
      simp only [List.take_succ_cons, List.take_zero, List.drop_succ_cons, List.drop_zero, putAll, Act.put, List.setIfInBounds_toArray, List.set_cons_zero, List.set_cons_succ, Nat.reduceAdd, q0, q1, q2, q3, q4, q5, q6, q7, q8, q9, q10, q11, q12, q13, q14, q15, q16]
      clear q0 q1 q2 q3 q4 q5 q6 q7 q8 q9 q10 q11 q12 q13 q14 q15 q16
      have HI9 : Hid (KE p w w9 ∧ EvS p w9 (ve : Int) (l ++ [nm])) := Lw.hid hI
      clear hI
      simp only [wpList]
      go_wp2_with fail
      go_ret
      exact ⟨rfl, HI9.out.2, HI9.out.1⟩
set_option maxHeartbeats 8000000 in
theorem of_un (p : EP) (sg : List UInt8) (a : Ex) (ha : OfC p a) : OfC p (.un sg a) := by
  intro w l v hE hN hsz
  cases hN with
  | un b k _ q _ hg h1 h2 h3 h4 hq =>
    obtain ⟨c0, c1, f1⟩ := hE.cells
    have y0 := heap_cell h1 0; have y1 := heap_cell h1 1; have y2 := heap_cell h1 2; have y3 := heap_cell h1 3
    have H1 := Lw.hid h1; have H2 := Lw.hid h2; have H3 := Lw.hid h3; have H4 := Lw.hid h4; have HQ := Lw.hid hq
    obtain ⟨bq, rfl, _⟩ := hq.ptr
    have hsn : sg ≠ [] := by rintro rfl; exact absurd hg (by decide)
    have hne : (BA sg == (⟨#[]⟩ : ByteArray)) = false := BA_ne_nil hsn
    have hni : sg.isEmpty = false := by cases sg with
      | nil => exact absurd rfl hsn
      | cons c r => rfl
    have HE := Lw.hid hE
    have hsz2 : l.length + szE a ≤ 3000000 := hsz
    obtain ⟨A, hA⟩ : ∃ A, ofF p.env a = A := ⟨_, rfl⟩
    have HO : Hid (OfPost p w l (ofF p.env (.un sg a)) = OfPost p w l ⟨aheadF sg A.v, A.e, A.l⟩) := Lw.hid (by rw [← hA]; rfl)
    rw [HO.out]
    have HC := Lw.hid (fun wx (hx : EvS p wx 0 l) (hn : NAt wx (FN p) (.pointer (some ⟨bq, 0, none⟩)) a) => ha wx l _ hx hn hsz2)
    rw [hA] at HC
    have HAH := Lw.hid (fun wx => ahead_any wx (.pointer (some ⟨p.g, 0, none⟩)) sg A.v hg)
    obtain ⟨gg, hgg⟩ : ∃ k, p.g = k := ⟨_, rfl⟩
    have HGG := Lw.hid hgg
    rw [hgg] at c0 c1 f1 HC HAH ⊢
    clear hE h1 h2 h3 h4 hq hsn hsz hsz2 hA hgg ha hg
    go_enter Tryz.func20, Tryz.ntmps20
    go_wp2_with fail
    refine wp_region_chain 15 [12] (fun s' w' => KE p w w' ∧ EvS p w' (if s' = 0 then 0 else (A.e : Int)) (if s' = 0 then l else l ++ A.l)) (KE p) [rV (.pointer (some ⟨gg, 0, none⟩)), rV (.pointer (some ⟨b, 0, none⟩)), rV (.pointer (some ⟨b, 0, none⟩)), rV (.pointer (some ⟨b, 0, none⟩)), rV (.string (BA sg)), rV (.pointer (some ⟨gg, 0, none⟩)), rV (.pointer (some ⟨b, 0, none⟩)), rV (.pointer (some ⟨b, 0, none⟩)), rV (.pointer (some ⟨b, 3, none⟩)), rV (.slice (some ⟨k, 0, none⟩) 1 1), rV (.pointer (some ⟨k, 0, none⟩)), rV (.pointer (some ⟨bq, 0, none⟩)), rV (.int .i64 A.v), rV (.int .i64 (aheadF sg A.v)), rV (.int .i64 (aheadF sg A.v))] (by kernel_rfl) (by kernel_rfl) ?_ ?_ ?_
    case refine_1 => exact ⟨KE.of (Kept.refl _ w).drew, HE.out.same (Kept.refl _ w).drew⟩
    case refine_2 =>
      refine csteps_free (by decide) (fun s a' w' hI hag hf K hK => ?_) ?_
      · have s0 := hag.same 0 (by decide)
        clear hag
        have HI := Lw.hid hI
        clear hI
        go_wp2_with fail
        exact hK _ _ HI.out (KE.refl _ _) rfl
      refine csteps_free (by decide) (fun s a' w' hI hag hf K hK => ?_) ?_
      · have s1 := hag.same 1 (by decide)
        clear hag
        have HI := Lw.hid hI
        clear hI
        go_wp2_with fail
        exact hK _ _ HI.out (KE.refl _ _) rfl
      refine csteps_free (by decide) (fun s a' w' hI hag hf K hK => ?_) ?_
      · obtain ⟨⟨_, h1, rfl⟩, -⟩ : SFacts _ _ a' w' [1] := hf
        clear hag
        have HI := Lw.hid hI
        clear hI
        go_wp2_with fail
        exact hK _ _ HI.out (KE.refl _ _) rfl
      refine csteps_free (by decide) (fun s a' w' hI hag hf K hK => ?_) ?_
      · obtain ⟨⟨_, h2, rfl⟩, -⟩ : SFacts _ _ a' w' [2] := hf
        clear hag
        have HI := Lw.hid hI
        clear hI
        go_wp2_with fail
        exact hK _ _ HI.out (KE.refl _ _) rfl
      refine csteps_free (by decide) (fun s a' w' hI hag hf K hK => ?_) ?_
      · obtain ⟨⟨_, h3, rfl⟩, -⟩ : SFacts _ _ a' w' [3] := hf
        clear hag
        have HI := Lw.hid hI
        have cc := heap_cell (heap_ev H1.out H3.out hI.1) 0
        clear hI
        go_wp2_with fail
        exact hK _ _ HI.out (KE.refl _ _) rfl
      refine csteps_free (by decide) (fun s a' w' hI hag hf K hK => ?_) ?_
      · have s0 := hag.same 0 (by decide)
        clear hag
        have HI := Lw.hid hI
        clear hI
        go_wp2_with fail
        exact hK _ _ HI.out (KE.refl _ _) rfl
      refine csteps_free (by decide) (fun s a' w' hI hag hf K hK => ?_) ?_
      · have s1 := hag.same 1 (by decide)
        clear hag
        have HI := Lw.hid hI
        clear hI
        go_wp2_with fail
        exact hK _ _ HI.out (KE.refl _ _) rfl
      refine csteps_free (by decide) (fun s a' w' hI hag hf K hK => ?_) ?_
      · obtain ⟨⟨_, h6, rfl⟩, -⟩ : SFacts _ _ a' w' [6] := hf
        clear hag
        have HI := Lw.hid hI
        clear hI
        go_wp2_with fail
        exact hK _ _ HI.out (KE.refl _ _) rfl
      refine csteps_free (by decide) (fun s a' w' hI hag hf K hK => ?_) ?_
      · obtain ⟨⟨_, h7, rfl⟩, -⟩ : SFacts _ _ a' w' [7] := hf
        clear hag
        have HI := Lw.hid hI
        clear hI
        go_wp2_with fail
        exact hK _ _ HI.out (KE.refl _ _) rfl
      refine csteps_free (by decide) (fun s a' w' hI hag hf K hK => ?_) ?_
      · obtain ⟨⟨_, h8, rfl⟩, -⟩ : SFacts _ _ a' w' [8] := hf
        clear hag
        have HI := Lw.hid hI
        have cc := heap_cell (heap_ev H1.out H3.out hI.1) 3
        clear hI
        go_wp2_with fail
        exact hK _ _ HI.out (KE.refl _ _) rfl
      refine csteps_free (by decide) (fun s a' w' hI hag hf K hK => ?_) ?_
      · obtain ⟨⟨_, h9, rfl⟩, -⟩ : SFacts _ _ a' w' [9] := hf
        clear hag
        have HI := Lw.hid hI
        clear hI
        go_wp2_with fail
        exact hK _ _ HI.out (KE.refl _ _) rfl
      refine csteps_free (by decide) (fun s a' w' hI hag hf K hK => ?_) ?_
      · obtain ⟨⟨_, h10, rfl⟩, -⟩ : SFacts _ _ a' w' [10] := hf
        clear hag
        have HI := Lw.hid hI
        have cc := heap_cell (heap_ev H2.out H4.out hI.1) 0
        clear hI
        go_wp2_with fail
        exact hK _ _ HI.out (KE.refl _ _) rfl
      refine csteps_hit 0 rfl (fun a' w' hI hag hf K hK => ?_) ?_
      · obtain ⟨⟨_, h5, rfl⟩, ⟨_, h11, rfl⟩, -⟩ : SFacts _ _ a' w' [5, 11] := hf
        clear hag
        have HI : Hid (KE p w w' ∧ EvS p w' 0 l) := Lw.hid hI
        clear hI
        go_wp2_with fail
        refine (HC.out w' HI.out.2 (HQ.out.ev HI.out.1)).mono ?_
        rintro x w9 ⟨rfl, he9, k9⟩
        have K9 := Lw.hid k9; have HE9 := Lw.hid he9
        clear k9 he9
        go_wp2_with fail
        exact hK _ _ ⟨HI.out.1.tr K9.out, HE9.out⟩ K9.out rfl
      refine csteps_free (by decide) (fun s a' w' hI hag hf K hK => ?_) ?_
      · obtain ⟨⟨_, h0, rfl⟩, ⟨_, h4, rfl⟩, ⟨_, h12, rfl⟩, -⟩ : SFacts _ _ a' w' [0, 4, 12] := hf
        clear hag
        have HI := Lw.hid hI
        clear hI
        go_wp2_with fail
        refine (HAH.out w').mono ?_
        rintro x w9 ⟨rfl, rfl⟩
        go_wp2_with fail
        exact hK _ _ HI.out (KE.refl _ _) rfl
      refine csteps_free (by decide) (fun s a' w' hI hag hf K hK => ?_) ?_
      · obtain ⟨⟨_, h13, rfl⟩, -⟩ : SFacts _ _ a' w' [13, 0, 1, 2, 3, 4, 5, 6, 7, 8, 9, 10, 11, 12] := hf
        clear hag
        have HI := Lw.hid hI
        clear hI
        go_wp2_with fail
        exact hK _ _ HI.out (KE.refl _ _) rfl
      exact trivial
    case refine_3 =>
      intro vs w9 hI hvs
      have q0 : vs 0 = (.pointer (some ⟨gg, 0, none⟩)) := hvs 0 _ _ rfl rfl
      have q1 : vs 1 = (.pointer (some ⟨b, 0, none⟩)) := hvs 1 _ _ rfl rfl
      have q2 : vs 2 = (.pointer (some ⟨b, 0, none⟩)) := hvs 2 _ _ rfl rfl
      have q3 : vs 3 = (.pointer (some ⟨b, 0, none⟩)) := hvs 3 _ _ rfl rfl
      have q4 : vs 4 = (.string (BA sg)) := hvs 4 _ _ rfl rfl
      have q5 : vs 5 = (.pointer (some ⟨gg, 0, none⟩)) := hvs 5 _ _ rfl rfl
      have q6 : vs 6 = (.pointer (some ⟨b, 0, none⟩)) := hvs 6 _ _ rfl rfl
      have q7 : vs 7 = (.pointer (some ⟨b, 0, none⟩)) := hvs 7 _ _ rfl rfl
      have q8 : vs 8 = (.pointer (some ⟨b, 3, none⟩)) := hvs 8 _ _ rfl rfl
      have q9 : vs 9 = (.slice (some ⟨k, 0, none⟩) 1 1) := hvs 9 _ _ rfl rfl
      have q10 : vs 10 = (.pointer (some ⟨k, 0, none⟩)) := hvs 10 _ _ rfl rfl
      have q11 : vs 11 = (.pointer (some ⟨bq, 0, none⟩)) := hvs 11 _ _ rfl rfl
      have q12 : vs 12 = (.int .i64 A.v) := hvs 12 _ _ rfl rfl
      have q13 : vs 13 = (.int .i64 (aheadF sg A.v)) := hvs 13 _ _ rfl rfl
      have q14 : vs 14 = (.int .i64 (aheadF sg A.v)) := hvs 14 _ _ rfl rfl
      clear hvs
      simp only [List.take_succ_cons, List.take_zero, List.drop_succ_cons, List.drop_zero, putAll, Act.put, List.setIfInBounds_toArray, List.set_cons_zero, List.set_cons_succ, Nat.reduceAdd, q0, q1, q2, q3, q4, q5, q6, q7, q8, q9, q10, q11, q12, q13, q14]
      clear q0 q1 q2 q3 q4 q5 q6 q7 q8 q9 q10 q11 q12 q13 q14
      have HI9 : Hid (KE p w w9 ∧ EvS p w9 (A.e : Int) (l ++ A.l)) := Lw.hid hI
      clear hI
      simp only [wpList]
      go_wp2_with fail
      go_ret
      exact ⟨rfl, HI9.out.2, HI9.out.1⟩
set_option maxHeartbeats 8000000 in
theorem of_bin (p : EP) (sg : List UInt8) (x y : Ex) (hb : BtC p (.bin sg x y)) : OfC p (.bin sg x y) := by
  intro w l v hE hN hsz
  have HC := Lw.hid (hb w l v hE hN hsz)
  obtain ⟨bv, rfl, _⟩ := hN.ptr
  obtain ⟨c0, c1, f1⟩ := hE.cells
  cases hN with
  | bin b k _ q r _ _ hg h1 h2 h3 h4 hq hr =>
    have y0 := heap_cell h1 0; have y1 := heap_cell h1 1; have y2 := heap_cell h1 2; have y3 := heap_cell h1 3
    have hsn : sg ≠ [] := by
      rintro rfl
      rcases rows_two hg with h | h | h
      · cases h
      · cases h
      · exact absurd h.1 (by decide)
    have hne : (BA sg == (⟨#[]⟩ : ByteArray)) = false := BA_ne_nil hsn
    have hni : sg.isEmpty = false := by cases sg with
      | nil => exact absurd rfl hsn
      | cons c r => rfl
    obtain ⟨A, hA⟩ : ∃ A, ofF p.env (.bin sg x y) = A := ⟨_, rfl⟩
    rw [hA] at HC ⊢
    clear hE h1 hA hb hsz
    go_enter Tryz.func20, Tryz.ntmps20
    go_wp2_with fail
    refine HC.out.mono ?_
    rintro e w1 ⟨rfl, he1, k1⟩
    have HE1 := Lw.hid he1; have K1 := Lw.hid k1
    clear he1 k1
    go_wp2_with fail
    go_ret
    exact ⟨rfl, HE1.out, K1.out⟩
set_option maxHeartbeats 8000000 in
theorem of_cond (p : EP) (x y z : Ex) (hb : BtC p (.cond x y z)) : OfC p (.cond x y z) := by
  intro w l v hE hN hsz
  have HC := Lw.hid (hb w l v hE hN hsz)
  obtain ⟨bv, rfl, _⟩ := hN.ptr
  obtain ⟨c0, c1, f1⟩ := hE.cells
  cases hN with
  | cond b k q r t _ _ _ h1 h2 h3 h4 hq hr ht =>
    have y0 := heap_cell h1 0; have y1 := heap_cell h1 1; have y2 := heap_cell h1 2; have y3 := heap_cell h1 3
    obtain ⟨A, hA⟩ : ∃ A, ofF p.env (.cond x y z) = A := ⟨_, rfl⟩
    rw [hA] at HC ⊢
    clear hE h1 hA hb hsz
    go_enter Tryz.func20, Tryz.ntmps20
    go_wp2_with fail
    refine HC.out.mono ?_
    rintro e w1 ⟨rfl, he1, k1⟩
    have HE1 := Lw.hid he1; have K1 := Lw.hid k1
    clear he1 k1
    go_wp2_with fail
    go_ret
    exact ⟨rfl, HE1.out, K1.out⟩
end Go.Proofs.YtoedopgjonhemaaGreatDoor
