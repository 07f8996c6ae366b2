/- arith's reader: fail, sign, takes, number. -/
import Derived.Test.YtoedopgjonhemaaGreatDoorArithN
import Derived.Test.YtoedopgjonhemaaGreatDoorSoft
import Derived.Shelf.Strings.SlTrimAscii
namespace Go.Proofs.YtoedopgjonhemaaGreatDoor
open Go Go.RowKit Go.Lw
set_option maxRecDepth 100000
set_option linter.unusedVariables false
set_option linter.unusedSimpArgs false
attribute [local go_sem] BA_toList
/-- The signs, laid. -/
def signsC : Array Value := #[.string ⟨#[124, 124]⟩, .string ⟨#[38, 38]⟩, .string ⟨#[61, 61]⟩, .string ⟨#[33, 61]⟩, .string ⟨#[60, 61]⟩, .string ⟨#[62, 61]⟩, .string ⟨#[60, 60]⟩, .string ⟨#[62, 62]⟩, .string ⟨#[63]⟩, .string ⟨#[58]⟩, .string ⟨#[124]⟩, .string ⟨#[94]⟩, .string ⟨#[38]⟩, .string ⟨#[60]⟩, .string ⟨#[62]⟩, .string ⟨#[43]⟩, .string ⟨#[45]⟩, .string ⟨#[42]⟩, .string ⟨#[47]⟩, .string ⟨#[37]⟩, .string ⟨#[33]⟩, .string ⟨#[126]⟩, .string ⟨#[40]⟩, .string ⟨#[41]⟩]
def sgAt (k : Nat) : List UInt8 := signsL.getD k []
theorem sg_index (k : Nat) (hk : k < 24) (w : World) : (Instr.index 100 (.agg signsC) (.int .i64 (k : Int))).run Tryz.prog w = .ok (.string (BA (sgAt k))) w := by
  have h : k = 0 ∨ k = 1 ∨ k = 2 ∨ k = 3 ∨ k = 4 ∨ k = 5 ∨ k = 6 ∨ k = 7 ∨ k = 8 ∨ k = 9 ∨ k = 10 ∨ k = 11 ∨ k = 12 ∨ k = 13 ∨ k = 14 ∨ k = 15 ∨ k = 16 ∨ k = 17 ∨ k = 18 ∨ k = 19 ∨ k = 20 ∨ k = 21 ∨ k = 22 ∨ k = 23 := by omega
  rcases h with rfl | rfl | rfl | rfl | rfl | rfl | rfl | rfl | rfl | rfl | rfl | rfl | rfl | rfl | rfl | rfl | rfl | rfl | rfl | rfl | rfl | rfl | rfl | rfl <;> rfl
theorem sgAt_len (k : Nat) (hk : k < 24) : (sgAt k).length ≤ 2 ∧ 1 ≤ (sgAt k).length := by
  revert k; decide
theorem sg_miss (r : List UInt8) : ∀ k, k ≤ 24 → (∀ j, j < k → (r.take (sgAt j).length == sgAt j) = false) → signF r = ((signsL.drop k).find? (fun g => r.take g.length == g)).getD [] := by
  intro k hk h
  induction k with
  | zero => rfl
  | succ k ih =>
    rw [ih (by omega) (fun j hj => h j (by omega))]
    have hl : k < signsL.length := by show k < 24; omega
    rw [List.drop_eq_getElem_cons hl, List.find?_cons]
    have e : signsL[k] = sgAt k := by
      unfold sgAt
      rw [List.getD_eq_getElem?_getD, List.getElem?_eq_getElem hl]; rfl
    rw [e, h k (by omega)]
theorem sg_hit (r : List UInt8) (k : Nat) (hk : k < 24) (h : ∀ j, j < k → (r.take (sgAt j).length == sgAt j) = false) (h2 : (r.take (sgAt k).length == sgAt k) = true) : signF r = sgAt k := by
  rw [sg_miss r k (by omega) h]
  have hl : k < signsL.length := hk
  rw [List.drop_eq_getElem_cons hl, List.find?_cons]
  have e : signsL[k] = sgAt k := by
    unfold sgAt
    rw [List.getD_eq_getElem?_getD, List.getElem?_eq_getElem hl]; rfl
  rw [e, h2]; rfl
/-- What the walks ask of the package variables: all that they touch lies below B. -/
structure AEnv (B : Nat) (w : World) : Prop where
  signs : ∃ (t : TypeId) (fr : Nat × Nat), w.heap[0]? = some (.cells signsC t fr)
  rows : ∀ k, k < 10 → ∃ (b off c : Nat), w.cell? ⟨2, k, none⟩ = some (.slice (some ⟨b, off, none⟩) (rowsL.getD k []).length c) ∧ b < B ∧ ∀ j, j < (rowsL.getD k []).length → w.cell? ⟨b, off + j, none⟩ = some (.string (BA ((rowsL.getD k []).getD j [])))
  range : ∃ te pe, w.cell? ⟨4, 0, none⟩ = some (.iface te pe)
  max : ∃ m, w.cell? ⟨7, 0, none⟩ = some (.int .i64 m)
  glob : 0 < B ∧ 2 < B ∧ 4 < B ∧ 7 < B
  lt : B ≤ w.heap.size
theorem AEnv.kept {B : Nat} {S : Nat → Prop} {w w' : World} (h : AEnv B w) (k : Kept S w w') (hS : ∀ i, S i → B ≤ i) : AEnv B w' := by
  have hn : ∀ i, i < B → ¬ S i := fun i hi hs => by have := hS i hs; omega
  refine ⟨?_, fun j hj => ?_, ?_, ?_, h.glob, Nat.le_trans h.lt k.size⟩
  · obtain ⟨t, fr, e⟩ := h.signs
    exact ⟨t, fr, k.heap e (hn _ h.glob.1)⟩
  · obtain ⟨b, off, c, h1, h2, h3⟩ := h.rows j hj
    exact ⟨b, off, c, k.cell h1 (hn _ h.glob.2.1), h2, fun i hi => k.cell (h3 i hi) (hn _ h2)⟩
  · obtain ⟨te, pe, e⟩ := h.range
    exact ⟨te, pe, k.cell e (hn _ h.glob.2.2.1)⟩
  · obtain ⟨m, e⟩ := h.max
    exact ⟨m, k.cell e (hn _ h.glob.2.2.2)⟩
theorem trim2_any (w : World) (s : List UInt8) : Calls Tryz.prog 47 #[.string (BA s), .string ⟨#[32, 9]⟩] w fun x w' => x = .returned (.string (BA (trimA s))) ∧ Kept (fun _ => False) w w' := by
  refine (Go.Proofs.Any.strings_TrimLeft_laid Tryz.lays161 (by kernel_rfl) (BA s) (BA [32, 9]) w (by rw [BA_size]; decide) (Go.Proofs.ascii_of_all (by decide))).mono ?_
  rintro x w' ⟨rfl, hb⟩
  refine ⟨?_, (Kept.of_below hb).mono (fun k hk h => by omega)⟩
  have e : Lib.trimLeftS (BA s).data.toList (BA [32, 9]).data.toList = trimA s := by
    rw [BA_list, BA_list]
    unfold Lib.trimLeftS trimA
    congr 1
    funext c
    simp only [blankA, List.contains_cons, List.contains_nil, Bool.or_false]
  rw [e]; rfl
def digsL : List UInt8 := [48, 49, 50, 51, 52, 53, 54, 55, 56, 57]
theorem digs_contains (c : UInt8) : digsL.contains c = digitB c := by
  rw [Bool.eq_iff_iff, List.contains_iff_mem]
  unfold digitB
  simp only [digsL, List.mem_cons, List.not_mem_nil, or_false, Bool.and_eq_true, decide_eq_true_eq]
  constructor
  · rintro (rfl | rfl | rfl | rfl | rfl | rfl | rfl | rfl | rfl | rfl) <;> decide
  · rintro ⟨h1, h2⟩
    have : c.toNat = 48 ∨ c.toNat = 49 ∨ c.toNat = 50 ∨ c.toNat = 51 ∨ c.toNat = 52 ∨ c.toNat = 53 ∨ c.toNat = 54 ∨ c.toNat = 55 ∨ c.toNat = 56 ∨ c.toNat = 57 := by omega
    have key : ∀ d : UInt8, c.toNat = d.toNat → c = d := fun d h => UInt8.toNat_inj.1 h
    rcases this with h | h | h | h | h | h | h | h | h | h
    · exact .inl (key 48 h)
    · exact .inr (.inl (key 49 h))
    · exact .inr (.inr (.inl (key 50 h)))
    · exact .inr (.inr (.inr (.inl (key 51 h))))
    · exact .inr (.inr (.inr (.inr (.inl (key 52 h)))))
    · exact .inr (.inr (.inr (.inr (.inr (.inl (key 53 h))))))
    · exact .inr (.inr (.inr (.inr (.inr (.inr (.inl (key 54 h)))))))
    · exact .inr (.inr (.inr (.inr (.inr (.inr (.inr (.inl (key 55 h))))))))
    · exact .inr (.inr (.inr (.inr (.inr (.inr (.inr (.inr (.inl (key 56 h)))))))))
    · exact .inr (.inr (.inr (.inr (.inr (.inr (.inr (.inr (.inr (key 57 h)))))))))
theorem trimD_any (w : World) (s : List UInt8) : Calls Tryz.prog 47 #[.string (BA s), .string ⟨#[48, 49, 50, 51, 52, 53, 54, 55, 56, 57]⟩] w fun x w' => x = .returned (.string (BA (s.dropWhile digitB))) ∧ Kept (fun _ => False) w w' := by
  refine (Go.Proofs.Any.strings_TrimLeft_laid Tryz.lays161 (by kernel_rfl) (BA s) (BA digsL) w (by rw [BA_size]; decide) (Go.Proofs.ascii_of_all (by decide))).mono ?_
  rintro x w' ⟨rfl, hb⟩
  refine ⟨?_, (Kept.of_below hb).mono (fun k hk h => by omega)⟩
  have e : Lib.trimLeftS (BA s).data.toList (BA digsL).data.toList = s.dropWhile digitB := by
    rw [BA_list, BA_list]
    unfold Lib.trimLeftS
    congr 1
    funext c
    exact digs_contains c
  rw [e]; rfl
/-- The reader in memory. -/
def AR (w : World) (g : Nat) (s : List UInt8) (d e : Int) : Prop := w.heap[g]? = some (.cells #[.string (BA s), .int .i64 d, .int .i64 e] 83 (0, 0))
theorem AR.cells {w : World} {g : Nat} {s : List UInt8} {d e : Int} (h : AR w g s d e) : (w.cell? ⟨g, 0, none⟩ = some (.string (BA s)) ∧ w.cell? ⟨g, 1, none⟩ = some (.int .i64 d) ∧ w.cell? ⟨g, 2, none⟩ = some (.int .i64 e)) ∧ w.frozen? ⟨g, 0, none⟩ = false ∧ w.frozen? ⟨g, 1, none⟩ = false ∧ w.frozen? ⟨g, 2, none⟩ = false :=
  ⟨⟨heap_cell h 0, heap_cell h 1, heap_cell h 2⟩, heap_free h 0, heap_free h 1, heap_free h 2⟩
theorem AR.setS {w : World} {g : Nat} {s : List UInt8} {d e : Int} (h : AR w g s d e) (t : List UInt8) : AR (w.setCell ⟨g, 0, none⟩ (.string (BA t))) g t d e := heap_set h 0 _
theorem AR.setD {w : World} {g : Nat} {s : List UInt8} {d e : Int} (h : AR w g s d e) (t : Int) : AR (w.setCell ⟨g, 1, none⟩ (.int .i64 t)) g s t e := heap_set h 1 _
theorem AR.setE {w : World} {g : Nat} {s : List UInt8} {d e : Int} (h : AR w g s d e) (t : Int) : AR (w.setCell ⟨g, 2, none⟩ (.int .i64 t)) g s d t := heap_set h 2 _
theorem AR.kept {S : Nat → Prop} {w w' : World} {g : Nat} {s : List UInt8} {d e : Int} (h : AR w g s d e) (k : Kept S w w') (hS : ¬ S g) : AR w' g s d e := k.heap h hS
/-- Only the reader's block has turned. -/
abbrev KG (g : Nat) (w w' : World) : Prop := Kept (fun k => k = g) w w'
theorem KG.of {g : Nat} {w w' : World} (h : Kept (fun _ => False) w w') : KG g w w' := h.mono (fun _ _ h => h.elim)
theorem KG.refl (g : Nat) (w : World) : KG g w w := Kept.refl _ _
theorem KG.set {g : Nat} {w w' : World} (h : KG g w w') (i : Nat) (u : Value) : KG g w (w'.setCell ⟨g, i, none⟩ u) := Kept.set h g i (fun _ => rfl) u
theorem KG.tr {g : Nat} {a b c : World} (h : KG g a b) (k : KG g b c) : KG g a c := h.trans k (fun _ _ h => h)
/-- The first error stays. -/
def errN (e0 e : Nat) : Nat := if e0 = 0 then e else e0
/-- What a sign takes from the front; is it there? -/
def tkS (r sg : List UInt8) : List UInt8 := if signF r = sg then r.drop sg.length else r
def tkB (r sg : List UInt8) : Bool := decide (signF r = sg)
theorem tk_hit {r sg : List UInt8} (h : signF r = sg) : tkS r sg = r.drop sg.length ∧ tkB r sg = true := ⟨if_pos h, decide_eq_true h⟩
theorem tk_miss {r sg : List UInt8} (h : ¬ signF r = sg) : tkS r sg = r ∧ tkB r sg = false := ⟨if_neg h, decide_eq_false h⟩
set_option maxHeartbeats 4000000 in
/-- fail. -/
theorem fail_any (w : World) (g : Nat) (s : List UInt8) (d : Int) (e0 e : Nat) (h : AR w g s d (e0 : Int)) :
    Calls Tryz.prog 30 #[.pointer (some ⟨g, 0, none⟩), .int .i64 (e : Int)] w fun x w' => (∃ a, x = .returned (.pointer (some a))) ∧ AR w' g [] d (errN e0 e : Int) ∧ KG g w w' := by
  obtain ⟨⟨c0, c1, c2⟩, f0, f1, f2⟩ := h.cells
  have H := Lw.hid h
  by_cases h0 : e0 = 0
  · subst h0
    have H1 := Lw.hid (h.setE (e : Int))
    obtain ⟨⟨x0, x1, x2⟩, z0, z1, z2⟩ := (h.setE (e : Int)).cells
    clear h
    go_enter Tryz.func30, Tryz.ntmps30
    go_wp2_with fail
    go_ret
    rw [show errN 0 e = e from rfl]
    exact ⟨⟨_, rfl⟩, ((H1.out.setS []).kept ((Kept.refl (fun _ => False) _).alloc _) (fun h => h)), (((KG.refl g w).set 2 _).set 0 _).alloc _⟩
  · have hb : ((e0 : Int) == 0) = false := beq_eq_false_iff_ne.2 (by omega)
    clear h
    go_enter Tryz.func30, Tryz.ntmps30
    go_wp2_with fail
    go_ret
    rw [show errN e0 e = e0 from if_neg h0]
    exact ⟨⟨_, rfl⟩, ((H.out.setS []).kept ((Kept.refl (fun _ => False) _).alloc _) (fun h => h)), ((KG.refl g w).set 0 _).alloc _⟩
set_option maxHeartbeats 8000000 in
/-- sign. -/
theorem sign_any (B : Nat) (w : World) (g : Nat) (s : List UInt8) (d e : Int) (hE : AEnv B w) (hg : B ≤ g) (h : AR w g s d e) (hs9 : s.length ≤ 1000000) :
    Calls Tryz.prog 29 #[.pointer (some ⟨g, 0, none⟩)] w fun x w' => x = .returned (.string (BA (signF (trimA s)))) ∧ AR w' g (trimA s) d e ∧ KG g w w' := by
  obtain ⟨⟨c0, c1, c2⟩, f0, f1, f2⟩ := h.cells
  have H := Lw.hid h; have HE := Lw.hid hE
  have HTL : Hid ((trimA s).length ≤ 1000000) := Lw.hid (Nat.le_trans (trimA_len s) hs9)
  have HT := Lw.hid (trim2_any w s)
  obtain ⟨r, hr⟩ : ∃ r, trimA s = r := ⟨_, rfl⟩
  rw [hr] at HT HTL
  have HR := Lw.hid hr
  clear h hE hr
  go_enter Tryz.func29, Tryz.ntmps29
  go_wp2_with fail
  refine HT.out.mono ?_
  rintro x w1 ⟨rfl, k1⟩
  have H1 := H.out.kept k1 (fun h => h)
  obtain ⟨⟨x0, x1, x2⟩, z0, z1, z2⟩ := H1.cells
  have HA : Hid (AR (w1.setCell ⟨g, 0, none⟩ (.string (BA r))) g r d e) := Lw.hid (H1.setS r)
  have HK : Hid (KG g w (w1.setCell ⟨g, 0, none⟩ (.string (BA r)))) := Lw.hid ((KG.of k1).set 0 _)
  obtain ⟨To, Fo, hO⟩ := (HE.out.kept HK.out (fun i hi => by omega)).signs
  have HO := Lw.hid hO
  clear hO k1 H1 HT
  go_wp2_with (refine wpList_load_row rfl _ _ rfl 0 rfl To signsC Fo _ HO.out Tryz.underlying100 rfl (by kernel_rfl) ?_)
  obtain ⟨w2, hw2⟩ : ∃ w2, w1.setCell ⟨g, 0, none⟩ (.string (BA r)) = w2 := ⟨_, rfl⟩
  rw [hw2] at HA HK ⊢
  clear hw2 x0 x1 x2 z0 z1 z2 HO c0 c1 c2 f0 f1 f2
  obtain ⟨⟨y0, y1, y2⟩, -⟩ := HA.out.cells
  go_loopg [4, 14] 24 (fun gk s4 s14 wx => ∃ k : Nat, gk = 24 - k ∧ k ≤ 24 ∧ s14 = .int .i64 (k : Int) ∧ (∀ j, j < k → (r.take (sgAt j).length == sgAt j) = false) ∧ wx = w2)
  case atStart => exact ⟨0, rfl, Nat.zero_le _, rfl, fun j hj => by omega, rfl⟩
  case round =>
    obtain ⟨k, rfl, hk, rfl, hmiss, rfl⟩ := hrel
    have HM := Lw.hid hmiss
    clear hmiss
    by_cases hlt : k < 24
    · have hix := sg_index k hlt
      obtain ⟨ot, hot⟩ : ∃ p, sgAt k = p := ⟨_, rfl⟩
      rw [hot] at hix
      have HOT := Lw.hid hot
      clear hot
      obtain ⟨b, hb⟩ : ∃ b, (r.take ot.length == ot) = b := ⟨_, rfl⟩
      have HB := Lw.hid hb
      clear hb
      go_wp2_with fail
      refine (hasp2 r ot b HB.out _).mono ?_
      rintro x _ ⟨rfl, rfl⟩
      cases b with
      | true =>
        have HV : Hid (signF r = ot) := Lw.hid (by rw [sg_hit r k hlt HM.out (by rw [HOT.out]; exact HB.out), HOT.out])
        go_wp2_with fail
        go_ret
        rw [HR.out, HV.out]
        exact ⟨rfl, HA.out, HK.out⟩
      | false =>
        have HM2 : Hid (∀ j, j < k + 1 → (r.take (sgAt j).length == sgAt j) = false) := Lw.hid (fun j hj => by
          by_cases hjk : j = k
          · subst hjk; rw [HOT.out]; exact HB.out
          · exact HM.out j (by omega))
        go_wp2_with fail
        go_roundg (24 - (k + 1))
        case measure => omega
        case rel => exact ⟨k + 1, rfl, hlt, by go_num, HM2.out, rfl⟩
    · obtain rfl : k = 24 := by omega
      have HV : Hid (signF r = []) := Lw.hid (by rw [sg_miss r 24 (Nat.le_refl _) HM.out]; rfl)
      go_wp2_with fail
      go_ret
      rw [HR.out, HV.out]
      exact ⟨rfl, HA.out, HK.out⟩
/-- takes, behind an error. -/
theorem takes_bad (w : World) (g : Nat) (s sg : List UInt8) (d : Int) (e : Nat) (h : AR w g s d (e : Int)) (he : e ≠ 0) :
    Calls Tryz.prog 44 #[.pointer (some ⟨g, 0, none⟩), .string (BA sg)] w fun x w' => x = .returned (.bool false) ∧ w' = w := by
  obtain ⟨⟨c0, c1, c2⟩, f0, f1, f2⟩ := h.cells
  have hb : ((e : Int) != 0) = true := by simp [bne]; omega
  clear h
  go_enter Tryz.func44, Tryz.ntmps44
  go_wp2_with fail
  go_ret
  exact ⟨rfl, rfl⟩
set_option maxHeartbeats 4000000 in
/-- takes. -/
theorem takes_any (B : Nat) (w : World) (g : Nat) (s sg : List UInt8) (d : Int) (hE : AEnv B w) (hg : B ≤ g) (h : AR w g s d 0) (hs9 : s.length ≤ 1000000) (hsg : sg.length ≤ 2) :
    Calls Tryz.prog 44 #[.pointer (some ⟨g, 0, none⟩), .string (BA sg)] w fun x w' => x = .returned (.bool (tkB (trimA s) sg)) ∧ AR w' g (tkS (trimA s) sg) d 0 ∧ KG g w w' := by
  obtain ⟨⟨c0, c1, c2⟩, f0, f1, f2⟩ := h.cells
  have HS := Lw.hid (sign_any B w g s d 0 hE hg h hs9)
  have HSL := Lw.hid (signF_in (trimA s))
  obtain ⟨r, hr⟩ : ∃ r, trimA s = r := ⟨_, rfl⟩
  rw [hr] at HS HSL ⊢
  clear h hE hr
  go_enter Tryz.func44, Tryz.ntmps44
  go_wp2_with fail
  refine HS.out.mono ?_
  rintro x w1 ⟨rfl, h1, k1⟩
  have H1 := Lw.hid h1; have K1 := Lw.hid k1
  obtain ⟨⟨x0, x1, x2⟩, z0, z1, z2⟩ := h1.cells
  clear h1 k1 c0 c1 c2 f0 f1 f2 HS
  have HH : Hid (signF r = sg → tkS r sg = r.drop sg.length ∧ tkB r sg = true) := Lw.hid tk_hit
  have HN : Hid (¬ signF r = sg → tkS r sg = r ∧ tkB r sg = false) := Lw.hid tk_miss
  obtain ⟨q, hq⟩ : ∃ q, signF r = q := ⟨_, rfl⟩
  rw [hq] at HSL HH HN ⊢
  clear hq
  by_cases hqs : q = sg
  · subst hqs
    have hbb : (BA q != BA q) = false := by rw [bne, BA_beq]; simp
    have hln : q.length ≤ r.length := by
      rcases HSL.out with h | ⟨_, h⟩
      · rw [h]; exact Nat.zero_le _
      · have := congrArg List.length h
        rw [List.length_take] at this
        omega
    have hz := BA_size r; have hz2 := BA_size q
    obtain ⟨n, hn⟩ : ∃ n, r.length = n := ⟨_, rfl⟩
    obtain ⟨m, hm⟩ : ∃ m, q.length = m := ⟨_, rfl⟩
    have eT := BA_tail r m n hn.symm
    rw [hn] at hz hln
    rw [hm] at hz2 hln hsg
    have HMM := Lw.hid hm
    clear hn hm
    go_wp2_with fail
    go_ret
    rw [(HH.out (by first | rfl | trivial)).1, (HH.out (by first | rfl | trivial)).2, HMM.out]
    exact ⟨rfl, H1.out.setS _, K1.out.set 0 _⟩
  · have hbb : (BA q != BA sg) = true := by rw [bne, BA_beq]; simp [hqs]
    have hbc : (q == sg) = false := beq_eq_false_iff_ne.2 hqs
    have HQ := Lw.hid hqs
    clear hqs
    go_wp2_with fail
    go_ret
    rw [(HN.out HQ.out).1, (HN.out HQ.out).2]
    exact ⟨rfl, H1.out, K1.out⟩
end Go.Proofs.YtoedopgjonhemaaGreatDoor
