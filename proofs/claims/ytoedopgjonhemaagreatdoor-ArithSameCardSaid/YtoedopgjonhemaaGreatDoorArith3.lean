/- arith: one. -/
import Derived.Test.YtoedopgjonhemaaGreatDoorArith2
namespace Go.Proofs.YtoedopgjonhemaaGreatDoor
open Go Go.RowKit Go.Lw
set_option maxRecDepth 100000
set_option linter.unusedVariables false
set_option linter.unusedSimpArgs false
attribute [local go_sem] BA_toList
def unF (sg : List UInt8) (R : Rx) : Rx := match R with
  | .error e => .error e
  | .ok y => .ok (.un sg y.1, y.2)
def parF (R : Rx) : Rx := match R with
  | .error e => .error e
  | .ok y => if signF (trimA y.2) = [41] then .ok (y.1, (trimA y.2).drop 1) else .error 5
/-! What has been made. -/
theorem node_un {w : World} {F : Nat → Prop} {g : List UInt8} {p : Value} {a : Ex} (hg : g ∈ aheadL) (h : NAt w F p a) (h1 : F w.heap.size) (h2 : F (w.heap.size + 1)) (k b : Nat) (hk : k = w.heap.size) (hb : b = w.heap.size + 1) :
    NAt ((w.alloc (.cells #[p] 53)).alloc (.cells #[.string (BA g), .string ⟨#[]⟩, .int .i64 0, .slice (some ⟨k, 0, none⟩) 1 1] 91)) F (.pointer (some ⟨b, 0, none⟩)) (.un g a) := by
  subst hk; subst hb
  have k1 := (Kept.refl (fun _ => False) (w.alloc (.cells #[p] 53))).alloc (.cells #[.string (BA g), .string ⟨#[]⟩, .int .i64 0, .slice (some ⟨w.heap.size, 0, none⟩) 1 1] 91)
  have hb := heap_alloc (w.alloc (.cells #[p] 53)) (.cells #[.string (BA g), .string ⟨#[]⟩, .int .i64 0, .slice (some ⟨w.heap.size, 0, none⟩) 1 1] 91)
  rw [World.size_alloc] at hb
  exact .un _ _ g p a hg hb (k1.heap (heap_alloc w _) (fun h => h)) h2 h1 ((h.kept ((Kept.refl (fun _ => False) w).alloc _) (fun _ _ h => h)).kept k1 (fun _ _ h => h))
theorem node_bin {w : World} {F : Nat → Prop} {g : List UInt8} {p q : Value} {x y : Ex} (hg : ∃ j, j < 10 ∧ g ∈ rowsL.getD j []) (hp : NAt w F p x) (hq : NAt w F q y) (h1 : F w.heap.size) (h2 : F (w.heap.size + 1)) (k b : Nat) (hk : k = w.heap.size) (hb : b = w.heap.size + 1) :
    NAt ((w.alloc (.cells #[p, q] 53)).alloc (.cells #[.string (BA g), .string ⟨#[]⟩, .int .i64 0, .slice (some ⟨k, 0, none⟩) 2 2] 91)) F (.pointer (some ⟨b, 0, none⟩)) (.bin g x y) := by
  subst hk; subst hb
  have k1 := (Kept.refl (fun _ => False) (w.alloc (.cells #[p, q] 53))).alloc (.cells #[.string (BA g), .string ⟨#[]⟩, .int .i64 0, .slice (some ⟨w.heap.size, 0, none⟩) 2 2] 91)
  have hb := heap_alloc (w.alloc (.cells #[p, q] 53)) (.cells #[.string (BA g), .string ⟨#[]⟩, .int .i64 0, .slice (some ⟨w.heap.size, 0, none⟩) 2 2] 91)
  rw [World.size_alloc] at hb
  have kk : ∀ {v : Value} {e : Ex}, NAt w F v e → NAt ((w.alloc (.cells #[p, q] 53)).alloc (.cells #[.string (BA g), .string ⟨#[]⟩, .int .i64 0, .slice (some ⟨w.heap.size, 0, none⟩) 2 2] 91)) F v e := fun h => (h.kept ((Kept.refl (fun _ => False) w).alloc _) (fun _ _ h => h)).kept k1 (fun _ _ h => h)
  exact .bin _ _ g p q x y hg hb (k1.heap (heap_alloc w _) (fun h => h)) h2 h1 (kk hp) (kk hq)
theorem cont_law : signsL.all (fun g => Lib.contains [45, 43, 33, 126] g == decide (g ∈ aheadL)) = true := by decide +kernel
theorem cont_any (B : Nat) (w : World) (sg : List UInt8) (hE : AEnv B w) (h : sg ∈ signsL) :
    Calls Tryz.prog 81 #[.string ⟨#[45, 43, 33, 126]⟩, .string (BA sg)] w fun x w' => x = .returned (.bool (decide (sg ∈ aheadL))) ∧ w' = w := by
  obtain ⟨m, hm⟩ := hE.max
  have hl := List.all_eq_true.1 cont_law sg h
  have hl2 : Lib.contains [45, 43, 33, 126] sg = decide (sg ∈ aheadL) := by simpa using hl
  refine (Tryz.strings_Contains (BA [45, 43, 33, 126]) (BA sg) m w (by rw [BA_size]; decide) hm).mono ?_
  rintro x w' ⟨rfl, rfl⟩
  rw [BA_list, BA_list, hl2]
  exact ⟨rfl, rfl⟩
theorem idxd_any (w : World) (c : UInt8) : Calls Tryz.prog 82 #[.string ⟨#[48, 49, 50, 51, 52, 53, 54, 55, 56, 57]⟩, .int .u8 (c.toNat : Int)] w fun e w' => (∃ i : Int, e = .returned (.int .i64 i) ∧ decide (0 ≤ i) = digitB c) ∧ w' = w := by
  refine (Tryz.strings_IndexByte (BA digsL) (c.toNat : Int) w).mono ?_
  rintro e w' ⟨rfl, rfl⟩
  refine ⟨⟨_, rfl, ?_⟩, rfl⟩
  have e1 : ((c.toNat : Int)).toNat.toUInt8 = c := by simp
  rw [e1, BA_list, ← digs_contains c]
  have key : ∀ l : List UInt8, decide (0 ≤ Lib.indexByte l c) = l.contains c := by
    intro l
    induction l with
    | nil => rfl
    | cons d l ih =>
      unfold Lib.indexByte
      rw [List.contains_cons, ← ih]
      by_cases h : d = c
      · subst h; simp
      · have h1 : (d == c) = false := beq_eq_false_iff_ne.2 h
        have h2 : (c == d) = false := beq_eq_false_iff_ne.2 (fun e => h e.symm)
        have hge := Lib.indexByte_ge l c
        rw [h1, h2, Bool.false_or]
        simp only [Bool.false_eq_true, if_false]
        by_cases h3 : Lib.indexByte l c = -1
        · rw [h3]; rfl
        · have h4 : (Lib.indexByte l c == -1) = false := beq_eq_false_iff_ne.2 h3
          rw [h4]
          simp only [Bool.false_eq_true, if_false]
          rw [Bool.eq_iff_iff]; simp; omega
  exact key digsL
/-- The contracts of the reading functions, for texts of a length. -/
def RCall (f : Nat) (l : Lvl) (extra : List Value) (B n : Nat) : Prop := ∀ (w : World) (lo g : Nat) (s : List UInt8) (d : Nat), AEnv B w → B ≤ g → g < lo → lo ≤ w.heap.size → AR w g s (d : Int) 0 → s.length ≤ n → d ≤ 16 →
  Calls Tryz.prog f (#[.pointer (some ⟨g, 0, none⟩)] ++ extra.toArray) w fun x w' => RdPost lo g (rdA l d s) d x w' ∧ KG g w w'
abbrev COneA (B n : Nat) : Prop := RCall 62 .one [] B n
abbrev CRowA (B k n : Nat) : Prop := RCall 43 (.row k) [.int .i64 (k : Int)] B n
abbrev CAllA (B n : Nat) : Prop := RCall 28 .all [] B n
set_option maxHeartbeats 8000000 in
theorem one_end (B : Nat) (w : World) (lo g : Nat) (s : List UInt8) (d : Nat) (hE : AEnv B w) (hg : B ≤ g) (hgl : g < lo) (hlo : lo ≤ w.heap.size) (h : AR w g s (d : Int) 0) (hs9 : s.length ≤ 1000000) (hd : d ≤ 16) (hn : trimA s = []) :
    Calls Tryz.prog 62 #[.pointer (some ⟨g, 0, none⟩)] w fun x w' => RdPost lo g (.error 5) d x w' ∧ KG g w w' := by
  obtain ⟨⟨c0, c1, c2⟩, f0, f1, f2⟩ := h.cells
  have HS := Lw.hid (sign_any B w g s d 0 hE hg h hs9)
  have HE := Lw.hid hE
  have HRL : Hid ((trimA s).length ≤ 1000000) := Lw.hid (Nat.le_trans (trimA_len s) hs9)
  have HSG := Lw.hid (signF_in (trimA s))
  have HDR : Hid (∀ sg, signF (trimA s) = sg → sg ≠ [] → ((trimA s).drop sg.length).length < s.length) := Lw.hid (fun sg h1 h2 => drop_less h1 h2)
  have HRI := Lw.hid (trimA_idem s)
  obtain ⟨r, hr⟩ : ∃ r, trimA s = r := ⟨_, rfl⟩
  rw [hr] at HS HRL HSG HDR HRI hn
  obtain ⟨sg, hsg⟩ : ∃ sg, signF r = sg := ⟨_, rfl⟩
  rw [hsg] at HS HSG
  have HQ := Lw.hid hsg; have HR := Lw.hid hr
  subst hn
  have hsg0 : sg = [] := hsg.symm.trans (by decide)
  subst hsg0
  clear h hE hr hsg
  go_enter Tryz.func62, Tryz.ntmps62
  go_wp2_with fail
  refine HS.out.mono ?_
  rintro x w1 ⟨rfl, h1, k1⟩
  have H1 := Lw.hid h1; have K1 := Lw.hid k1
  obtain ⟨⟨x0, x1, x2⟩, z0, z1, z2⟩ := h1.cells
  have HE1 := Lw.hid (HE.out.kept k1 (fun i hi => by omega))
  clear h1 k1 c0 c1 c2 f0 f1 f2 HS
  go_wp2_with fail
  refine (fail_any _ g [] (d : Int) 0 5 H1.out).mono ?_
  rintro x w2 ⟨⟨a, rfl⟩, h2, k2⟩
  have H2 := Lw.hid h2; have K2 := Lw.hid (K1.out.tr k2)
  clear h2 k2
  go_wp2_with fail
  go_ret
  exact ⟨rp_err rfl (by decide) ⟨_, rfl⟩ _ H2.out, K2.out⟩
set_option maxHeartbeats 8000000 in
theorem one_un (B : Nat) (w : World) (lo g : Nat) (s : List UInt8) (d : Nat) (hE : AEnv B w) (hg : B ≤ g) (hgl : g < lo) (hlo : lo ≤ w.heap.size) (h : AR w g s (d : Int) 0) (hs9 : s.length ≤ 1000000) (hd : d ≤ 16) (hn : trimA s ≠ []) (hm : signF (trimA s) ∈ aheadL) (HO : ∀ m, m < s.length → COneA B m) :
    Calls Tryz.prog 62 #[.pointer (some ⟨g, 0, none⟩)] w fun x w' => RdPost lo g (unF (signF (trimA s)) (dnF d (rdA .one (d + 1) ((trimA s).drop (signF (trimA s)).length)))) d x w' ∧ KG g w w' := by
  obtain ⟨⟨c0, c1, c2⟩, f0, f1, f2⟩ := h.cells
  have HS := Lw.hid (sign_any B w g s d 0 hE hg h hs9)
  have HE := Lw.hid hE
  have HRL : Hid ((trimA s).length ≤ 1000000) := Lw.hid (Nat.le_trans (trimA_len s) hs9)
  have HSG := Lw.hid (signF_in (trimA s))
  have HDR : Hid (∀ sg, signF (trimA s) = sg → sg ≠ [] → ((trimA s).drop sg.length).length < s.length) := Lw.hid (fun sg h1 h2 => drop_less h1 h2)
  have HRI := Lw.hid (trimA_idem s)
  obtain ⟨r, hr⟩ : ∃ r, trimA s = r := ⟨_, rfl⟩
  rw [hr] at HS HRL HSG HDR HRI hn hm
  obtain ⟨sg, hsg⟩ : ∃ sg, signF r = sg := ⟨_, rfl⟩
  rw [hsg] at HS HSG hm
  have HQ := Lw.hid hsg; have HR := Lw.hid hr
  have hre : (BA r == (⟨#[]⟩ : ByteArray)) = false := BA_ne_nil hn
  have hri : r.isEmpty = false := by cases r with
    | nil => exact absurd rfl hn
    | cons c l => rfl
  have hs0 : sg ≠ [] := fun e => by rw [e] at hm; exact absurd hm (by decide)
  have hse : (BA sg != (⟨#[]⟩ : ByteArray)) = true := by rw [bne, BA_ne_nil hs0]; rfl
  have hsi : sg.isEmpty = false := by cases sg with
    | nil => exact absurd rfl hs0
    | cons c l => rfl
  have hsl : sg ∈ signsL := (HSG.out.resolve_left hs0).1
  have hs2 : sg.length ≤ 2 := (signsL_len sg hsl).2
  have hmd : decide (sg ∈ aheadL) = true := decide_eq_true hm
  have HM := Lw.hid hm; have HSL := Lw.hid hsl; have HS2 := Lw.hid hs2; have HOO := Lw.hid HO
  have HLT := Lw.hid (HDR.out sg hsg hs0)
  clear h hE hr hsg hn hm hs0 hsl hs2 HO
  go_enter Tryz.func62, Tryz.ntmps62
  go_wp2_with fail
  refine HS.out.mono ?_
  rintro x w1 ⟨rfl, h1, k1⟩
  have H1 := Lw.hid h1; have K1 := Lw.hid k1
  obtain ⟨⟨x0, x1, x2⟩, z0, z1, z2⟩ := h1.cells
  have HE1 := Lw.hid (HE.out.kept k1 (fun i hi => by omega))
  clear h1 k1 c0 c1 c2 f0 f1 f2 HS
  go_wp2_with fail
  refine (cont_any B w1 sg HE1.out HSL.out).mono ?_
  rw [hmd]
  rintro x w1 ⟨rfl, rfl⟩
  have HTK := Lw.hid (takes_any B w1 g r sg (d : Int) HE1.out hg H1.out HRL.out HS2.out)
  rw [HRI.out, (tk_hit HQ.out).1] at HTK
  go_wp2_with fail
  refine HTK.out.mono ?_
  rintro x w2 ⟨rfl, h2, k2⟩
  have H2 := Lw.hid h2; have K2 := Lw.hid (K1.out.tr k2)
  have HE2 := Lw.hid (HE1.out.kept k2 (fun i hi => by omega))
  clear h2 k2 HTK
  have HDN := Lw.hid (down_one w2 lo g (r.drop sg.length) d (rdA .one (d + 1) (r.drop sg.length)) H2.out hd hgl (fun h16 w3 h3 k3 hz3 => HOO.out _ HLT.out w3 lo g _ (d + 1) (HE2.out.kept k3 (fun i hi => by omega)) hg hgl (by rw [hz3]; exact Nat.le_trans hlo K2.out.size) h3 (Nat.le_refl _) h16))
  obtain ⟨R0, hR0⟩ : ∃ R0, dnF d (rdA .one (d + 1) (r.drop sg.length)) = R0 := ⟨_, rfl⟩
  have HR0 := Lw.hid hR0
  rw [hR0] at HDN
  clear hR0
  go_wp2_with fail
  refine HDN.out.mono ?_
  rintro x w3 ⟨hp, k3⟩
  have K3 := Lw.hid (K2.out.tr k3)
  have HRES : Hid (unF (signF (trimA s)) (dnF d (rdA .one (d + 1) ((trimA s).drop (signF (trimA s)).length))) = unF sg R0) := Lw.hid (by rw [HR.out, HQ.out, HR0.out])
  cases R0 with
  | error e =>
    obtain ⟨he, ⟨a, rfl⟩, d', ha⟩ := hp
    have HA := Lw.hid ha
    clear ha k3 HDN
    go_wp2_with fail
    go_ret
    exact ⟨rp_err HRES.out he ⟨_, rfl⟩ d' ((HA.out.kept ((Kept.refl (fun _ => False) _).alloc _) (fun h => h)).kept ((Kept.refl (fun _ => False) _).alloc _) (fun h => h)), (K3.out.alloc _).alloc _⟩
  | ok y =>
    obtain ⟨p, rfl, hn, ha⟩ := hp
    have HA := Lw.hid ha; have HN := Lw.hid hn
    obtain ⟨bp, rfl, _⟩ := hn.ptr
    have hz3 := K3.out.size
    clear ha hn k3 HDN
    go_wp2_with fail
    go_ret
    refine ⟨rp_ok (y := .un sg y.1) (s := y.2) HRES.out rfl (node_un HM.out HN.out (by show lo ≤ _; omega) (by show lo ≤ _; omega) _ _ rfl (by simp)) ((HA.out.kept ((Kept.refl (fun _ => False) _).alloc _) (fun h => h)).kept ((Kept.refl (fun _ => False) _).alloc _) (fun h => h)), (K3.out.alloc _).alloc _⟩
set_option maxHeartbeats 8000000 in
theorem one_par (B : Nat) (w : World) (lo g : Nat) (s : List UInt8) (d : Nat) (hE : AEnv B w) (hg : B ≤ g) (hgl : g < lo) (hlo : lo ≤ w.heap.size) (h : AR w g s (d : Int) 0) (hs9 : s.length ≤ 1000000) (hd : d ≤ 16) (hn : trimA s ≠ []) (hm : signF (trimA s) = [40]) (HO : ∀ m, m < s.length → CAllA B m) :
    Calls Tryz.prog 62 #[.pointer (some ⟨g, 0, none⟩)] w fun x w' => RdPost lo g (parF (dnF d (rdA .all (d + 1) ((trimA s).drop 1)))) d x w' ∧ KG g w w' := by
  obtain ⟨⟨c0, c1, c2⟩, f0, f1, f2⟩ := h.cells
  have HS := Lw.hid (sign_any B w g s d 0 hE hg h hs9)
  have HE := Lw.hid hE
  have HRL : Hid ((trimA s).length ≤ 1000000) := Lw.hid (Nat.le_trans (trimA_len s) hs9)
  have HSG := Lw.hid (signF_in (trimA s))
  have HDR : Hid (∀ sg, signF (trimA s) = sg → sg ≠ [] → ((trimA s).drop sg.length).length < s.length) := Lw.hid (fun sg h1 h2 => drop_less h1 h2)
  have HRI := Lw.hid (trimA_idem s)
  obtain ⟨r, hr⟩ : ∃ r, trimA s = r := ⟨_, rfl⟩
  rw [hr] at HS HRL HSG HDR HRI hn hm
  obtain ⟨sg, hsg⟩ : ∃ sg, signF r = sg := ⟨_, rfl⟩
  rw [hsg] at HS HSG hm
  have HQ := Lw.hid hsg; have HR := Lw.hid hr
  have hre : (BA r == (⟨#[]⟩ : ByteArray)) = false := BA_ne_nil hn
  have hri : r.isEmpty = false := by cases r with
    | nil => exact absurd rfl hn
    | cons c l => rfl
  subst hm
  have hmd : decide (([40] : List UInt8) ∈ aheadL) = false := by decide
  have hse : (BA [40] != (⟨#[]⟩ : ByteArray)) = true := by decide
  have hb40 : BA [40] = (⟨#[40]⟩ : ByteArray) := rfl
  have HOO := Lw.hid HO
  have HLT := Lw.hid (HDR.out [40] hsg (by decide))
  have HZ : Hid ((r.drop ([40] : List UInt8).length) = r.drop 1) := Lw.hid rfl
  clear h hE hr hsg hn HO
  go_enter Tryz.func62, Tryz.ntmps62
  go_wp2_with fail
  refine HS.out.mono ?_
  rintro x w1 ⟨rfl, h1, k1⟩
  have H1 := Lw.hid h1; have K1 := Lw.hid k1
  obtain ⟨⟨x0, x1, x2⟩, z0, z1, z2⟩ := h1.cells
  have HE1 := Lw.hid (HE.out.kept k1 (fun i hi => by omega))
  clear h1 k1 c0 c1 c2 f0 f1 f2 HS
  go_wp2_with fail
  refine (cont_any B w1 [40] HE1.out (by decide)).mono ?_
  rw [hmd]
  rintro x w1 ⟨rfl, rfl⟩
  have HTK := Lw.hid (takes_any B w1 g r [40] (d : Int) HE1.out hg H1.out HRL.out (by decide))
  rw [HRI.out, (tk_hit HQ.out).1, (tk_hit HQ.out).2] at HTK
  go_wp2_with fail
  refine HTK.out.mono ?_
  rintro x w2 ⟨rfl, h2, k2⟩
  have H2 := Lw.hid h2; have K2 := Lw.hid (K1.out.tr k2)
  have HE2 := Lw.hid (HE1.out.kept k2 (fun i hi => by omega))
  clear h2 k2 HTK
  have HDN := Lw.hid (down_all w2 lo g (r.drop ([40] : List UInt8).length) d (rdA .all (d + 1) (r.drop ([40] : List UInt8).length)) H2.out hd hgl (fun h16 w3 h3 k3 hz3 => HOO.out _ HLT.out w3 lo g _ (d + 1) (HE2.out.kept k3 (fun i hi => by omega)) hg hgl (by rw [hz3]; exact Nat.le_trans hlo K2.out.size) h3 (Nat.le_refl _) h16))
  obtain ⟨R0, hR0⟩ : ∃ R0, dnF d (rdA .all (d + 1) (r.drop ([40] : List UInt8).length)) = R0 := ⟨_, rfl⟩
  have HR0 := Lw.hid hR0
  rw [hR0] at HDN
  clear hR0
  go_wp2_with fail
  refine HDN.out.mono ?_
  rintro x w3 ⟨hp, k3⟩
  have K3 := Lw.hid (K2.out.tr k3)
  have HE3 := Lw.hid (HE2.out.kept k3 (fun i hi => by omega))
  have HRES : Hid (parF (dnF d (rdA .all (d + 1) ((trimA s).drop 1))) = parF R0) := Lw.hid (by rw [HR.out, ← HR0.out]; rfl)
  have HRL0 : Hid (∀ y, R0 = .ok y → y.2.length ≤ 1000000) := Lw.hid (fun y hy => by
    have h0 := HR0.out
    rw [hy] at h0
    unfold dnF at h0
    split at h0
    · cases h0
    · have h1 := rdA_len h0
      have h2 := HLT.out
      omega)
  clear HR0
  cases R0 with
  | error e =>
    obtain ⟨he, ⟨a, rfl⟩, d', ha⟩ := hp
    have HA := Lw.hid ha
    have HTB := Lw.hid (takes_bad w3 g [] [41] d' e ha he)
    clear ha k3 HDN
    go_wp2_with fail
    refine HTB.out.mono ?_
    rintro x w3 ⟨rfl, rfl⟩
    go_wp2_with fail
    refine (fail_any _ g [] d' e 5 HA.out).mono ?_
    rintro x w4 ⟨⟨a2, rfl⟩, h4, k4⟩
    have H4 := Lw.hid h4; have K4 := Lw.hid (K3.out.tr k4)
    clear h4 k4
    go_wp2_with fail
    go_ret
    exact ⟨rp_err HRES.out he ⟨_, rfl⟩ d' (by have := H4.out; rw [show errN e 5 = e from if_neg he] at this; exact this), K4.out⟩
  | ok y =>
    obtain ⟨p, rfl, hn, ha⟩ := hp
    obtain ⟨y1, y2⟩ := y
    have HA := Lw.hid ha; have HN := Lw.hid hn
    obtain ⟨bp, rfl, _⟩ := hn.ptr
    have HTK := Lw.hid (takes_any B w3 g y2 [41] (d : Int) HE3.out hg ha (HRL0.out _ rfl) (by decide))
    clear ha hn k3 HDN
    by_cases hq : signF (trimA y2) = [41]
    · rw [(tk_hit hq).1, (tk_hit hq).2] at HTK
      have HRE2 : Hid (parF (dnF d (rdA .all (d + 1) ((trimA s).drop 1))) = .ok (y1, (trimA y2).drop ([41] : List UInt8).length)) := Lw.hid (by rw [HRES.out]; unfold parF; simp only; rw [if_pos hq]; rfl)
      clear hq
      go_wp2_with fail
      refine HTK.out.mono ?_
      rintro x w4 ⟨rfl, h4, k4⟩
      have H4 := Lw.hid h4; have K4 := Lw.hid (K3.out.tr k4)
      have HN4 := Lw.hid (HN.out.kept k4 (fun b hb e => by omega))
      clear h4 k4 HTK
      go_wp2_with fail
      go_ret
      exact ⟨rp_ok HRE2.out rfl HN4.out H4.out, K4.out⟩
    · rw [(tk_miss hq).1, (tk_miss hq).2] at HTK
      have HRE2 : Hid (parF (dnF d (rdA .all (d + 1) ((trimA s).drop 1))) = .error 5) := Lw.hid (by rw [HRES.out]; unfold parF; simp only; rw [if_neg hq])
      clear hq
      go_wp2_with fail
      refine HTK.out.mono ?_
      rintro x w4 ⟨rfl, h4, k4⟩
      have H4 := Lw.hid h4; have K4 := Lw.hid (K3.out.tr k4)
      clear h4 k4 HTK
      go_wp2_with fail
      refine (fail_any _ g _ (d : Int) 0 5 H4.out).mono ?_
      rintro x w5 ⟨⟨a2, rfl⟩, h5, k5⟩
      have H5 := Lw.hid h5; have K5 := Lw.hid (K4.out.tr k5)
      clear h5 k5
      go_wp2_with fail
      go_ret
      exact ⟨rp_err HRE2.out (by decide) ⟨_, rfl⟩ (d : Int) H5.out, K5.out⟩
set_option maxHeartbeats 8000000 in
theorem one_num (B : Nat) (w : World) (lo g : Nat) (s : List UInt8) (d : Nat) (hE : AEnv B w) (hg : B ≤ g) (hgl : g < lo) (hlo : lo ≤ w.heap.size) (h : AR w g s (d : Int) 0) (hs9 : s.length ≤ 1000000) (hd : d ≤ 16) (hn : trimA s ≠ []) (hm : ¬ signF (trimA s) ∈ aheadL) (hp : ¬ signF (trimA s) = [40]) (hdg : (trimA s).head?.any digitB = true) :
    Calls Tryz.prog 62 #[.pointer (some ⟨g, 0, none⟩)] w fun x w' => RdPost lo g (numberF (trimA s)) d x w' ∧ KG g w w' := by
  obtain ⟨⟨c0, c1, c2⟩, f0, f1, f2⟩ := h.cells
  have HS := Lw.hid (sign_any B w g s d 0 hE hg h hs9)
  have HE := Lw.hid hE
  have HRL : Hid ((trimA s).length ≤ 1000000) := Lw.hid (Nat.le_trans (trimA_len s) hs9)
  have HSG := Lw.hid (signF_in (trimA s))
  have HDR : Hid (∀ sg, signF (trimA s) = sg → sg ≠ [] → ((trimA s).drop sg.length).length < s.length) := Lw.hid (fun sg h1 h2 => drop_less h1 h2)
  have HRI := Lw.hid (trimA_idem s)
  obtain ⟨r, hr⟩ : ∃ r, trimA s = r := ⟨_, rfl⟩
  rw [hr] at HS HRL HSG HDR HRI hn hm hp hdg
  obtain ⟨sg, hsg⟩ : ∃ sg, signF r = sg := ⟨_, rfl⟩
  rw [hsg] at HS HSG hm hp
  have HQ := Lw.hid hsg; have HR := Lw.hid hr
  have hre : (BA r == (⟨#[]⟩ : ByteArray)) = false := BA_ne_nil hn
  have hri : r.isEmpty = false := by cases r with
    | nil => exact absurd rfl hn
    | cons c l => rfl
  obtain ⟨c, rr, hcr⟩ : ∃ c rr, r = c :: rr := by
    cases r with
    | nil => exact absurd rfl hn
    | cons c l => exact ⟨c, l, rfl⟩
  have hdc : digitB c = true := by rw [hcr] at hdg; simpa using hdg
  have g0 := BA_get (l := r) (k := 0) (c := c) (by rw [hcr]; rfl)
  have hz := BA_size r
  have hz0 : (0 : Int) < ((BA r).size : Int) := by rw [hz, hcr]; simp
  have HCR := Lw.hid hcr; have HP := Lw.hid hp
  have hmd : decide (sg ∈ aheadL) = false := decide_eq_false hm
  have hcont : sg = [] ∨ (sg ≠ [] ∧ sg ∈ signsL) := by
    rcases HSG.out with h0 | h0
    · exact .inl h0
    · exact .inr ⟨fun e => by rw [e] at h0; exact absurd h0.1 (by decide), h0.1⟩
  clear h hE hr hsg hn hm hp hcr hdg
  go_enter Tryz.func62, Tryz.ntmps62
  go_wp2_with fail
  refine HS.out.mono ?_
  rintro x w1 ⟨rfl, h1, k1⟩
  have H1 := Lw.hid h1; have K1 := Lw.hid k1
  obtain ⟨⟨x0, x1, x2⟩, z0, z1, z2⟩ := h1.cells
  have HE1 := Lw.hid (HE.out.kept k1 (fun i hi => by omega))
  clear h1 k1 c0 c1 c2 f0 f1 f2 HS
  have HTK := Lw.hid (takes_any B w1 g r [40] (d : Int) HE1.out hg H1.out HRL.out (by decide))
  rw [HRI.out, (tk_miss (fun e => HP.out (HQ.out.symm.trans e))).1, (tk_miss (fun e => HP.out (HQ.out.symm.trans e))).2] at HTK
  rcases hcont with rfl | ⟨hs0, hsl⟩
  · have hse : (BA [] != (⟨#[]⟩ : ByteArray)) = false := rfl
    go_wp2_with fail
    refine HTK.out.mono ?_
    rintro x w2 ⟨rfl, h2, k2⟩
    have H2 := Lw.hid h2; have K2 := Lw.hid (K1.out.tr k2)
    have HE2 := Lw.hid (HE1.out.kept k2 (fun i hi => by omega))
    obtain ⟨⟨y0, y1, y2⟩, u0, u1, u2⟩ := h2.cells
    clear h2 k2 HTK x0 x1 x2 z0 z1 z2
    go_wp2_with fail
    refine (idxd_any _ c).mono ?_
    rintro x w2 ⟨⟨ix, rfl, hix⟩, rfl⟩
    rw [hdc] at hix
    go_wp2_with fail
    refine (number_any B _ g r d HE2.out hg H2.out HRL.out (by rw [HCR.out, List.takeWhile_cons, hdc]; simp)).mono ?_
    rintro x w3 ⟨hp3, k3⟩
    have K3 := Lw.hid (K2.out.tr k3)
    have hp4 := hp3.back (Nat.le_trans hlo K2.out.size)
    obtain ⟨a3, rfl⟩ : ∃ a, x = .returned (.pointer (some a)) := by
      revert hp4
      cases numberF r with
      | error e => rintro ⟨_, h, _⟩; exact h
      | ok y => rintro ⟨p, h, hn, _⟩; obtain ⟨b, rfl, _⟩ := hn.ptr; exact ⟨_, h⟩
    have HP4 := Lw.hid hp4
    clear hp3 hp4 k3
    go_wp2_with fail
    go_ret
    rw [HR.out]
    exact ⟨HP4.out, K3.out⟩
  · have hse : (BA sg != (⟨#[]⟩ : ByteArray)) = true := by rw [bne, BA_ne_nil hs0]; rfl
    have hsi : sg.isEmpty = false := by cases sg with
      | nil => exact absurd rfl hs0
      | cons c l => rfl
    have HSL := Lw.hid hsl
    clear hs0 hsl
    go_wp2_with fail
    refine (cont_any B w1 sg HE1.out HSL.out).mono ?_
    rw [hmd]
    rintro x w1' ⟨rfl, hw1⟩
    subst hw1
    go_wp2_with fail
    refine HTK.out.mono ?_
    rintro x w2 ⟨rfl, h2, k2⟩
    have H2 := Lw.hid h2; have K2 := Lw.hid (K1.out.tr k2)
    have HE2 := Lw.hid (HE1.out.kept k2 (fun i hi => by omega))
    obtain ⟨⟨y0, y1, y2⟩, u0, u1, u2⟩ := h2.cells
    clear h2 k2 HTK x0 x1 x2 z0 z1 z2
    go_wp2_with fail
    refine (idxd_any _ c).mono ?_
    rintro x w2 ⟨⟨ix, rfl, hix⟩, rfl⟩
    rw [hdc] at hix
    go_wp2_with fail
    refine (number_any B _ g r d HE2.out hg H2.out HRL.out (by rw [HCR.out, List.takeWhile_cons, hdc]; simp)).mono ?_
    rintro x w3 ⟨hp3, k3⟩
    have K3 := Lw.hid (K2.out.tr k3)
    have hp4 := hp3.back (Nat.le_trans hlo K2.out.size)
    obtain ⟨a3, rfl⟩ : ∃ a, x = .returned (.pointer (some a)) := by
      revert hp4
      cases numberF r with
      | error e => rintro ⟨_, h, _⟩; exact h
      | ok y => rintro ⟨p, h, hn, _⟩; obtain ⟨b, rfl, _⟩ := hn.ptr; exact ⟨_, h⟩
    have HP4 := Lw.hid hp4
    clear hp3 hp4 k3
    go_wp2_with fail
    go_ret
    rw [HR.out]
    exact ⟨HP4.out, K3.out⟩
set_option maxHeartbeats 8000000 in
theorem one_name (B : Nat) (w : World) (lo g : Nat) (s : List UInt8) (d : Nat) (hE : AEnv B w) (hg : B ≤ g) (hgl : g < lo) (hlo : lo ≤ w.heap.size) (h : AR w g s (d : Int) 0) (hs9 : s.length ≤ 1000000) (hd : d ≤ 16) (hn : trimA s ≠ []) (hm : ¬ signF (trimA s) ∈ aheadL) (hp : ¬ signF (trimA s) = [40]) (hdg : (trimA s).head?.any digitB = false) :
    Calls Tryz.prog 62 #[.pointer (some ⟨g, 0, none⟩)] w fun x w' => RdPost lo g (wordA (trimA s)) d x w' ∧ KG g w w' := by
  obtain ⟨⟨c0, c1, c2⟩, f0, f1, f2⟩ := h.cells
  have HS := Lw.hid (sign_any B w g s d 0 hE hg h hs9)
  have HE := Lw.hid hE
  have HRL : Hid ((trimA s).length ≤ 1000000) := Lw.hid (Nat.le_trans (trimA_len s) hs9)
  have HSG := Lw.hid (signF_in (trimA s))
  have HDR : Hid (∀ sg, signF (trimA s) = sg → sg ≠ [] → ((trimA s).drop sg.length).length < s.length) := Lw.hid (fun sg h1 h2 => drop_less h1 h2)
  have HRI := Lw.hid (trimA_idem s)
  obtain ⟨r, hr⟩ : ∃ r, trimA s = r := ⟨_, rfl⟩
  rw [hr] at HS HRL HSG HDR HRI hn hm hp hdg
  obtain ⟨sg, hsg⟩ : ∃ sg, signF r = sg := ⟨_, rfl⟩
  rw [hsg] at HS HSG hm hp
  have HQ := Lw.hid hsg; have HR := Lw.hid hr
  have hre : (BA r == (⟨#[]⟩ : ByteArray)) = false := BA_ne_nil hn
  have hri : r.isEmpty = false := by cases r with
    | nil => exact absurd rfl hn
    | cons c l => rfl
  obtain ⟨c, rr, hcr⟩ : ∃ c rr, r = c :: rr := by
    cases r with
    | nil => exact absurd rfl hn
    | cons c l => exact ⟨c, l, rfl⟩
  have hdc : digitB c = false := by rw [hcr] at hdg; simpa using hdg
  have g0 := BA_get (l := r) (k := 0) (c := c) (by rw [hcr]; rfl)
  have hz := BA_size r
  have hz0 : (0 : Int) < ((BA r).size : Int) := by rw [hz, hcr]; simp
  have HCR := Lw.hid hcr; have HP := Lw.hid hp
  have hmd : decide (sg ∈ aheadL) = false := decide_eq_false hm
  have hcont : sg = [] ∨ (sg ≠ [] ∧ sg ∈ signsL) := by
    rcases HSG.out with h0 | h0
    · exact .inl h0
    · exact .inr ⟨fun e => by rw [e] at h0; exact absurd h0.1 (by decide), h0.1⟩
  clear h hE hr hsg hn hm hp hcr hdg
  obtain ⟨N, hN⟩ : ∃ N, r.length = N := ⟨_, rfl⟩
  have HN := Lw.hid hN
  have HN0 : Hid (0 < N) := Lw.hid (by rw [← hN, HCR.out]; simp)
  obtain ⟨M, hM⟩ : ∃ M, (nameA r).length = M := ⟨_, rfl⟩
  have HM := Lw.hid hM
  have hMN : M ≤ N := by rw [← hM, ← hN]; exact nameA_len r
  have hr9 : N ≤ 1000000 := by rw [← hN]; exact HRL.out
  rw [hN] at hz
  clear hN hM
  go_enter Tryz.func62, Tryz.ntmps62
  go_wp2_with fail
  refine HS.out.mono ?_
  rintro x w1 ⟨rfl, h1, k1⟩
  have H1 := Lw.hid h1; have K1 := Lw.hid k1
  obtain ⟨⟨x0, x1, x2⟩, z0, z1, z2⟩ := h1.cells
  have HE1 := Lw.hid (HE.out.kept k1 (fun i hi => by omega))
  clear h1 k1 c0 c1 c2 f0 f1 f2 HS
  have HTK := Lw.hid (takes_any B w1 g r [40] (d : Int) HE1.out hg H1.out HRL.out (by decide))
  rw [HRI.out, (tk_miss (fun e => HP.out (HQ.out.symm.trans e))).1, (tk_miss (fun e => HP.out (HQ.out.symm.trans e))).2] at HTK
  rcases hcont with rfl | ⟨hs0, hsl⟩
  · have hse : (BA [] != (⟨#[]⟩ : ByteArray)) = false := rfl
    go_wp2_with fail
    refine HTK.out.mono ?_
    rintro x w2 ⟨rfl, h2, k2⟩
    have hgw2 := heap_lt h2
    have H2 := Lw.hid h2; have K2 := Lw.hid (K1.out.tr k2)
    have HE2 := Lw.hid (HE1.out.kept k2 (fun i hi => by omega))
    obtain ⟨⟨y0, y1, y2⟩, u0, u1, u2⟩ := h2.cells
    clear h2 k2 HTK x0 x1 x2 z0 z1 z2
    go_wp2_with fail
    refine (idxd_any _ c).mono ?_
    rintro x w2 ⟨⟨ix, rfl, hix⟩, rfl⟩
    rw [hdc] at hix
    go_wp2_with fail
    go_loopg [5] (M + 1) (fun gk s5 wx => ∃ m : Nat, gk = M + 1 - m ∧ m ≤ M ∧ s5 = .int .i64 (m : Int) ∧ wx = w2)
    case atStart => exact ⟨0, rfl, Nat.zero_le _, rfl, rfl⟩
    case round =>
      obtain ⟨m, rfl, hmM, rfl, rfl⟩ := hrel
      have eH := BA_head r m
      have eT := BA_tail r m N HN.out.symm
      have done : ∀ (hmm : m = M), (M = 0 → Hid (wordA r = .error 5)) ∧ (M ≠ 0 → Hid (wordA r = .ok (.name (r.take m), r.drop m) ∧ r.take m ≠ [])) := fun hmm => by
        subst hmm
        have ht := nameA_take r
        rw [HM.out] at ht
        refine ⟨fun h0 => Lw.hid ?_, fun h0 => Lw.hid ?_⟩
        · unfold wordA
          rw [if_pos (List.eq_nil_of_length_eq_zero (HM.out.trans h0))]
        · have hne : nameA r ≠ [] := fun e => h0 (by rw [← HM.out, e]; rfl)
          unfold wordA
          rw [if_neg hne, HM.out, ht]
          exact ⟨rfl, hne⟩
      have FIN : ∀ (hmm : m = M), True := fun _ => trivial
      by_cases hlt : m < N
      · have eH1 := BA_head r (m + 1)
        have hlen : (r.take (m + 1)).length ≤ 1000000 := by rw [List.length_take]; omega
        have HSS := Lw.hid (nameA_step (s := r) (m := m) (by rw [HN.out]; exact hlt) (by rw [HM.out]; exact hmM))
        rw [HM.out] at HSS
        have HC := Lw.hid (name_any wr (r.take (m + 1)) hlen)
        clear hlen
        by_cases hx : m < M
        · have hdx : decide (m < M) = true := decide_eq_true hx
          rw [hdx] at HSS
          rw [HSS.out] at HC
          go_wp2_with fail
          refine HC.out.mono ?_
          rintro x wr ⟨rfl, rfl⟩
          go_wp2_with fail
          go_roundg (M + 1 - (m + 1))
          case measure => omega
          case rel => exact ⟨m + 1, rfl, hx, by go_num, rfl⟩
        · have hdx : decide (m < M) = false := decide_eq_false hx
          have hmm : m = M := by omega
          obtain ⟨D1, D2⟩ := done hmm
          rw [hdx] at HSS
          rw [HSS.out] at HC
          clear done
          subst hmm
          by_cases h0 : m = 0
          · subst h0
            have DD := D1 rfl
            clear D1 D2
            go_wp2_with fail
            refine HC.out.mono ?_
            rintro x wr ⟨rfl, rfl⟩
            go_wp2_with fail
            refine (fail_any _ g _ (d : Int) 0 5 H2.out).mono ?_
            rintro x w5 ⟨⟨a2, rfl⟩, h5, k5⟩
            have H5 := Lw.hid h5; have K5 := Lw.hid (K2.out.tr k5)
            clear h5 k5
            go_wp2_with fail
            go_ret
            rw [HR.out]
            exact ⟨rp_err DD.out (by decide) ⟨_, rfl⟩ (d : Int) H5.out, K5.out⟩
          · have DD := D2 h0
            have hm0 : ((m : Int) == 0) = false := beq_eq_false_iff_ne.2 (by omega)
            clear D1 D2
            go_wp2_with fail
            refine HC.out.mono ?_
            rintro x wr ⟨rfl, rfl⟩
            go_wp2_with fail
            go_ret
            rw [HR.out]
            have hal := heap_alloc (wr.setCell ⟨g, 0, none⟩ (.string (BA (r.drop m)))) (.cells #[.string ⟨#[]⟩, .string (BA (r.take m)), .int .i64 0, .slice none 0 0] 91)
            rw [World.size_setCell] at hal
            exact ⟨rp_ok DD.out.1 rfl (.name _ _ DD.out.2 hal (Nat.le_trans hlo K2.out.size)) ((H2.out.setS _).kept ((Kept.refl (fun _ => False) _).alloc _) (fun h => h)), (K2.out.set 0 _).alloc _⟩
      · have hmm : m = M := by omega
        obtain ⟨D1, D2⟩ := done hmm
        clear done
        subst hmm
        have hm0 : ((m : Int) == 0) = false := beq_eq_false_iff_ne.2 (by have := HN0.out; omega)
        have DD := D2 (by have := HN0.out; omega)
        clear D1 D2
        go_wp2_with fail
        go_ret
        rw [HR.out]
        have hal := heap_alloc (wr.setCell ⟨g, 0, none⟩ (.string (BA (r.drop m)))) (.cells #[.string ⟨#[]⟩, .string (BA (r.take m)), .int .i64 0, .slice none 0 0] 91)
        rw [World.size_setCell] at hal
        exact ⟨rp_ok DD.out.1 rfl (.name _ _ DD.out.2 hal (Nat.le_trans hlo K2.out.size)) ((H2.out.setS _).kept ((Kept.refl (fun _ => False) _).alloc _) (fun h => h)), (K2.out.set 0 _).alloc _⟩
  · have hse : (BA sg != (⟨#[]⟩ : ByteArray)) = true := by rw [bne, BA_ne_nil hs0]; rfl
    have hsi : sg.isEmpty = false := by cases sg with
      | nil => exact absurd rfl hs0
      | cons c l => rfl
    have HSL := Lw.hid hsl
    clear hs0 hsl
    go_wp2_with fail
    refine (cont_any B w1 sg HE1.out HSL.out).mono ?_
    rw [hmd]
    rintro x w1' ⟨rfl, hw1⟩
    subst hw1
    go_wp2_with fail
    refine HTK.out.mono ?_
    rintro x w2 ⟨rfl, h2, k2⟩
    have hgw2 := heap_lt h2
    have H2 := Lw.hid h2; have K2 := Lw.hid (K1.out.tr k2)
    have HE2 := Lw.hid (HE1.out.kept k2 (fun i hi => by omega))
    obtain ⟨⟨y0, y1, y2⟩, u0, u1, u2⟩ := h2.cells
    clear h2 k2 HTK x0 x1 x2 z0 z1 z2
    go_wp2_with fail
    refine (idxd_any _ c).mono ?_
    rintro x w2 ⟨⟨ix, rfl, hix⟩, rfl⟩
    rw [hdc] at hix
    go_wp2_with fail
    go_loopg [5] (M + 1) (fun gk s5 wx => ∃ m : Nat, gk = M + 1 - m ∧ m ≤ M ∧ s5 = .int .i64 (m : Int) ∧ wx = w2)
    case atStart => exact ⟨0, rfl, Nat.zero_le _, rfl, rfl⟩
    case round =>
      obtain ⟨m, rfl, hmM, rfl, rfl⟩ := hrel
      have eH := BA_head r m
      have eT := BA_tail r m N HN.out.symm
      have done : ∀ (hmm : m = M), (M = 0 → Hid (wordA r = .error 5)) ∧ (M ≠ 0 → Hid (wordA r = .ok (.name (r.take m), r.drop m) ∧ r.take m ≠ [])) := fun hmm => by
        subst hmm
        have ht := nameA_take r
        rw [HM.out] at ht
        refine ⟨fun h0 => Lw.hid ?_, fun h0 => Lw.hid ?_⟩
        · unfold wordA
          rw [if_pos (List.eq_nil_of_length_eq_zero (HM.out.trans h0))]
        · have hne : nameA r ≠ [] := fun e => h0 (by rw [← HM.out, e]; rfl)
          unfold wordA
          rw [if_neg hne, HM.out, ht]
          exact ⟨rfl, hne⟩
      have FIN : ∀ (hmm : m = M), True := fun _ => trivial
      by_cases hlt : m < N
      · have eH1 := BA_head r (m + 1)
        have hlen : (r.take (m + 1)).length ≤ 1000000 := by rw [List.length_take]; omega
        have HSS := Lw.hid (nameA_step (s := r) (m := m) (by rw [HN.out]; exact hlt) (by rw [HM.out]; exact hmM))
        rw [HM.out] at HSS
        have HC := Lw.hid (name_any wr (r.take (m + 1)) hlen)
        clear hlen
        by_cases hx : m < M
        · have hdx : decide (m < M) = true := decide_eq_true hx
          rw [hdx] at HSS
          rw [HSS.out] at HC
          go_wp2_with fail
          refine HC.out.mono ?_
          rintro x wr ⟨rfl, rfl⟩
          go_wp2_with fail
          go_roundg (M + 1 - (m + 1))
          case measure => omega
          case rel => exact ⟨m + 1, rfl, hx, by go_num, rfl⟩
        · have hdx : decide (m < M) = false := decide_eq_false hx
          have hmm : m = M := by omega
          obtain ⟨D1, D2⟩ := done hmm
          rw [hdx] at HSS
          rw [HSS.out] at HC
          clear done
          subst hmm
          by_cases h0 : m = 0
          · subst h0
            have DD := D1 rfl
            clear D1 D2
            go_wp2_with fail
            refine HC.out.mono ?_
            rintro x wr ⟨rfl, rfl⟩
            go_wp2_with fail
            refine (fail_any _ g _ (d : Int) 0 5 H2.out).mono ?_
            rintro x w5 ⟨⟨a2, rfl⟩, h5, k5⟩
            have H5 := Lw.hid h5; have K5 := Lw.hid (K2.out.tr k5)
            clear h5 k5
            go_wp2_with fail
            go_ret
            rw [HR.out]
            exact ⟨rp_err DD.out (by decide) ⟨_, rfl⟩ (d : Int) H5.out, K5.out⟩
          · have DD := D2 h0
            have hm0 : ((m : Int) == 0) = false := beq_eq_false_iff_ne.2 (by omega)
            clear D1 D2
            go_wp2_with fail
            refine HC.out.mono ?_
            rintro x wr ⟨rfl, rfl⟩
            go_wp2_with fail
            go_ret
            rw [HR.out]
            have hal := heap_alloc (wr.setCell ⟨g, 0, none⟩ (.string (BA (r.drop m)))) (.cells #[.string ⟨#[]⟩, .string (BA (r.take m)), .int .i64 0, .slice none 0 0] 91)
            rw [World.size_setCell] at hal
            exact ⟨rp_ok DD.out.1 rfl (.name _ _ DD.out.2 hal (Nat.le_trans hlo K2.out.size)) ((H2.out.setS _).kept ((Kept.refl (fun _ => False) _).alloc _) (fun h => h)), (K2.out.set 0 _).alloc _⟩
      · have hmm : m = M := by omega
        obtain ⟨D1, D2⟩ := done hmm
        clear done
        subst hmm
        have hm0 : ((m : Int) == 0) = false := beq_eq_false_iff_ne.2 (by have := HN0.out; omega)
        have DD := D2 (by have := HN0.out; omega)
        clear D1 D2
        go_wp2_with fail
        go_ret
        rw [HR.out]
        have hal := heap_alloc (wr.setCell ⟨g, 0, none⟩ (.string (BA (r.drop m)))) (.cells #[.string ⟨#[]⟩, .string (BA (r.take m)), .int .i64 0, .slice none 0 0] 91)
        rw [World.size_setCell] at hal
        exact ⟨rp_ok DD.out.1 rfl (.name _ _ DD.out.2 hal (Nat.le_trans hlo K2.out.size)) ((H2.out.setS _).kept ((Kept.refl (fun _ => False) _).alloc _) (fun h => h)), (K2.out.set 0 _).alloc _⟩
/-- one. -/
theorem one_all (B n : Nat) (hn9 : n ≤ 1000000) (HO : ∀ m, m < n → COneA B m) (HA : ∀ m, m < n → CAllA B m) : COneA B n := by
  intro w lo g s d hE hg hgl hlo h hsn hd
  have hs9 : s.length ≤ 1000000 := Nat.le_trans hsn hn9
  show Calls Tryz.prog 62 #[.pointer (some ⟨g, 0, none⟩)] w _
  rw [rdA_one]
  by_cases h1 : trimA s = []
  · rw [if_pos h1]; exact one_end B w lo g s d hE hg hgl hlo h hs9 hd h1
  · rw [if_neg h1]
    by_cases h2 : signF (trimA s) ∈ aheadL
    · rw [if_pos h2]
      refine (one_un B w lo g s d hE hg hgl hlo h hs9 hd h1 h2 (fun m hm => HO m (by omega))).mono fun x w' ⟨hp, k⟩ => ⟨?_, k⟩
      unfold dnF at hp
      split at hp
      · rw [if_pos (by assumption)]; exact hp
      · rw [if_neg (by assumption)]; exact hp
    · rw [if_neg h2]
      by_cases h3 : signF (trimA s) = [40]
      · rw [if_pos h3]
        refine (one_par B w lo g s d hE hg hgl hlo h hs9 hd h1 h3 (fun m hm => HA m (by omega))).mono fun x w' ⟨hp, k⟩ => ⟨?_, k⟩
        unfold dnF at hp
        split at hp
        · rw [if_pos (by assumption)]; exact hp
        · rw [if_neg (by assumption)]; exact hp
      · rw [if_neg h3]
        cases h4 : (trimA s).head?.any digitB with
        | true => simp only [if_true]; exact one_num B w lo g s d hE hg hgl hlo h hs9 hd h1 h2 h3 h4
        | false => simp only [Bool.false_eq_true, if_false]; exact one_name B w lo g s d hE hg hgl hlo h hs9 hd h1 h2 h3 h4
end Go.Proofs.YtoedopgjonhemaaGreatDoor
