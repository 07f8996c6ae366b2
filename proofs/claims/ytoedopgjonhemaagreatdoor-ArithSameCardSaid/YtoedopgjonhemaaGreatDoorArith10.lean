/- arith: between. -/
import Derived.Test.YtoedopgjonhemaaGreatDoorArith9
import Derived.Test.YtoedopgjonhemaaGreatDoorLate
namespace Go.Proofs.YtoedopgjonhemaaGreatDoor
open Go Go.RowKit Go.Lw
set_option maxRecDepth 100000
set_option linter.unusedVariables false
set_option linter.unusedSimpArgs false
attribute [local go_sem] BA_toList
theorem OfPost.on {p : EP} {w w1 : World} {l l1 : List (List UInt8)} {b : Va} {x : Ending} {w' : World} (h : OfPost p w1 (l ++ l1) b x w') (k : KE p w w1) : OfPost p w l ⟨b.v, b.e, l1 ++ b.l⟩ x w' :=
  ⟨h.1, by rw [← List.append_assoc]; exact h.2.1, k.tr h.2.2⟩
theorem OfPost.mk0 {p : EP} {w w' : World} {l : List (List UInt8)} {b : Va} {v : Int} (hv : v = b.v) (h : EvS p w' (b.e : Int) (l ++ b.l)) (k : KE p w w') : OfPost p w l b (.returned (.int .i64 v)) w' := ⟨by rw [hv], h, k⟩
theorem beq63 {g : List UInt8} (h : g ≠ [63]) : (BA g == (⟨#[63]⟩ : ByteArray)) = false := by
  show (BA g == BA [63]) = false
  rw [BA_beq]; exact beq_eq_false_iff_ne.2 h
theorem beq38 {g : List UInt8} (h : g ≠ [38, 38]) : (BA g == (⟨#[38, 38]⟩ : ByteArray)) = false := by
  show (BA g == BA [38, 38]) = false
  rw [BA_beq]; exact beq_eq_false_iff_ne.2 h
theorem beq124 {g : List UInt8} (h : g ≠ [124, 124]) : (BA g == (⟨#[124, 124]⟩ : ByteArray)) = false := by
  show (BA g == BA [124, 124]) = false
  rw [BA_beq]; exact beq_eq_false_iff_ne.2 h
def condV (A B C : Va) : Va := if A.e ≠ 0 then ⟨0, A.e, A.l⟩ else if A.v ≠ 0 then ⟨B.v, B.e, A.l ++ B.l⟩ else ⟨C.v, C.e, A.l ++ C.l⟩
def binV (g : List UInt8) (A B : Va) : Va := if A.e ≠ 0 then ⟨0, A.e, A.l⟩
      else if g = [38, 38] then (if A.v ≠ 0 then ⟨truthI (B.v != 0), B.e, A.l ++ B.l⟩ else ⟨0, 0, A.l⟩)
      else if g = [124, 124] then (if A.v ≠ 0 then ⟨1, 0, A.l⟩ else ⟨truthI (B.v != 0), B.e, A.l ++ B.l⟩)
      else if B.e ≠ 0 then ⟨0, B.e, A.l ++ B.l⟩
      else ⟨(binF g A.v B.v).1, (binF g A.v B.v).2, A.l ++ B.l⟩
theorem ofF_cond (env : List UInt8 → List UInt8) (x y z : Ex) : ofF env (.cond x y z) = condV (ofF env x) (ofF env y) (ofF env z) := rfl
theorem ofF_bin (env : List UInt8 → List UInt8) (g : List UInt8) (x y : Ex) : ofF env (.bin g x y) = binV g (ofF env x) (ofF env y) := rfl
set_option maxHeartbeats 8000000 in
theorem bt_cond (p : EP) (x y z : Ex) (hx : OfC p x) (hy : OfC p y) (hz : OfC p z) : BtC p (.cond x y z) := by
  intro w l v hE hN hsz
  cases hN with
  | cond b k q r t _ _ _ h1 h2 h3 h4 hq hr ht =>
    have y0 := heap_cell h1 0; have y3 := heap_cell h1 3; have z0 := heap_cell h2 0
    have H1 := Lw.hid h1; have H2 := Lw.hid h2; have H3 := Lw.hid h3; have H4 := Lw.hid h4
    have HQ := Lw.hid hq; have HR := Lw.hid hr; have HT := Lw.hid ht
    obtain ⟨bq, rfl, _⟩ := hq.ptr
    obtain ⟨br, rfl, _⟩ := hr.ptr
    obtain ⟨bt, rfl, _⟩ := ht.ptr
    have lx := of_len p.env x
    have hsz1 : l.length + szE x ≤ 3000000 := by simp only [szE] at hsz; omega
    have hszy : (l ++ (ofF p.env x).l).length + szE y ≤ 3000000 := by rw [List.length_append]; simp only [szE] at hsz; omega
    have hszz : (l ++ (ofF p.env x).l).length + szE z ≤ 3000000 := by rw [List.length_append]; simp only [szE] at hsz; omega
    have hcx := hx w l _ hE hq hsz1
    have HCY := Lw.hid (fun wx (hy1 : EvS p wx 0 (l ++ (ofF p.env x).l)) (hn : NAt wx (FN p) (.pointer (some ⟨br, 0, none⟩)) y) => hy wx _ _ hy1 hn hszy)
    have HCZ := Lw.hid (fun wx (hy1 : EvS p wx 0 (l ++ (ofF p.env x).l)) (hn : NAt wx (FN p) (.pointer (some ⟨bt, 0, none⟩)) z) => hz wx _ _ hy1 hn hszz)
    obtain ⟨A, hA⟩ : ∃ A, ofF p.env x = A := ⟨_, rfl⟩
    obtain ⟨B, hB⟩ : ∃ B, ofF p.env y = B := ⟨_, rfl⟩
    obtain ⟨C, hC⟩ : ∃ C, ofF p.env z = C := ⟨_, rfl⟩
    rw [hA] at hcx HCY HCZ
    rw [hB] at HCY
    rw [hC] at HCZ
    rw [ofF_cond, hA, hB, hC]
    have HCX := Lw.hid hcx
    obtain ⟨gg, hgg⟩ : ∃ k, p.g = k := ⟨_, rfl⟩
    have HGG := Lw.hid hgg
    rw [hgg] at HCX HCY HCZ ⊢
    clear hE h1 h2 h3 h4 hq hr ht hsz hsz1 hszy hszz lx hcx hA hB hC hgg hx hy hz
    go_enter Tryz.func36, Tryz.ntmps36
    go_wp2_with fail
    refine HCX.out.mono ?_
    rintro e w1 ⟨rfl, he1, k1⟩
    have HE1 := Lw.hid he1; have K1 := Lw.hid k1
    have cc := he1.cells.2.1; rw [HGG.out] at cc
    have v0 := heap_cell (heap_ev H1.out H3.out k1) 0; have v3 := heap_cell (heap_ev H1.out H3.out k1) 3
    have u1 := heap_cell (heap_ev H2.out H4.out k1) 1; have u2 := heap_cell (heap_ev H2.out H4.out k1) 2
    have HR1 := Lw.hid (HR.out.ev k1); have HT1 := Lw.hid (HT.out.ev k1)
    clear he1 k1 y0 y3 z0
    by_cases h0 : A.e = 0
    · have he0 : (((A.e : Nat) : Int) != 0) = false := by simp [h0]
      have he0' : (((A.e : Nat) : Int) == 0) = true := by simp [h0]
      have HE2 : Hid (EvS p w1 0 (l ++ A.l)) := Lw.hid (by have := HE1.out; rw [h0] at this; exact this)
      by_cases hv : A.v = 0
      · have hv1 : (A.v != 0) = false := by simp [hv]
        have hv2 : (A.v == 0) = true := by simp [hv]
        have HW : Hid (condV A B C = ⟨C.v, C.e, A.l ++ C.l⟩) := Lw.hid (by unfold condV; simp [h0, hv])
        clear h0 hv
        go_wp2_with fail
        refine (HCZ.out w1 HE2.out HT1.out).mono ?_
        rintro e w2 h
        have H := Lw.hid (h.on K1.out)
        obtain ⟨rfl, _, _⟩ := h
        go_wp2_with fail
        go_ret
        rw [HW.out]
        exact H.out
      · have hv1 : (A.v != 0) = true := by simp [hv]
        have hv2 : (A.v == 0) = false := by simp [hv]
        have HW : Hid (condV A B C = ⟨B.v, B.e, A.l ++ B.l⟩) := Lw.hid (by unfold condV; simp [h0, hv])
        clear h0 hv
        go_wp2_with fail
        refine (HCY.out w1 HE2.out HR1.out).mono ?_
        rintro e w2 h
        have H := Lw.hid (h.on K1.out)
        obtain ⟨rfl, _, _⟩ := h
        go_wp2_with fail
        go_ret
        rw [HW.out]
        exact H.out
    · have he0 : (((A.e : Nat) : Int) != 0) = true := by simp [h0]
      have he0' : (((A.e : Nat) : Int) == 0) = false := by simp [h0]
      have HW : Hid (condV A B C = ⟨0, A.e, A.l⟩) := Lw.hid (by unfold condV; simp [h0])
      clear h0
      go_wp2_with fail
      go_ret
      rw [HW.out]
      exact .mk0 rfl HE1.out K1.out
set_option maxHeartbeats 8000000 in
theorem bt_binA (p : EP) (sg : List UInt8) (x y : Ex) (hsg : sg = [38, 38]) (hx : OfC p x) (hy : OfC p y) : BtC p (.bin sg x y) := by
  intro w l v hE hN hsz
  cases hN with
  | bin b k _ q r _ _ hg0 h1 h2 h3 h4 hq hr =>
    have y0 := heap_cell h1 0; have y3 := heap_cell h1 3; have z0 := heap_cell h2 0
    have H1 := Lw.hid h1; have H2 := Lw.hid h2; have H3 := Lw.hid h3; have H4 := Lw.hid h4
    have HQ := Lw.hid hq; have HR := Lw.hid hr
    obtain ⟨bq, rfl, _⟩ := hq.ptr
    obtain ⟨br, rfl, _⟩ := hr.ptr
    have lx := of_len p.env x
    have hsz1 : l.length + szE x ≤ 3000000 := by simp only [szE] at hsz; omega
    have hszy : (l ++ (ofF p.env x).l).length + szE y ≤ 3000000 := by rw [List.length_append]; simp only [szE] at hsz; omega
    have hcx := hx w l _ hE hq hsz1
    have HCY := Lw.hid (fun wx (hy1 : EvS p wx 0 (l ++ (ofF p.env x).l)) (hn : NAt wx (FN p) (.pointer (some ⟨br, 0, none⟩)) y) => hy wx _ _ hy1 hn hszy)
    obtain ⟨A, hA⟩ : ∃ A, ofF p.env x = A := ⟨_, rfl⟩
    obtain ⟨B, hB⟩ : ∃ B, ofF p.env y = B := ⟨_, rfl⟩
    rw [hA] at hcx HCY
    rw [hB] at HCY
    rw [ofF_bin, hA, hB]
    have HSG := Lw.hid hsg
    have hq63 : (BA sg == (⟨#[63]⟩ : ByteArray)) = false := beq63 (by rw [hsg]; decide)
    have hs63 : (sg == [63]) = false := by rw [hsg]; rfl
    have hs38 : (sg == [38, 38]) = true := by rw [hsg]; rfl
    have hq38 : (BA sg == (⟨#[38, 38]⟩ : ByteArray)) = true := by rw [hsg]; exact (BA_beq _ _).trans (by decide)
    clear hsg
    have HCX := Lw.hid hcx
    obtain ⟨gg, hgg⟩ : ∃ k, p.g = k := ⟨_, rfl⟩
    have HGG := Lw.hid hgg
    rw [hgg] at HCX HCY ⊢
    clear hE h1 h2 h3 h4 hq hr hsz hsz1 hszy lx hcx hA hB hgg hx hy hg0
    go_enter Tryz.func36, Tryz.ntmps36
    go_wp2_with fail
    refine HCX.out.mono ?_
    rintro e w1 ⟨rfl, he1, k1⟩
    have HE1 := Lw.hid he1; have K1 := Lw.hid k1
    have cc := he1.cells.2.1; rw [HGG.out] at cc
    have v0 := heap_cell (heap_ev H1.out H3.out k1) 0; have v3 := heap_cell (heap_ev H1.out H3.out k1) 3
    have u1 := heap_cell (heap_ev H2.out H4.out k1) 1
    have HR1 := Lw.hid (HR.out.ev k1)
    clear he1 k1 y0 y3 z0
    by_cases h0 : A.e = 0
    · have he0 : (((A.e : Nat) : Int) != 0) = false := by simp [h0]
      have he0' : (((A.e : Nat) : Int) == 0) = true := by simp [h0]
      have HE2 : Hid (EvS p w1 0 (l ++ A.l)) := Lw.hid (by have := HE1.out; rw [h0] at this; exact this)
      by_cases hv : A.v = 0
      · have hv1 : (A.v != 0) = false := by simp [hv]
        have hv2 : (A.v == 0) = true := by simp [hv]
        have HW : Hid (binV sg A B = ⟨0, 0, A.l⟩) := Lw.hid (by rw [HSG.out]; unfold binV; simp [h0, hv])
        clear h0 hv
        go_wp2_with fail
        refine (truth_any _ _).mono ?_
        rintro e w2 ⟨rfl, rfl⟩
        go_wp2_with fail
        go_ret
        rw [HW.out]
        exact ⟨rfl, HE2.out, K1.out⟩
      · have hv1 : (A.v != 0) = true := by simp [hv]
        have hv2 : (A.v == 0) = false := by simp [hv]
        have HW : Hid (binV sg A B = ⟨truthI (B.v != 0), B.e, A.l ++ B.l⟩) := Lw.hid (by rw [HSG.out]; unfold binV; simp [h0, hv])
        clear h0 hv
        go_wp2_with fail
        refine (HCY.out w1 HE2.out HR1.out).mono ?_
        rintro e w2 h
        have H := Lw.hid (h.on K1.out)
        obtain ⟨rfl, _, _⟩ := h
        go_wp2_with fail
        refine (truth_any _ (B.v != 0)).mono ?_
        rintro e w2 ⟨rfl, rfl⟩
        go_wp2_with fail
        go_ret
        rw [HW.out]
        exact ⟨rfl, H.out.2.1, H.out.2.2⟩
    · have he0 : (((A.e : Nat) : Int) != 0) = true := by simp [h0]
      have he0' : (((A.e : Nat) : Int) == 0) = false := by simp [h0]
      have HW : Hid (binV sg A B = ⟨0, A.e, A.l⟩) := Lw.hid (by unfold binV; simp [h0])
      clear h0
      go_wp2_with fail
      go_ret
      rw [HW.out]
      exact .mk0 rfl HE1.out K1.out
set_option maxHeartbeats 8000000 in
theorem bt_binO (p : EP) (sg : List UInt8) (x y : Ex) (hsg : sg = [124, 124]) (hx : OfC p x) (hy : OfC p y) : BtC p (.bin sg x y) := by
  intro w l v hE hN hsz
  cases hN with
  | bin b k _ q r _ _ hg0 h1 h2 h3 h4 hq hr =>
    have y0 := heap_cell h1 0; have y3 := heap_cell h1 3; have z0 := heap_cell h2 0
    have H1 := Lw.hid h1; have H2 := Lw.hid h2; have H3 := Lw.hid h3; have H4 := Lw.hid h4
    have HQ := Lw.hid hq; have HR := Lw.hid hr
    obtain ⟨bq, rfl, _⟩ := hq.ptr
    obtain ⟨br, rfl, _⟩ := hr.ptr
    have lx := of_len p.env x
    have hsz1 : l.length + szE x ≤ 3000000 := by simp only [szE] at hsz; omega
    have hszy : (l ++ (ofF p.env x).l).length + szE y ≤ 3000000 := by rw [List.length_append]; simp only [szE] at hsz; omega
    have hcx := hx w l _ hE hq hsz1
    have HCY := Lw.hid (fun wx (hy1 : EvS p wx 0 (l ++ (ofF p.env x).l)) (hn : NAt wx (FN p) (.pointer (some ⟨br, 0, none⟩)) y) => hy wx _ _ hy1 hn hszy)
    obtain ⟨A, hA⟩ : ∃ A, ofF p.env x = A := ⟨_, rfl⟩
    obtain ⟨B, hB⟩ : ∃ B, ofF p.env y = B := ⟨_, rfl⟩
    rw [hA] at hcx HCY
    rw [hB] at HCY
    rw [ofF_bin, hA, hB]
    have HSG := Lw.hid hsg
    have hq63 : (BA sg == (⟨#[63]⟩ : ByteArray)) = false := beq63 (by rw [hsg]; decide)
    have hs63 : (sg == [63]) = false := by rw [hsg]; rfl
    have hs38 : (sg == [38, 38]) = false := by rw [hsg]; rfl
    have hs124 : (sg == [124, 124]) = true := by rw [hsg]; rfl
    have hq38 : (BA sg == (⟨#[38, 38]⟩ : ByteArray)) = false := beq38 (by rw [hsg]; decide)
    have hq124 : (BA sg == (⟨#[124, 124]⟩ : ByteArray)) = true := by rw [hsg]; exact (BA_beq _ _).trans (by decide)
    clear hsg
    have HCX := Lw.hid hcx
    obtain ⟨gg, hgg⟩ : ∃ k, p.g = k := ⟨_, rfl⟩
    have HGG := Lw.hid hgg
    rw [hgg] at HCX HCY ⊢
    clear hE h1 h2 h3 h4 hq hr hsz hsz1 hszy lx hcx hA hB hgg hx hy hg0
    go_enter Tryz.func36, Tryz.ntmps36
    go_wp2_with fail
    refine HCX.out.mono ?_
    rintro e w1 ⟨rfl, he1, k1⟩
    have HE1 := Lw.hid he1; have K1 := Lw.hid k1
    have cc := he1.cells.2.1; rw [HGG.out] at cc
    have v0 := heap_cell (heap_ev H1.out H3.out k1) 0; have v3 := heap_cell (heap_ev H1.out H3.out k1) 3
    have u1 := heap_cell (heap_ev H2.out H4.out k1) 1
    have HR1 := Lw.hid (HR.out.ev k1)
    clear he1 k1 y0 y3 z0
    by_cases h0 : A.e = 0
    · have he0 : (((A.e : Nat) : Int) != 0) = false := by simp [h0]
      have he0' : (((A.e : Nat) : Int) == 0) = true := by simp [h0]
      have HE2 : Hid (EvS p w1 0 (l ++ A.l)) := Lw.hid (by have := HE1.out; rw [h0] at this; exact this)
      by_cases hv : A.v = 0
      · have hv1 : (A.v != 0) = false := by simp [hv]
        have hv2 : (A.v == 0) = true := by simp [hv]
        have HW : Hid (binV sg A B = ⟨truthI (B.v != 0), B.e, A.l ++ B.l⟩) := Lw.hid (by rw [HSG.out]; unfold binV; simp [h0, hv])
        clear h0 hv
        go_wp2_with fail
        refine (HCY.out w1 HE2.out HR1.out).mono ?_
        rintro e w2 h
        have H := Lw.hid (h.on K1.out)
        obtain ⟨rfl, _, _⟩ := h
        go_wp2_with fail
        refine (truth_any _ (B.v != 0)).mono ?_
        rintro e w2 ⟨rfl, rfl⟩
        go_wp2_with fail
        go_ret
        rw [HW.out]
        exact ⟨rfl, H.out.2.1, H.out.2.2⟩
      · have hv1 : (A.v != 0) = true := by simp [hv]
        have hv2 : (A.v == 0) = false := by simp [hv]
        have HW : Hid (binV sg A B = ⟨1, 0, A.l⟩) := Lw.hid (by rw [HSG.out]; unfold binV; simp [h0, hv])
        clear h0 hv
        go_wp2_with fail
        refine (truth_any _ _).mono ?_
        rintro e w2 ⟨rfl, rfl⟩
        go_wp2_with fail
        go_ret
        rw [HW.out]
        exact ⟨rfl, HE2.out, K1.out⟩
    · have he0 : (((A.e : Nat) : Int) != 0) = true := by simp [h0]
      have he0' : (((A.e : Nat) : Int) == 0) = false := by simp [h0]
      have HW : Hid (binV sg A B = ⟨0, A.e, A.l⟩) := Lw.hid (by unfold binV; simp [h0])
      clear h0
      go_wp2_with fail
      go_ret
      rw [HW.out]
      exact .mk0 rfl HE1.out K1.out
set_option maxHeartbeats 8000000 in
theorem bt_binT (p : EP) (sg : List UInt8) (x y : Ex) (hsg : sg ∈ twoL ∧ sg ≠ [38, 38] ∧ sg ≠ [124, 124]) (hx : OfC p x) (hy : OfC p y) : BtC p (.bin sg x y) := by
  intro w l v hE hN hsz
  cases hN with
  | bin b k _ q r _ _ hg0 h1 h2 h3 h4 hq hr =>
    have y0 := heap_cell h1 0; have y3 := heap_cell h1 3; have z0 := heap_cell h2 0
    have H1 := Lw.hid h1; have H2 := Lw.hid h2; have H3 := Lw.hid h3; have H4 := Lw.hid h4
    have HQ := Lw.hid hq; have HR := Lw.hid hr
    obtain ⟨bq, rfl, _⟩ := hq.ptr
    obtain ⟨br, rfl, _⟩ := hr.ptr
    have lx := of_len p.env x
    have hsz1 : l.length + szE x ≤ 3000000 := by simp only [szE] at hsz; omega
    have hszy : (l ++ (ofF p.env x).l).length + szE y ≤ 3000000 := by rw [List.length_append]; simp only [szE] at hsz; omega
    have hcx := hx w l _ hE hq hsz1
    have HCY := Lw.hid (fun wx (hy1 : EvS p wx 0 (l ++ (ofF p.env x).l)) (hn : NAt wx (FN p) (.pointer (some ⟨br, 0, none⟩)) y) => hy wx _ _ hy1 hn hszy)
    obtain ⟨A, hA⟩ : ∃ A, ofF p.env x = A := ⟨_, rfl⟩
    obtain ⟨B, hB⟩ : ∃ B, ofF p.env y = B := ⟨_, rfl⟩
    rw [hA] at hcx HCY
    rw [hB] at HCY
    rw [ofF_bin, hA, hB]
    obtain ⟨hg2, hn38, hn124⟩ := hsg
    have hq63 : (BA sg == (⟨#[63]⟩ : ByteArray)) = false := beq63 (by rintro rfl; exact absurd hg2 (by decide))
    have hs63 : (sg == [63]) = false := beq_eq_false_iff_ne.2 (by rintro rfl; exact absurd hg2 (by decide))
    have hs38 : (sg == [38, 38]) = false := beq_eq_false_iff_ne.2 hn38
    have hs124 : (sg == [124, 124]) = false := beq_eq_false_iff_ne.2 hn124
    have hq38 : (BA sg == (⟨#[38, 38]⟩ : ByteArray)) = false := beq38 hn38
    have hq124 : (BA sg == (⟨#[124, 124]⟩ : ByteArray)) = false := beq124 hn124
    have HWE : Hid (A.e = 0 → B.e ≠ 0 → binV sg A B = ⟨0, B.e, A.l ++ B.l⟩) := Lw.hid (fun h0 h1 => by unfold binV; simp [h0, h1, hn38, hn124])
    have HWO : Hid (A.e = 0 → B.e = 0 → binV sg A B = ⟨(binF sg A.v B.v).1, (binF sg A.v B.v).2, A.l ++ B.l⟩) := Lw.hid (fun h0 h1 => by unfold binV; simp [h0, h1, hn38, hn124])
    have HG2 := Lw.hid hg2
    have HDC := Lw.hid (fun wx => does_calls hg2 wx A.v B.v)
    have ecf := does_enters hg2
    have hgl : sg.length ≤ maxLen := by
      have key : twoL.all (fun g => decide (g.length ≤ 2)) = true := by decide +kernel
      have := of_decide_eq_true (List.all_eq_true.1 key sg hg2)
      unfold maxLen; omega
    clear hn38 hn124 hg2
    have HCX := Lw.hid hcx
    obtain ⟨gg, hgg⟩ : ∃ k, p.g = k := ⟨_, rfl⟩
    have HGG := Lw.hid hgg
    rw [hgg] at HCX HCY ⊢
    clear hE h1 h2 h3 h4 hq hr hsz hsz1 hszy lx hcx hA hB hgg hx hy hg0
    go_enter Tryz.func36, Tryz.ntmps36
    go_wp2_with fail
    refine HCX.out.mono ?_
    rintro e w1 ⟨rfl, he1, k1⟩
    have HE1 := Lw.hid he1; have K1 := Lw.hid k1
    have cc := he1.cells.2.1; rw [HGG.out] at cc
    have v0 := heap_cell (heap_ev H1.out H3.out k1) 0; have v3 := heap_cell (heap_ev H1.out H3.out k1) 3
    have u1 := heap_cell (heap_ev H2.out H4.out k1) 1
    have HR1 := Lw.hid (HR.out.ev k1)
    clear he1 k1 y0 y3 z0
    by_cases h0 : A.e = 0
    · have he0 : (((A.e : Nat) : Int) != 0) = false := by simp [h0]
      have he0' : (((A.e : Nat) : Int) == 0) = true := by simp [h0]
      have HE2 : Hid (EvS p w1 0 (l ++ A.l)) := Lw.hid (by have := HE1.out; rw [h0] at this; exact this)
      have HWE2 := Lw.hid (HWE.out h0); have HWO1 := Lw.hid (HWO.out h0)
      clear h0 HWE HWO
      go_wp2_with fail
      refine (HCY.out w1 HE2.out HR1.out).mono ?_
      rintro e w2 ⟨rfl, he2, k2⟩
      have HE3 := Lw.hid he2; have K4 := Lw.hid (K1.out.tr k2)
      have cd := he2.cells.2.1; rw [HGG.out] at cd
      clear he2 k2 v0 v3 u1 cc
      by_cases h0 : B.e = 0
      · have hf0 : (((B.e : Nat) : Int) != 0) = false := by simp [h0]
        have hf0' : (((B.e : Nat) : Int) == 0) = true := by simp [h0]
        have HE4 : Hid (EvS p w2 0 (l ++ A.l ++ B.l)) := Lw.hid (by have := HE3.out; rw [h0] at this; exact this)
        have HWO := Lw.hid (HWO1.out h0)
        obtain ⟨⟨bv, be⟩, hb⟩ : ∃ V, binF sg A.v B.v = V := ⟨_, rfl⟩
        have HFV : Hid (doesV sg = .func (.func (doesF sg)) #[] #[]) := Lw.hid rfl
        obtain ⟨fk, hfk⟩ : ∃ k, doesF sg = k := ⟨_, rfl⟩
        rw [hb] at HWO HDC
        rw [hfk] at HFV HDC ecf
        unfold twoV at HDC
        simp only at HDC
        clear h0 hb hfk HCY HCX
        go_wp2_with fail
        refine wp_region_late 16 [stV (.pointer (some ⟨gg, 0, none⟩)), stV p.dv, stV (.pointer (some ⟨b, 0, none⟩)), stV (.pointer (some ⟨b, 0, none⟩)), stV (.pointer (some ⟨b, 0, none⟩)), stV (.string (BA sg)), stV (.func (.func fk) #[] #[]), stV (.int .i64 A.v), stV (.int .i64 B.v), stV (.tuple #[.int .i64 bv, .int .i64 (be : Int)]), stV (.tuple #[.int .i64 bv, .int .i64 (be : Int)]), stV (.int .i64 bv), stV (.int .i64 (be : Int)), stV (.int .i64 bv), stV (.pointer (some ⟨gg, 0, none⟩)), stV (.pointer (some ⟨gg, 1, none⟩))] (by kernel_rfl) (by kernel_rfl) ?_ ?_
        · -- each operation by itself
          refine lsteps_cons (fun a' w' hI hag hlt hf K hK => ?_) ?_
          · have s0 := hag.same 0 (by decide)
            clear hlt
            clear hag
            have HI := Lw.hid hI
            clear hI
            go_wp2_with fail
            exact hK _ _ HI.out (Kept.refl _ _) rfl
          refine lsteps_cons (fun a' w' hI hag hlt hf K hK => ?_) ?_
          · clear hlt
            clear hag
            have HI := Lw.hid hI
            have cc2 := (HE4.out.same hI).dcell
            clear hI
            go_wp2_with fail
            exact hK _ _ HI.out (Kept.refl _ _) rfl
          refine lsteps_cons (fun a' w' hI hag hlt hf K hK => ?_) ?_
          · have s1 := hag.same 1 (by decide)
            clear hlt
            clear hag
            have HI := Lw.hid hI
            clear hI
            go_wp2_with fail
            exact hK _ _ HI.out (Kept.refl _ _) rfl
          refine lsteps_cons (fun a' w' hI hag hlt hf K hK => ?_) ?_
          · obtain ⟨⟨_, h2, rfl⟩, -⟩ : SFacts _ _ a' w' [2] := hf
            clear hlt
            clear hag
            have HI := Lw.hid hI
            clear hI
            go_wp2_with fail
            exact hK _ _ HI.out (Kept.refl _ _) rfl
          refine lsteps_cons (fun a' w' hI hag hlt hf K hK => ?_) ?_
          · obtain ⟨⟨_, h3, rfl⟩, -⟩ : SFacts _ _ a' w' [3] := hf
            clear hlt
            clear hag
            have HI := Lw.hid hI
            clear hI
            go_wp2_with fail
            exact hK _ _ HI.out (Kept.refl _ _) rfl
          refine lsteps_cons (fun a' w' hI hag hlt hf K hK => ?_) ?_
          · obtain ⟨⟨_, h4, rfl⟩, -⟩ : SFacts _ _ a' w' [4] := hf
            clear hlt
            clear hag
            have HI := Lw.hid hI
            have cc2 := heap_cell (heap_ev H1.out H3.out (KE.tr K4.out (KE.of hI))) 0
            clear hI
            go_wp2_with fail
            exact hK _ _ HI.out (Kept.refl _ _) rfl
          refine lsteps_cons (fun a' w' hI hag hlt hf K hK => ?_) ?_
          · obtain ⟨⟨_, h1, rfl⟩, ⟨_, h5, rfl⟩, -⟩ : SFacts _ _ a' w' [1, 5] := hf
            clear hlt
            clear hag
            have HI := Lw.hid hI
            have hrun := (HE4.out.same hI).dlook.runs w' (fun _ _ => rfl) sg HG2.out hgl; rw [HFV.out] at hrun
            clear hI
            go_wp2_with fail
            exact hK _ _ HI.out (Kept.refl _ _) rfl
          refine lsteps_cons (fun a' w' hI hag hlt hf K hK => ?_) ?_
          · have s5 := hlt 13 _ 5 rfl rfl (by kernel_rfl)
            clear hlt
            clear hag
            have HI := Lw.hid hI
            clear hI
            go_wp2_with fail
            exact hK _ _ HI.out (Kept.refl _ _) rfl
          refine lsteps_cons (fun a' w' hI hag hlt hf K hK => ?_) ?_
          · have s6 := hag.same 6 (by decide)
            clear hlt
            clear hag
            have HI := Lw.hid hI
            clear hI
            go_wp2_with fail
            exact hK _ _ HI.out (Kept.refl _ _) rfl
          refine lsteps_cons (fun a' w' hI hag hlt hf K hK => ?_) ?_
          · obtain ⟨⟨_, h6, rfl⟩, ⟨_, h7, rfl⟩, ⟨_, h8, rfl⟩, -⟩ : SFacts _ _ a' w' [6, 7, 8] := hf
            clear hlt
            clear hag
            have HI := Lw.hid hI
            clear hI
            go_wp2_with fail
            refine (HDC.out w').mono ?_
            rintro x w9 ⟨rfl, k9⟩
            have K9 := Lw.hid k9
            clear k9
            go_wp2_with fail
            exact hK _ _ (HI.out.trans K9.out (fun _ _ h => h)) K9.out rfl
          refine lsteps_cons (fun a' w' hI hag hlt hf K hK => ?_) ?_
          · obtain ⟨⟨_, h9, rfl⟩, -⟩ : SFacts _ _ a' w' [9] := hf
            clear hlt
            clear hag
            have HI := Lw.hid hI
            clear hI
            go_wp2_with fail
            exact hK _ _ HI.out (Kept.refl _ _) rfl
          refine lsteps_cons (fun a' w' hI hag hlt hf K hK => ?_) ?_
          · obtain ⟨⟨_, h10, rfl⟩, -⟩ : SFacts _ _ a' w' [10] := hf
            clear hlt
            clear hag
            have HI := Lw.hid hI
            clear hI
            go_wp2_with fail
            exact hK _ _ HI.out (Kept.refl _ _) rfl
          refine lsteps_cons (fun a' w' hI hag hlt hf K hK => ?_) ?_
          · obtain ⟨⟨_, h10, rfl⟩, -⟩ : SFacts _ _ a' w' [10] := hf
            clear hlt
            clear hag
            have HI := Lw.hid hI
            clear hI
            go_wp2_with fail
            exact hK _ _ HI.out (Kept.refl _ _) rfl
          refine lsteps_cons (fun a' w' hI hag hlt hf K hK => ?_) ?_
          · obtain ⟨⟨_, h11, rfl⟩, -⟩ : SFacts _ _ a' w' [11, 9, 1, 2, 3, 4, 5, 6, 7, 8, 10] := hf
            clear hlt
            clear hag
            have HI := Lw.hid hI
            clear hI
            go_wp2_with fail
            exact hK _ _ HI.out (Kept.refl _ _) rfl
          refine lsteps_cons (fun a' w' hI hag hlt hf K hK => ?_) ?_
          · obtain ⟨⟨_, h0, rfl⟩, -⟩ : SFacts _ _ a' w' [0, 1, 2, 3, 4, 5, 6, 7, 8, 9, 10, 11, 12, 13] := hf
            clear hlt
            clear hag
            have HI := Lw.hid hI
            clear hI
            go_wp2_with fail
            exact hK _ _ HI.out (Kept.refl _ _) rfl
          refine lsteps_cons (fun a' w' hI hag hlt hf K hK => ?_) ?_
          · obtain ⟨⟨_, h14, rfl⟩, -⟩ : SFacts _ _ a' w' [14, 0, 1, 2, 3, 4, 5, 6, 7, 8, 9, 10, 11, 12, 13] := hf
            clear hlt
            clear hag
            have HI := Lw.hid hI
            clear hI
            go_wp2_with fail
            exact hK _ _ HI.out (Kept.refl _ _) rfl
          exact trivial
        · intro vs w9 hI hvs
          have q0 : vs 0 = (.pointer (some ⟨gg, 0, none⟩)) := hvs 0 _ _ rfl rfl
          have q1 : vs 1 = p.dv := hvs 1 _ _ rfl rfl
          have q2 : vs 2 = (.pointer (some ⟨b, 0, none⟩)) := hvs 2 _ _ rfl rfl
          have q3 : vs 3 = (.pointer (some ⟨b, 0, none⟩)) := hvs 3 _ _ rfl rfl
          have q4 : vs 4 = (.pointer (some ⟨b, 0, none⟩)) := hvs 4 _ _ rfl rfl
          have q5 : vs 5 = (.string (BA sg)) := hvs 5 _ _ rfl rfl
          have q6 : vs 6 = (.func (.func fk) #[] #[]) := hvs 6 _ _ rfl rfl
          have q7 : vs 7 = (.int .i64 A.v) := hvs 7 _ _ rfl rfl
          have q8 : vs 8 = (.int .i64 B.v) := hvs 8 _ _ rfl rfl
          have q9 : vs 9 = (.tuple #[.int .i64 bv, .int .i64 (be : Int)]) := hvs 9 _ _ rfl rfl
          have q10 : vs 10 = (.tuple #[.int .i64 bv, .int .i64 (be : Int)]) := hvs 10 _ _ rfl rfl
          have q11 : vs 11 = (.int .i64 bv) := hvs 11 _ _ rfl rfl
          have q12 : vs 12 = (.int .i64 (be : Int)) := hvs 12 _ _ rfl rfl
          have q13 : vs 13 = (.int .i64 bv) := hvs 13 _ _ rfl rfl
          have q14 : vs 14 = (.pointer (some ⟨gg, 0, none⟩)) := hvs 14 _ _ rfl rfl
          have q15 : vs 15 = (.pointer (some ⟨gg, 1, none⟩)) := hvs 15 _ _ rfl rfl
          clear hvs
          simp only [List.take_succ_cons, List.take_zero, List.drop_succ_cons, List.drop_zero, putAll, Act.put, List.setIfInBounds_toArray, List.set_cons_zero, List.set_cons_succ, Nat.reduceAdd, q0, q1, q2, q3, q4, q5, q6, q7, q8, q9, q10, q11, q12, q13, q14, q15]
          clear q0 q1 q2 q3 q4 q5 q6 q7 q8 q9 q10 q11 q12 q13 q14 q15
          have HE9 := Lw.hid (HE4.out.same hI)
          have HK9 := Lw.hid (KE.tr K4.out (KE.of hI))
          have cc9 := HE9.out.cells.2; rw [HGG.out] at cc9
          obtain ⟨cc1, cf1⟩ := cc9
          have HST := Lw.hid (HE9.out.setE (be : Int)); have HKS := Lw.hid (HK9.out.setE (.int .i64 (be : Int)))
          rw [HGG.out] at HST HKS
          clear hI
          go_wp2_with fail
          go_ret
          rw [HWO.out]
          exact ⟨rfl, by rw [← List.append_assoc]; exact HST.out, HKS.out⟩
      · have hf0 : (((B.e : Nat) : Int) != 0) = true := by simp [h0]
        have hf0' : (((B.e : Nat) : Int) == 0) = false := by simp [h0]
        have HW := Lw.hid (HWE2.out h0)
        clear h0
        go_wp2_with fail
        go_ret
        rw [HW.out]
        exact ⟨rfl, by rw [← List.append_assoc]; exact HE3.out, K4.out⟩
    · have he0 : (((A.e : Nat) : Int) != 0) = true := by simp [h0]
      have he0' : (((A.e : Nat) : Int) == 0) = false := by simp [h0]
      have HW : Hid (binV sg A B = ⟨0, A.e, A.l⟩) := Lw.hid (by unfold binV; simp [h0])
      clear h0
      go_wp2_with fail
      go_ret
      rw [HW.out]
      exact .mk0 rfl HE1.out K1.out
/-- All expressions. -/
theorem of_any (p : EP) : ∀ x : Ex, OfC p x
  | .num n => of_num p n
  | .name s => of_name p s
  | .un g a => of_un p g a (of_any p a)
  | .cond x y z => of_cond p x y z (bt_cond p x y z (of_any p x) (of_any p y) (of_any p z))
  | .bin g x y => by
    have hx := of_any p x; have hy := of_any p y
    intro w l v hE hN hsz
    have hg : ∃ j, j < 10 ∧ g ∈ rowsL.getD j [] := by cases hN with | bin b k _ q r _ _ hg => exact hg
    rcases rows_two hg with h | h | h
    · exact of_bin p g x y (bt_binA p g x y h hx hy) w l v hE hN hsz
    · exact of_bin p g x y (bt_binO p g x y h hx hy) w l v hE hN hsz
    · exact of_bin p g x y (bt_binT p g x y h hx hy) w l v hE hN hsz
end Go.Proofs.YtoedopgjonhemaaGreatDoor
