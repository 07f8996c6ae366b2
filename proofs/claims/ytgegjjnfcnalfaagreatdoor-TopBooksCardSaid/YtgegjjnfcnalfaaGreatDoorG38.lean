/- Of the proof of TopBooks: QC. -/
import Derived.Test.YtgegjjnfcnalfaaGreatDoorG37
import Derived.Test.YtgegjjnfcnalfaaGreatDoorG25
import Derived.Test.YtgegjjnfcnalfaaGreatDoorG30
import Derived.Test.YtgegjjnfcnalfaaGreatDoorG32
namespace Go.Proofs.YtgegjjnfcnalfaaGreatDoor
open Go Go.RowKit Go.Lw
set_option maxRecDepth 100000
set_option linter.unusedVariables false
set_option linter.unusedSimpArgs false
attribute [local go_sem] BA_toList
def RS (lo hi : Nat) (w : World) (br : Nat) (l : List UInt8) : Prop := ∃ v, ReaderAt w br v ⟨l, false⟩ ∧ (lo ≤ br ∧ br < hi) ∧ ∀ k, blk v k → lo ≤ k ∧ k < hi
theorem RS.kept {lo hi : Nat} {w w' : World} {br : Nat} {l : List UInt8} {S : Nat → Prop} (h : RS lo hi w br l) (k : Kept S w w') (hS : ∀ i, lo ≤ i → i < hi → ¬ S i) : RS lo hi w' br l := by
  obtain ⟨v, h1, h2, h3⟩ := h
  exact ⟨v, h1.kept k (hS _ h2.1 h2.2) (fun i hi => hS i (h3 i hi).1 (h3 i hi).2), h2, h3⟩
theorem RS.post {lo hi : Nat} {w w' : World} {br : Nat} {v : Value} {l : List UInt8} (hb : lo ≤ br ∧ br < hi) (hv : ∀ k, blk v k → lo ≤ k ∧ k < hi) (h : RdPost w w' br v ⟨l, false⟩) : RS lo hi w' br l ∧ Kept (fun k => k = br) w w' := by
  obtain ⟨v', h1, h2, h3⟩ := h
  exact ⟨⟨v', h1, hb, fun k hk => hv k (h3 k hk)⟩, h2⟩
theorem rs_new (w : World) (src : Value) (l : List UInt8) (hs : RdB w src l) (hlen : l.length ≤ 1000000) :
    Calls Tryz.prog 58 #[src] w fun e w' => ∃ br, e = .returned (.pointer (some ⟨br, 0, none⟩)) ∧ RS w.heap.size w'.heap.size w' br l ∧ Kept (fun _ => False) w w' := by
  refine (new_any w src l hs (by omega)).mono ?_
  rintro e w' ⟨br, v, rfl, h1, h2, h3, h4⟩
  exact ⟨br, rfl, ⟨v, h1, ⟨h3, h1.lt⟩, h4⟩, h2⟩
theorem rs_byte (lo hi : Nat) (w : World) (br : Nat) (c : UInt8) (l : List UInt8) (h : RS lo hi w br (c :: l)) :
    Calls Tryz.prog 59 #[.pointer (some ⟨br, 0, none⟩)] w fun e w' => e = .returned (.int .u8 (c.toNat : Int)) ∧ RS lo hi w' br l ∧ Kept (fun k => k = br) w w' := by
  obtain ⟨v, h1, h2, h3⟩ := h
  refine (rbyte_any w br v _ h1).mono ?_
  have e1 : (Rdr.mk (c :: l) false).num 1 = (c.toNat, ⟨l, false⟩) := by
    unfold Rdr.num
    rw [take_in 1 rfl (by simp)]
    simp [beVal]
  rw [e1]
  rintro e w' ⟨rfl, hp⟩
  exact ⟨rfl, RS.post h2 h3 hp⟩
theorem rs_four (lo hi : Nat) (w : World) (br : Nat) (n : Nat) (hn : n < 4294967296) (l : List UInt8) (h : RS lo hi w br (be 4 n ++ l)) :
    Calls Tryz.prog 60 #[.pointer (some ⟨br, 0, none⟩)] w fun e w' => e = .returned (.int .u32 (n : Int)) ∧ RS lo hi w' br l ∧ Kept (fun k => k = br) w w' := by
  obtain ⟨v, h1, h2, h3⟩ := h
  refine (rfour_any w br v _ h1).mono ?_
  have hl := be_length 4 n
  have e1 : (Rdr.mk (be 4 n ++ l) false).num 4 = (n, ⟨l, false⟩) := by
    unfold Rdr.num
    rw [take_in 4 rfl (by simp [hl])]
    simp only [List.take_append_of_le_length (Nat.le_of_eq hl.symm), List.take_of_length_le (Nat.le_of_eq hl), List.drop_append, List.drop_of_length_le (Nat.le_of_eq hl), hl, Nat.sub_self, List.drop_zero, List.nil_append, beVal_be]
    rw [Nat.mod_eq_of_lt (by omega)]
  rw [e1]
  rintro e w' ⟨rfl, hp⟩
  exact ⟨rfl, RS.post h2 h3 hp⟩
theorem rs_text (lo hi : Nat) (w : World) (br : Nat) (t l : List UInt8) (ht : t.length ≤ 60) (h : RS lo hi w br (be 2 t.length ++ t ++ l)) :
    Calls Tryz.prog 61 #[.pointer (some ⟨br, 0, none⟩)] w fun e w' => e = .returned (.string (BA t)) ∧ RS lo hi w' br l ∧ Kept (fun k => k = br) w w' := by
  obtain ⟨v, h1, h2, h3⟩ := h
  refine (rtext_any w br v _ h1).mono ?_
  have hl := be_length 2 t.length
  have e1 : (Rdr.mk (be 2 t.length ++ t ++ l) false).num 2 = (t.length, ⟨t ++ l, false⟩) := by
    unfold Rdr.num
    rw [take_in 2 rfl (by simp [hl]), List.append_assoc]
    show (beVal ((be 2 t.length ++ (t ++ l)).take 2), Rdr.mk ((be 2 t.length ++ (t ++ l)).drop 2) false) = _
    rw [List.take_left' hl, List.drop_left' hl, beVal_be, Nat.mod_eq_of_lt (by omega)]
  have e2 : (Rdr.mk (be 2 t.length ++ t ++ l) false).text = (t, ⟨l, false⟩) := by
    unfold Rdr.text
    rw [e1]
    show (Rdr.mk (t ++ l) false).take t.length = _
    rw [take_in _ rfl (by simp)]
    simp
  rw [e2]
  rintro e w' ⟨rfl, hp⟩
  exact ⟨rfl, RS.post h2 h3 hp⟩
theorem rs_rest (lo hi : Nat) (w : World) (br : Nat) (l : List UInt8) (h : RS lo hi w br l) :
    Calls Tryz.prog 63 #[.pointer (some ⟨br, 0, none⟩)] w fun e w' => ∃ out, e = .returned out ∧ RdB w' out l ∧ RS lo hi w' br [] ∧ Kept (fun k => k = br) w w' ∧ ∀ k, blk out k → w.heap.size ≤ k := by
  obtain ⟨v, h1, h2, h3⟩ := h
  refine (rest_any w br v _ h1).mono ?_
  have e1 : (Rdr.mk l false).take (Rdr.mk l false).l.length = (l, ⟨[], false⟩) := by
    rw [take_in _ rfl (Nat.le_refl _)]
    simp
  rw [e1]
  rintro e w' ⟨out, rfl, hr, hp, hb⟩
  obtain ⟨h4, h5⟩ := RS.post h2 h3 hp
  exact ⟨out, rfl, hr, h4, h5, hb⟩
theorem rs_err (lo hi : Nat) (w : World) (br : Nat) (l : List UInt8) (h : RS lo hi w br l) :
    Calls Tryz.prog 64 #[.pointer (some ⟨br, 0, none⟩)] w fun e w' => e = .returned (.int .i64 0) ∧ w = w' := by
  obtain ⟨v, h1, h2, h3⟩ := h
  exact err_any w br v _ h1
theorem rs_left (lo hi : Nat) (w : World) (br : Nat) (h : RS lo hi w br []) :
    Calls Tryz.prog 65 #[.pointer (some ⟨br, 0, none⟩)] w fun e w' => e = .returned (.int .i64 0) ∧ w = w' := by
  obtain ⟨v, h1, h2, h3⟩ := h
  exact left_any w br v _ h1
theorem StAt.setf {w : World} {F G : Nat → Prop} {g ft : Nat} {st : Int} {o : Option (List UInt8)} (h : StAt w F g st o) (ht : TrAt w G ft) (hG : ∀ k, G k → ¬ F k) : StAt (w.setCell ⟨g, 1, none⟩ (.pointer (some ⟨ft, 0, none⟩))) (fun k => F k ∨ G k) g st o ∧ Kept F w (w.setCell ⟨g, 1, none⟩ (.pointer (some ⟨ft, 0, none⟩))) := by
  obtain ⟨f0, m, h1, h2, h3, h4, h5, h6⟩ := h.mem
  have k : Kept (fun k => k = g) w (w.setCell ⟨g, 1, none⟩ (.pointer (some ⟨ft, 0, none⟩))) := (Kept.refl (fun k => k = g) w).set g 1 (fun _ => rfl) _
  refine ⟨⟨ft, m, heap_set h1 1 _, (ht.kept k (fun b hb e => hG b hb (by rw [e]; exact h4))).mono (fun b _ hb => ⟨.inr hb, fun e => hG b hb (by rw [e]; exact h4), fun e => hG b hb (by rw [e]; exact h5)⟩), h3.kept k h6, .inl h4, .inl h5, h6⟩, k.mono (fun i _ e => by rw [e]; exact h4)⟩
set_option maxHeartbeats 8000000 in
theorem sparse_any (w : World) (v : Value) (n : Nat) (t : List UInt8) (hn : n < 256) (ht : t.length ≤ 60) (hv : RdB w v (stateB n (some t))) (hm : MLx w) : Calls Tryz.prog 62 #[v] w fun e w' => ∃ g, e = .returned (.tuple #[.pointer (some ⟨g, 0, none⟩), .int .i64 0]) ∧ StAt w' (fun b => w.heap.size ≤ b) g (n : Int) (some t) ∧ Kept (fun _ => False) w w' := by
  have hsl : (stateB n (some t)).length ≤ 5000 := stateB_len n (some t) (fun u hu => by cases hu; omega)
  obtain ⟨ad, cap, rfl, hc1, hc2, _⟩ := hv.open
  have HV := Lw.hid hv; have HM := Lw.hid hm
  clear hv hm
  obtain ⟨L, hL⟩ : ∃ L, stateB n (some t) = L := ⟨_, rfl⟩
  have HL := Lw.hid hL
  rw [hL] at HV hc1 hsl ⊢
  obtain ⟨sl, hsl2⟩ : ∃ sl, L.length = sl := ⟨_, rfl⟩
  have HSL := Lw.hid hsl2
  rw [hsl2] at HV hc1 hsl ⊢
  clear hL hsl2
  go_enter Tryz.func62, Tryz.ntmps62
  go_wp2_with fail
  refine (rs_new w _ L HV.out (by rw [HSL.out]; omega)).mono ?_
  rintro e w1 ⟨br, rfl, hr1, k1⟩
  obtain ⟨hi, hhi⟩ : ∃ hi, w1.heap.size = hi := ⟨_, rfl⟩
  rw [hhi] at hr1
  have hrl : stateB n (some t) = UInt8.ofNat n :: 1 :: (be 2 ([118] : List UInt8).length ++ [118] ++ (be 2 t.length ++ t ++ (0 :: treeB))) := by
    simp [stateB, headB, varB, keysO]
  rw [← HL.out, hrl] at hr1
  have R1 := Lw.hid hr1; have K1 := Lw.hid k1; have HHI := Lw.hid hhi
  have hbh : w.heap.size ≤ br ∧ br < hi := by obtain ⟨_, _, h, _⟩ := hr1; exact h
  clear hr1 k1 hhi hrl
  go_wp2_with fail
  refine (snew_any w1).mono ?_
  rintro e w2 ⟨g, rfl, hs2, k2⟩
  rw [HHI.out] at hs2
  have S2 := Lw.hid hs2; have R2 := Lw.hid (R1.out.kept k2 (fun _ _ _ h => h)); have K2 := Lw.hid (K1.out.trans k2 (fun _ _ h => h))
  clear hs2 k2
  go_wp2_with fail
  refine (rs_byte _ _ w2 br _ _ R2.out).mono ?_
  rintro e w3 ⟨rfl, hr3, k3⟩
  have hs3 := S2.out.kept k3 (fun b hb e => by omega)
  have hnn : (UInt8.ofNat n).toNat = n := by simp [UInt8.toNat_ofNat', Nat.mod_eq_of_lt hn]
  rw [hnn]
  obtain ⟨ft0, m0, hb3, -, -, -, -, -⟩ := hs3.mem
  have c0 := heap_cell hb3 0; have f0 := heap_free hb3 0
  obtain ⟨hs4, k4⟩ := hs3.sets (n : Int)
  have S4 := Lw.hid hs4
  have R4 := Lw.hid (hr3.kept k4 (fun i h1 h2 h3 => by omega))
  have K4 : Hid (Kept (fun _ => False) w (w3.setCell ⟨g, 0, none⟩ (.int .i64 (n : Int)))) := Lw.hid ((K2.out.trans k3 (fun i hi e => by omega)).trans k4 (fun i hi e => by omega))
  obtain ⟨w4, hw4⟩ : ∃ w4, w3.setCell ⟨g, 0, none⟩ (.int .i64 (n : Int)) = w4 := ⟨_, rfl⟩
  rw [hw4] at S4 R4 K4
  have HW4 := Lw.hid hw4
  clear hs3 hr3 k3 hb3 hs4 k4 hw4 hnn
  go_wp2_with fail
  rw [HW4.out]
  refine (rs_byte _ _ w4 br _ _ R4.out).mono ?_
  rintro e w5 ⟨rfl, hr5, k5⟩
  have S5 := Lw.hid (S4.out.kept k5 (fun b hb e => by omega)); have R5 := Lw.hid hr5
  have K5 : Hid (Kept (fun _ => False) w w5) := Lw.hid (K4.out.trans k5 (fun i hi e => by omega))
  clear hr5 k5 c0 f0
  go_wp2_with fail
  refine wp_loop_rounds 2 ?_
  rw [rounds_succ]
  go_wp2_with fail
  refine (rs_text _ _ w5 br _ _ (by decide) R5.out).mono ?_
  rintro e w6 ⟨rfl, hr6, k6⟩
  have S6 := Lw.hid (S5.out.kept k6 (fun b hb e => by omega)); have R6 := Lw.hid hr6
  have K6 : Hid (Kept (fun _ => False) w w6) := Lw.hid (K5.out.trans k6 (fun i hi e => by omega))
  clear hr6 k6
  go_wp2_with fail
  refine (rs_text _ _ w6 br t _ ht R6.out).mono ?_
  rintro e w7 ⟨rfl, hr7, k7⟩
  have S7 := Lw.hid (S6.out.kept k7 (fun b hb e => by omega)); have R7 := Lw.hid hr7
  have K7 : Hid (Kept (fun _ => False) w w7) := Lw.hid (K6.out.trans k7 (fun i hi e => by omega))
  clear hr7 k7
  go_wp2_with fail
  refine (rs_byte _ _ w7 br _ _ R7.out).mono ?_
  rintro e w8 ⟨rfl, hr8, k8⟩
  have S8 := Lw.hid (S7.out.kept k8 (fun b hb e => by omega)); have R8 := Lw.hid hr8
  have K8 : Hid (Kept (fun _ => False) w w8) := Lw.hid (K7.out.trans k8 (fun i hi e => by omega))
  clear hr8 k8
  go_wp2_with fail
  refine (rs_err _ _ w8 br _ R8.out).mono ?_
  rintro e _ ⟨rfl, rfl⟩
  go_wp2_with fail
  refine (sset_any w8 _ g _ _ t S8.out (by omega)).mono ?_
  rintro e w9 ⟨rfl, hs9, k9⟩
  have S9 := Lw.hid hs9; have R9 := Lw.hid (R8.out.kept k9 (fun i h1 h2 h3 => by omega))
  have K9 : Hid (Kept (fun _ => False) w w9) := Lw.hid (K8.out.trans k9 (fun i hi e => by omega))
  clear hs9 k9
  go_wp2_with fail
  rw [rounds_succ]
  go_wp2_with fail
  refine (rs_rest _ _ w9 br _ R9.out).mono ?_
  rintro e wa ⟨out, rfl, hro, hra, ka, -⟩
  have SA := Lw.hid (S9.out.kept ka (fun b hb e => by omega)); have RA := Lw.hid hra; have RO := Lw.hid hro
  have KA : Hid (Kept (fun _ => False) w wa) := Lw.hid (K9.out.trans ka (fun i hi e => by omega))
  obtain ⟨ado, capo, hoe, _, _, _⟩ := hro.open
  rw [show treeB.length = 5 from rfl] at hoe
  subst hoe
  clear hra ka hro
  go_wp2_with fail
  refine (fparse_any wa _ RO.out (HM.out.kept KA.out (fun h => h))).mono ?_
  rintro e wb ⟨ft, rfl, htb, kb⟩
  have SB := Lw.hid ((SA.out.mono (G := fun b => hi ≤ b ∧ b < wa.heap.size) (fun b hb h => ⟨h, hb⟩)).kept kb (fun _ _ h => h)); have RB := Lw.hid (RA.out.kept kb (fun _ _ _ h => h)); have TB := Lw.hid htb
  have KB := Lw.hid (KA.out.trans kb (fun _ _ h => h))
  have hsza : hi ≤ wa.heap.size := by obtain ⟨_, _, h, _⟩ := SB.out.mem; have := heap_lt h; obtain ⟨_, _, _, _, _, h4, _⟩ := SB.out.mem; omega
  clear htb kb
  go_wp2_with fail
  refine (rs_err _ _ wb br _ RB.out).mono ?_
  rintro e _ ⟨rfl, rfl⟩
  obtain ⟨ft1, m1, hb1, -, -, -, -, -⟩ := SB.out.mem
  have c1 := heap_cell hb1 1; have f1 := heap_free hb1 1
  obtain ⟨hsc, kc⟩ := SB.out.setf TB.out (fun k h1 h2 => by omega)
  have SC := Lw.hid (hsc.mono (G := fun b => hi ≤ b) (fun b hb h => by omega))
  have KC : Hid (Kept (fun _ => False) w (wb.setCell ⟨g, 1, none⟩ (.pointer (some ⟨ft, 0, none⟩)))) := Lw.hid (KB.out.trans kc (fun i hi e => by omega))
  obtain ⟨wc, hwc⟩ : ∃ wc, wb.setCell ⟨g, 1, none⟩ (.pointer (some ⟨ft, 0, none⟩)) = wc := ⟨_, rfl⟩
  rw [hwc] at SC KC
  have HWC := Lw.hid hwc
  clear hb1 hsc kc hwc
  go_wp2_with fail
  rw [HWC.out]
  refine (sbytes_any wc _ g n (some t) SC.out hn (fun u hu => by cases hu; omega)).mono ?_
  rintro e wd ⟨vb, rfl, ⟨hod, -⟩, kd⟩
  have SD := Lw.hid (SC.out.kept kd (fun _ _ h => h)); have KD := Lw.hid (KC.out.trans kd (fun _ _ h => h)); have OD := Lw.hid hod
  rw [HL.out] at hod
  rw [HSL.out] at hod
  obtain ⟨add, capd, hve, _, _, _⟩ := own_slice hod
  subst hve
  clear hod kd c1 f1
  go_wp2_with fail
  refine (sleq_any wd _ _ L L (RdB.of_own (by rw [← HL.out]; exact OD.out) (by rw [HL.out]; try exact HSL.out)) (HV.out.kept KD.out (fun _ _ h => h)) true (by simp)).mono ?_
  rintro e we ⟨rfl, ke⟩
  have SE := Lw.hid (SD.out.kept ke (fun _ _ h => h)); have KE := Lw.hid (KD.out.trans ke (fun _ _ h => h))
  clear ke
  go_wp2_with fail
  exact bodyPost_ret (v := .tuple #[.pointer (some ⟨g, 0, none⟩), .int .i64 0]) (by simp [results, go_sem]) rfl ⟨g, rfl, SE.out.mono (fun b hb h => by omega), KE.out⟩
end Go.Proofs.YtgegjjnfcnalfaaGreatDoor
