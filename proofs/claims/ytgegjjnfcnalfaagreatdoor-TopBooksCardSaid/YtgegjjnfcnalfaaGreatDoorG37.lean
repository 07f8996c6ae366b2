/- Of the proof of TopBooks: StM, StN, QA, QB. -/
import Derived.Test.YtgegjjnfcnalfaaGreatDoorG25
import Derived.Test.YtgegjjnfcnalfaaGreatDoorG07
import Derived.Test.YtgegjjnfcnalfaaGreatDoorG36
import Derived.BigQuiet
import Derived.Test.YtgegjjnfcnalfaaGreatDoorG21
import Derived.Test.YtgegjjnfcnalfaaGreatDoorG20
import Derived.Test.YtgegjjnfcnalfaaGreatDoorG23
namespace Go.Proofs.YtgegjjnfcnalfaaGreatDoor
open Go Go.RowKit Go.Lw
set_option maxRecDepth 100000
set_option linter.unusedVariables false
set_option linter.unusedSimpArgs false
def FrdAt (w : World) (br : Nat) (v : Value) (l : List UInt8) : Prop := w.heap[br]? = some (.cells #[v, .bool false] 168 (0, 0)) ∧ RdB w v l ∧ ¬ blk v br ∧ l.length ≤ 1048576
set_option maxHeartbeats 4000000 in
theorem ftake_any (w : World) (br : Nat) (v : Value) (l : List UInt8) (n : Nat) (h : FrdAt w br v l) (hn : n ≤ l.length) :
    Calls Tryz.prog 110 #[.pointer (some ⟨br, 0, none⟩), .int .i64 (n : Int)] w fun e w' => ∃ out v', e = .returned out ∧ RdB w' out (l.take n) ∧ FrdAt w' br v' (l.drop n) ∧ (∀ k, blk out k → blk v k) ∧ (∀ k, blk v' k → blk v k) ∧ Kept (fun k => k = br) w w' := by
  obtain ⟨hh, hr, hd, hl⟩ := h
  obtain ⟨ad, cap, rfl, hc1, hc2, _⟩ := hr.open
  unfold maxLen at hc2
  obtain ⟨L, hL⟩ : ∃ L, l.length = L := ⟨_, rfl⟩
  have HL := Lw.hid hL
  rw [hL] at hh hr hd hl hn hc1
  have c0 : w.cell? ⟨br, 0, none⟩ = some (.slice ad L cap) := heap_cell hh 0
  have c1 : w.cell? ⟨br, 1, none⟩ = some (.bool false) := heap_cell hh 1
  have f0 := heap_free hh 0
  have f1 := heap_free hh 1
  have HH := Lw.hid hh; have HR := Lw.hid hr
  clear hh hr hL
  have hgt : decide ((L : Int) < (n : Int)) = false := decide_eq_false (by omega)
  go_enter Tryz.func110, Tryz.ntmps110
  have K1 : Hid (Kept (fun k => k = br) w (w.setCell ⟨br, 1, none⟩ (.bool false))) := Lw.hid ((Kept.refl (fun k => k = br) w).set br 1 (fun _ => rfl) _)
  have HH1 := Lw.hid (heap_set HH.out 1 (.bool false))
  have HR1 : Hid (Rd (w.setCell ⟨br, 1, none⟩ (.bool false)) 1 (.slice ad L cap) L (l.map bv)) := Lw.hid (rd_cast HL.out (HR.out.kept K1.out (fun k hk e => hd (e ▸ hk))))
  go_wp2_with (first | (refine wpList_slice_h rfl _ _ _ rfl EB _ L _ _ _ n rfl rfl HR1.out rfl hn ?_; intro ad1 cap1 hr1 hb1; have HRa := Lw.hid hr1; have HBa := Lw.hid hb1; clear hr1 hb1) | (refine wpList_slice_l rfl _ _ _ rfl EB _ L _ _ _ n rfl rfl HR1.out rfl hn ?_; intro ad2 cap2 hr2 hb2; have HRb := Lw.hid hr2; have HBb := Lw.hid hb2; clear hr2 hb2))
  go_ret
  have hL := HL.out
  subst hL
  have k2 : Kept (fun k => k = br) (w.setCell ⟨br, 1, none⟩ (.bool false)) ((w.setCell ⟨br, 1, none⟩ (.bool false)).setCell ⟨br, 0, none⟩ (.slice ad2 (l.length - n) cap2)) := (Kept.refl (fun k => k = br) _).set br 0 (fun _ => rfl) _
  have hA : ∀ k, blk (.slice ad1 n cap1) k → blk (.slice ad l.length cap) k := fun k hk => HBa.out k hk
  have hB : ∀ k, blk (.slice ad2 (l.length - n) cap2) k → blk (.slice ad l.length cap) k := fun k hk => HBb.out k hk
  refine ⟨.slice ad1 n cap1, .slice ad2 (l.length - n) cap2, rfl, ?_, ⟨heap_set HH1.out 0 _, ?_, fun h => hd (hB _ h), by rw [List.length_drop]; omega⟩, hA, hB, K1.out.trans k2 (fun _ _ h => h)⟩
  · exact (RdB.of_take hn HRa.out).kept k2 (fun k hk e => hd (e ▸ hA k hk))
  · exact (RdB.of_drop HRb.out).kept k2 (fun k hk e => hd (e ▸ hB k hk))
theorem FrdAt.kept {w w' : World} {br : Nat} {v : Value} {l : List UInt8} (h : FrdAt w br v l) (k : Kept (fun _ => False) w w') : FrdAt w' br v l := ⟨k.heap h.1 (fun h => h), h.2.1.kept k (fun _ _ h => h), h.2.2⟩
set_option maxHeartbeats 4000000 in
theorem fnum_any (w : World) (br : Nat) (v : Value) (l : List UInt8) (b : UInt8) (hb : b = 0 ∨ b = 1) (h : FrdAt w br v (0 :: b :: l)) :
    Calls Tryz.prog 109 #[.pointer (some ⟨br, 0, none⟩)] w fun e w' => ∃ v', e = .returned (.int .i64 (b.toNat : Int)) ∧ FrdAt w' br v' l ∧ (∀ k, blk v' k → blk v k) ∧ Kept (fun k => k = br) w w' := by
  have H := Lw.hid h
  clear h
  go_enter Tryz.func109, Tryz.ntmps109
  go_wp2_with fail
  refine (ftake_any w br v _ 2 H.out (by simp)).mono ?_
  rintro e w1 ⟨out, v', rfl, hr, hf, ha, hb', hk⟩
  have hr' : RdB w1 out [0, b] := hr
  obtain ⟨ad, cap, rfl, hc1, hc2, hcs⟩ := hr'.open
  obtain ⟨g, off, rfl, c0⟩ := hcs 0 (by simp)
  obtain ⟨g1, off1, he, c1⟩ := hcs 1 (by simp)
  cases he
  have HF := Lw.hid hf; have HBB := Lw.hid hb'; have HK := Lw.hid hk
  clear hr hr' hcs hf ha hb' hk
  simp only [List.getElem_cons_zero, List.getElem_cons_succ] at c0 c1
  unfold maxLen at hc2
  rw [Nat.add_zero] at c0
  simp only [List.length_cons, List.length_nil, Nat.reduceAdd] at hc1
  rcases hb with rfl | rfl
  · have c0' : w1.cell? ⟨g, off, none⟩ = some (.int .u8 0) := c0
    have c1' : w1.cell? ⟨g, off + 1, none⟩ = some (.int .u8 0) := c1
    clear c0 c1
    go_wp2_with fail
    go_quiet (fail)
    go_wp2_with fail
    go_ret
    exact ⟨v', rfl, HF.out.kept (kept_drewN w1 _), HBB.out, HK.out.trans (kept_drewN w1 _) (fun _ _ h => h.elim)⟩
  · have c0' : w1.cell? ⟨g, off, none⟩ = some (.int .u8 0) := c0
    have c1' : w1.cell? ⟨g, off + 1, none⟩ = some (.int .u8 1) := c1
    clear c0 c1
    go_wp2_with fail
    go_quiet (fail)
    go_wp2_with fail
    go_ret
    exact ⟨v', rfl, HF.out.kept (kept_drewN w1 _), HBB.out, HK.out.trans (kept_drewN w1 _) (fun _ _ h => h.elim)⟩
set_option maxHeartbeats 4000000 in
theorem ftext_any (w : World) (br : Nat) (v : Value) (c : UInt8) (l : List UInt8) (h : FrdAt w br v (0 :: 1 :: c :: l)) :
    Calls Tryz.prog 108 #[.pointer (some ⟨br, 0, none⟩)] w fun e w' => ∃ v', e = .returned (.string (BA [c])) ∧ FrdAt w' br v' l ∧ (∀ k, blk v' k → blk v k) ∧ Kept (fun k => k = br) w w' := by
  have H := Lw.hid h
  clear h
  go_enter Tryz.func108, Tryz.ntmps108
  go_wp2_with fail
  refine (fnum_any w br v (c :: l) 1 (.inr rfl) H.out).mono ?_
  rintro e w1 ⟨v1, rfl, h1, b1, k1⟩
  have H1 := Lw.hid h1; have B1 := Lw.hid b1; have K1 := Lw.hid k1
  clear h1 b1 k1
  go_wp2_with fail
  refine (ftake_any w1 br v1 _ 1 H1.out (by simp)).mono ?_
  rintro e w2 ⟨out, v2, rfl, ho, h2, ha, b2, k2⟩
  have HO : Hid (RdB w2 out [c]) := Lw.hid ho
  have H2 : Hid (FrdAt w2 br v2 l) := Lw.hid h2
  have B2 := Lw.hid b2; have K2 := Lw.hid k2
  clear ho h2 ha b2 k2
  go_wp2_with (refine wpList_str rfl _ _ _ rfl _ _ rfl HO.out Tryz.underlying36 Tryz.underlying5 Tryz.underlying9 ?_)
  go_ret
  exact ⟨v2, rfl, H2.out, fun k hk => B1.out k (B2.out k hk), K1.out.trans K2.out (fun _ _ h => h)⟩
end Go.Proofs.YtgegjjnfcnalfaaGreatDoor
namespace Go.Proofs.YtgegjjnfcnalfaaGreatDoor
open Go Go.RowKit Go.Lw
set_option maxRecDepth 100000
set_option linter.unusedVariables false
set_option linter.unusedSimpArgs false
attribute [local go_sem] BA_toList
def MLx (w : World) : Prop := ∃ m, w.cell? ⟨1, 0, none⟩ = some (.int .i64 m)
theorem MLx.kept {S : Nat → Prop} {w w' : World} (h : MLx w) (k : Kept S w w') (hS : ¬ S 1) : MLx w' := by
  obtain ⟨m, hm⟩ := h
  exact ⟨m, k.cell hm hS⟩
theorem look_e {w : World} {m : Nat} (h : MapAt w m dE) (k : List UInt8) (hk : k.length ≤ maxLen) : (Instr.lookup 136 (.map (some m)) (.string (BA k)) true).run Tryz.prog w = .ok (.tuple #[.agg #[.string ⟨#[]⟩, .bool false, .string ⟨#[]⟩], .bool false]) w := by
  obtain ⟨v, ps, hrun, hv⟩ := h.look_ok (key := .string (BA k)) (kl := .string k) KS Tryz.underlying136 (z := .agg #[.string ⟨#[]⟩, .bool false, .string ⟨#[]⟩]) (zd := .held (.agg #[.string ⟨#[]⟩, .bool false, .string ⟨#[]⟩])) (zp := []) (by kernel_rfl) rfl (WideMaps.keyOf_string_mk Tryz.underlying9 (by rw [BA_size]; exact hk))
  have h1 : some (DataW.held v, ([] : List MemPlace)) = some (dE.atKey (.string k) (.held (.agg #[.string ⟨#[]⟩, .bool false, .string ⟨#[]⟩])), ps) := hv
  have h2 := congrArg Prod.fst (Option.some.inj h1)
  cases h2
  rw [hrun]
  rfl
set_option maxHeartbeats 4000000 in
theorem kind_any (w : World) (F : Nat → Prop) (ft : Nat) (h : TrAt w F ft) : Calls Tryz.prog 112 #[.pointer (some ⟨ft, 0, none⟩), .string (BA [47])] w fun e w' => e = .returned (.int .i64 1) ∧ Kept (fun _ => False) w w' := by
  obtain ⟨m, h1, h2, -⟩ := h.mem
  have c0 := heap_cell h1 0
  have hlk := look_e h2 [47] (by decide)
  clear h h1 h2
  go_enter Tryz.func112, Tryz.ntmps112
  go_wp2_with fail
  go_ret
  exact ⟨rfl, (Kept.refl _ w).alloc _⟩
theorem split2 : Lib.countB (BA [47]) (BA [47]) = 1 := by decide +kernel
theorem split3 : Lib.splitB (BA [47]) 0 1 (BA [47]) = [⟨#[]⟩, ⟨#[]⟩] := by decide +kernel
theorem split1 : ((Lib.splitB (BA [47]) 0 (Lib.countB (BA [47]) (BA [47])) (BA [47])).map Value.string).toArray = #[.string ⟨#[]⟩, .string ⟨#[]⟩] ∧ Lib.countB (BA [47]) (BA [47]) = 1 := by
  rw [split2, split3]
  exact ⟨rfl, rfl⟩
theorem pre1 : Lib.hasPrefix (BA [47]).data.toList (BA [47]).data.toList = true := by decide +kernel
set_option maxHeartbeats 4000000 in
theorem abs_any (w : World) (F : Nat → Prop) (ft : Nat) (h : TrAt w F ft) (hm : MLx w) : Calls Tryz.prog 111 #[.pointer (some ⟨ft, 0, none⟩), .string (BA [47])] w fun e w' => e = .returned (.tuple #[.string (BA [47]), .int .i64 0]) ∧ Kept (fun _ => False) w w' := by
  obtain ⟨m, h1, h2, -⟩ := h.mem
  have c1 := heap_cell h1 1
  have H := Lw.hid h; have HM := Lw.hid hm
  have hz : (BA [47]).size = 1 := rfl
  have hne : (BA [47] == (⟨#[]⟩ : ByteArray)) = false := rfl
  clear h h1 h2 hm
  go_enter Tryz.func111, Tryz.ntmps111
  go_wp2_with fail
  refine (tnone_any w F ft H.out).mono ?_
  rintro e _ ⟨rfl, rfl⟩
  go_wp2_with fail
  refine (Tryz.strings_HasPrefix (BA [47]) (BA [47]) w).mono ?_
  rw [pre1]
  rintro e w1 ⟨rfl, rfl⟩
  go_wp2_with fail
  obtain ⟨mm, hmm⟩ := HM.out
  refine (Tryz.strings_Split (BA [47]) (BA [47]) mm w1 (by decide) hmm (by decide)).mono ?_
  rw [split1.1, split1.2]
  rintro e w2 ⟨rfl, rfl⟩
  have k2 : Kept (fun _ => False) w1 (w1.alloc (.cells #[.string ⟨#[]⟩, .string ⟨#[]⟩] 9)) := (Kept.refl _ w1).alloc _
  have HB := Lw.hid (heap_alloc w1 (.cells #[.string ⟨#[]⟩, .string ⟨#[]⟩] 9))
  have HT2 := Lw.hid (H.out.kept k2 (fun _ _ h => h)); have K2 := Lw.hid k2
  obtain ⟨w2, hw2⟩ : ∃ w2, w1.alloc (.cells #[.string ⟨#[]⟩, .string ⟨#[]⟩] 9) = w2 := ⟨_, rfl⟩
  rw [hw2] at HB HT2 K2 ⊢
  clear hw2 k2 c1
  have b0 := heap_cell HB.out 0; have b1 := heap_cell HB.out 1
  go_wp2_with fail
  refine wp_loop_rounds 3 ?_
  rw [rounds_succ]
  go_wp2_with fail
  refine (kind_any w2 F ft HT2.out).mono ?_
  rintro e w3 ⟨rfl, k3⟩
  have HT3 := Lw.hid (HT2.out.kept k3 (fun _ _ h => h)); have K3 := Lw.hid (K2.out.trans k3 (fun _ _ h => h))
  have d1 := k3.cell b1 (fun h => h)
  clear k3 b0 b1
  go_wp2_with fail
  rw [rounds_succ]
  go_wp2_with fail
  refine (kind_any w3 F ft HT3.out).mono ?_
  rintro e w4 ⟨rfl, k4⟩
  have K4 := Lw.hid (K3.out.trans k4 (fun _ _ h => h))
  clear k4 d1
  go_wp2_with fail
  rw [rounds_succ]
  go_wp2_with fail
  exact bodyPost_ret (v := .tuple #[.string (BA [47]), .int .i64 0]) (by simp [results, go_sem]; rfl) rfl ⟨rfl, K4.out⟩
set_option maxHeartbeats 4000000 in
theorem fis_any (w : World) (F : Nat → Prop) (ft : Nat) (h : TrAt w F ft) (hm : MLx w) : Calls Tryz.prog 126 #[.pointer (some ⟨ft, 0, none⟩), .string (BA [47]), .int .i64 1] w fun e w' => e = .returned (.tuple #[.string (BA [47]), .int .i64 0]) ∧ Kept (fun _ => False) w w' := by
  have H := Lw.hid h; have HM := Lw.hid hm
  clear h hm
  go_enter Tryz.func126, Tryz.ntmps126
  go_wp2_with fail
  refine (abs_any w F ft H.out HM.out).mono ?_
  rintro e w2 ⟨rfl, k2⟩
  have K2 := Lw.hid k2; have H2 := Lw.hid (H.out.kept k2 (fun _ _ h => h))
  clear k2
  go_wp2_with fail
  refine (kind_any w2 F ft H2.out).mono ?_
  rintro e w3 ⟨rfl, k3⟩
  have K3 := Lw.hid (K2.out.trans k3 (fun _ _ h => h))
  clear k3
  go_wp2_with fail
  exact bodyPost_ret (v := .tuple #[.string (BA [47]), .int .i64 0]) (by simp [results, go_sem]) rfl ⟨rfl, K3.out⟩
set_option maxHeartbeats 4000000 in
theorem cd_any (w : World) (F : Nat → Prop) (ft : Nat) (h : TrAt w F ft) (hm : MLx w) : Calls Tryz.prog 114 #[.pointer (some ⟨ft, 0, none⟩), .string (BA [47])] w fun e w' => e = .returned (.int .i64 0) ∧ TrAt w' F ft ∧ Kept (fun k => k = ft) w w' := by
  have H := Lw.hid h; have HM := Lw.hid hm
  clear h hm
  go_enter Tryz.func114, Tryz.ntmps114
  go_wp2_with fail
  refine (fis_any w F ft H.out HM.out).mono ?_
  rintro e w2 ⟨rfl, k2⟩
  have K2 := Lw.hid k2; have H2 := H.out.kept k2 (fun _ _ h => h)
  obtain ⟨m, h1, h2, h3, h4, h5⟩ := H2.mem
  have c1 := heap_cell h1 1; have f1 := heap_free h1 1
  have ks : Kept (fun k => k = ft) w2 (w2.setCell ⟨ft, 1, none⟩ (.string (BA [47]))) := (Kept.refl (fun k => k = ft) w2).set ft 1 (fun _ => rfl) _
  have hs := heap_set h1 1 (.string (BA [47]))
  have HT : Hid (TrAt (w2.setCell ⟨ft, 1, none⟩ (.string (BA [47]))) F ft) := Lw.hid ⟨m, hs, h2.kept ks h5, h3, h4, h5⟩
  have KS2 := Lw.hid ks
  clear k2 H2 h1 h2 h3 h4 h5 hs ks
  go_wp2_with fail
  go_ret
  exact ⟨rfl, HT.out, (K2.out.mono (fun _ _ h => h.elim)).trans KS2.out (fun _ _ h => h)⟩
set_option maxHeartbeats 8000000 in
theorem fparse_any (w : World) (v : Value) (hv : RdB w v treeB) (hm : MLx w) : Calls Tryz.prog 95 #[v] w fun e w' => ∃ ft, e = .returned (.tuple #[.pointer (some ⟨ft, 0, none⟩), .int .i64 0]) ∧ TrAt w' (fun b => w.heap.size ≤ b) ft ∧ Kept (fun _ => False) w w' := by
  obtain ⟨ad, cap, rfl, hc1, hc2, _⟩ := hv.open
  have HV := Lw.hid hv; have HM := Lw.hid hm
  clear hv hm
  have hl5 : treeB.length = 5 := rfl
  rw [hl5] at HV hc1 ⊢
  obtain ⟨w1, hw1⟩ : ∃ w1, w.alloc (.cells #[.slice ad 5 cap, .bool false] 168) = w1 := ⟨_, rfl⟩
  obtain ⟨br, hbr⟩ : ∃ br, w.heap.size = br := ⟨_, rfl⟩
  have K1 : Hid (Kept (fun _ => False) w w1) := Lw.hid (by rw [← hw1]; exact (Kept.refl _ w).alloc _)
  have FR : Hid (FrdAt w1 br (.slice ad 5 cap) treeB) := Lw.hid ⟨by rw [← hw1, ← hbr]; exact heap_alloc w _, HV.out.kept K1.out (fun _ _ h => h), fun h => by
    have := HV.out.lt (by decide) br h
    omega, by decide⟩
  have HW := Lw.hid hw1; have HB := Lw.hid hbr
  clear hw1 hbr
  go_enter Tryz.func95, Tryz.ntmps95
  go_wp2_with fail
  rw [HW.out, HB.out]
  refine (tnew_any w1).mono ?_
  rintro e w2 ⟨ft, rfl, ht2, k2⟩
  have HT2 := Lw.hid ht2; have K2 := Lw.hid (K1.out.trans k2 (fun _ _ h => h)); have FR2 := Lw.hid (FR.out.kept k2)
  have hz12 : br < w1.heap.size := heap_lt FR.out.1
  have hfb : w1.heap.size ≤ ft := by obtain ⟨m, _, _, h3, _⟩ := ht2.mem; exact h3
  clear ht2 k2
  go_wp2_with fail
  refine (ftext_any w2 br _ 47 [0, 0] FR2.out).mono ?_
  rintro e w3 ⟨v3, rfl, hf3, -, k3⟩
  have FR3 := Lw.hid hf3; have HT3 := Lw.hid (HT2.out.kept k3 (fun b hb e => by omega))
  have K3 : Hid (Kept (fun k => k = br) w w3) := Lw.hid ((K2.out.mono (fun _ _ h => h.elim)).trans k3 (fun _ _ h => h))
  clear hf3 k3
  go_wp2_with fail
  refine (fnum_any w3 br v3 [] 0 (.inl rfl) FR3.out).mono ?_
  rintro e w4 ⟨v4, rfl, hf4, -, k4⟩
  have FR4 := Lw.hid hf4; have HT4 := Lw.hid (HT3.out.kept k4 (fun b hb e => by omega))
  have K4 : Hid (Kept (fun k => k = br) w w4) := Lw.hid (K3.out.trans k4 (fun _ _ h => h))
  have r1 := heap_cell hf4.1 1
  clear hf4 k4
  go_wp2_with fail
  refine wp_loop_rounds 1 ?_
  rw [rounds_succ]
  go_wp2_with fail
  have hkw : Kept (fun _ => False) w w4 := K4.out.mono (fun i hi e => by have := HB.out; omega)
  have KW4 := Lw.hid hkw
  refine (cd_any w4 _ ft HT4.out (HM.out.kept hkw (fun h => h))).mono ?_
  rintro e w5 ⟨rfl, ht5, k5⟩
  have HT5 := Lw.hid ht5
  have hs1 := K1.out.size
  have K5 : Hid (Kept (fun _ => False) w w5) := Lw.hid (hkw.trans k5 (fun i hi e => by omega))
  clear ht5 k5 r1 hkw
  go_wp2_with fail
  refine (tbytes_any w5 _ ft HT5.out).mono ?_
  rintro e w6 ⟨vb, rfl, ⟨ho6, -⟩, k6⟩
  have HO6 := Lw.hid ho6; have HT6 := Lw.hid (HT5.out.kept k6 (fun _ _ h => h)); have K6 := Lw.hid (K5.out.trans k6 (fun _ _ h => h))
  obtain ⟨ad6, cap6, hv6, _, _, _⟩ := own_slice ho6
  subst hv6
  clear ho6 k6
  go_wp2_with fail
  refine (sleq_any w6 _ _ treeB treeB (RdB.of_own HO6.out rfl) (HV.out.kept K6.out (fun _ _ h => h)) true (by decide)).mono ?_
  rintro e w7 ⟨rfl, k7⟩
  have HT7 := Lw.hid (HT6.out.kept k7 (fun _ _ h => h)); have K7 := Lw.hid (K6.out.trans k7 (fun _ _ h => h))
  clear k7
  go_wp2_with fail
  exact bodyPost_ret (v := .tuple #[.pointer (some ⟨ft, 0, none⟩), .int .i64 0]) (by simp [results, go_sem]) rfl ⟨ft, rfl, HT7.out.mono (fun b hb h => Nat.le_trans hs1 h), K7.out⟩
end Go.Proofs.YtgegjjnfcnalfaaGreatDoor
