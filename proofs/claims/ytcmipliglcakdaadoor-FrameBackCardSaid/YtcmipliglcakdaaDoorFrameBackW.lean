/- FrameBack, walked. -/
import Derived.Test.YtcmipliglcakdaaDoorFrameO
import Derived.Test.YtcmipliglcakdaaDoorFramePB
import Derived.Test.YtcmipliglcakdaaDoorFrameSet
import Derived.Test.YtcmipliglcakdaaDoorSoftTail
namespace Go.Proofs.YtcmipliglcakdaaDoor
open Go Go.RowKit Go.Lw
set_option maxRecDepth 100000
theorem slice_of (w : World) (ad : Option Addr) (n cap : Nat) (l : List UInt8) (h : RdB w (.slice ad n cap) l) : n = l.length ∧ l.length ≤ cap ∧ cap ≤ maxLen := by
  obtain ⟨_, _, e, h1, h2, _⟩ := rdb_opened h
  cases e
  exact ⟨rfl, h1, h2⟩
theorem rdb_cast'' {w : World} {ad : Option Addr} {n cap : Nat} {l : List UInt8} (hn : l.length = n) (h : RdB w (.slice ad n cap) l) : Rd w 1 (.slice ad n cap) n (l.map bv) := by subst hn; exact h
set_option maxHeartbeats 8000000 in
theorem fback_any (w : World) (f : Frm) (tag bit : Nat) (v u : Value) (B : List UInt8) (hf : f.ok) (ht : tag < 18446744073709551616) (hbit : bit < 65536) (hm : TabM w) (hT : Tab w) (hv : RdB w v f.p) (hu : RdB w u B) :
    Calls Tryd.prog 12 #[f.val v, .int .u64 (tag : Int), .int .u16 (bit : Int), u] w fun e w' => e = .returned (.bool true) ∧ Below w.heap.size w w' := by
  have HF := Lw.hid hf; have HT := Lw.hid ht; have HM := Lw.hid hm; have HTB := Lw.hid hT; have HV := Lw.hid hv
  obtain ⟨adu, capu, rfl, hu1, hu2, hu3⟩ := hu.open
  unfold maxLen at hu2
  have HU := Lw.hid hu
  clear hf ht hm hT hv hu hu3
  go_enter Tryd.func12, Tryd.ntmps12
  go_wp2_with fail
  refine (made_any _ w f _ HF.out HV.out).mono ?_
  rintro e w1 ⟨ad1, cap1, rfl, hr1, k1⟩
  have fo := made_ok HF.out; have fm := made_may f
  have FO := Lw.hid fo; have FM := Lw.hid fm
  clear fo fm
  generalize f.made = F at *
  have hF9 : F.p.length ≤ 256 := may_len FM.out
  have hb := k1.heap (heap_alloc w _) (fun h => h)
  have kk := ((Kept.refl (fun _ => False) w).alloc _).trans k1 (fun _ _ h => h)
  have hw1 : ∀ (G : World → Prop), (∀ w2, Kept (fun _ => False) w w2 → w2.heap[w.heap.size]? = some (.cells #[.int .u8 (F.kind : Int), .int .u32 (F.ses : Int), .int .u32 (F.ep : Int), .int .u32 (F.num : Int), .int .u32 (F.ack : Int), .int .u32 (F.mask : Int), (.slice ad1 F.p.length cap1)] 46 (0, 0)) → G w2) → G (fset w1 w.heap.size F (.slice ad1 F.p.length cap1)) := fun G h => h _ (fset_kept kk (fun h => by omega)) (fset_same hb)
  unfold fset at hw1
  have HW1 := Lw.hid hw1; have R1 := Lw.hid hr1
  have c0 := heap_cell (hb) 0
  have cf0 := heap_free (hb) 0
  have c1 := heap_cell (hb) 1
  have cf1 := heap_free (hb) 1
  have c2 := heap_cell (hb) 2
  have cf2 := heap_free (hb) 2
  have c3 := heap_cell (hb) 3
  have cf3 := heap_free (hb) 3
  have c4 := heap_cell (hb) 4
  have cf4 := heap_free (hb) 4
  have c5 := heap_cell (hb) 5
  have cf5 := heap_free (hb) 5
  have c6 := heap_cell (hb) 6
  have cf6 := heap_free (hb) 6
  clear hw1 hr1 k1 kk hb
  go_wp2_with fail
  clear c0 cf0 c1 cf1 c2 cf2 c3 cf3 c4 cf4 c5 cf5 c6 cf6
  refine HW1.out (fun wz => Calls Tryd.prog _ _ wz _) (fun w2 k2 b2 => ?_)
  clear HW1
  have K2 := Lw.hid k2; have B2 := Lw.hid b2
  clear k2 b2
  refine (encode_ok _ F tag ad1 cap1 FO.out FM.out HT.out (HM.out.kept K2.out) (HTB.out.below (Below.of_kept K2.out)) (R1.out.kept K2.out (fun _ _ h => h))).mono ?_
  rintro e w3 ⟨adc, capc, rfl, hc1, hc2, hr3, k3⟩
  unfold maxLen at hc2
  have K3 := Lw.hid (K2.out.trans k3 (fun _ _ h => h)); have C3 := Lw.hid hr3; have B3 := Lw.hid (k3.heap B2.out (fun h => h))
  clear hr3 k3 K2 B2
  have hg600 : decide ((600 : Int) < 35 + (F.p.length : Int)) = false := by simp; omega
  have c0 := heap_cell (B3.out) 0
  have c1 := heap_cell (B3.out) 1
  have c2 := heap_cell (B3.out) 2
  have c3 := heap_cell (B3.out) 3
  have c4 := heap_cell (B3.out) 4
  have c5 := heap_cell (B3.out) 5
  have c6 := heap_cell (B3.out) 6
  go_wp2_with fail
  clear c0 c1 c2 c3 c4 c5 c6
  clear hg600
  have hde := decF_enc F tag FO.out FM.out HT.out
  have HDE := Lw.hid hde
  clear hde
  refine (decode_any _ _ (F.enc tag) C3.out (by rw [Frm.enc_len]; omega) (HM.out.kept K3.out) (HTB.out.below (Below.of_kept K3.out))).mono ?_
  rw [HDE.out]
  simp only
  rintro e w4 ⟨adg, capg, rfl, hr4, k4, _⟩
  have K4 := Lw.hid (K3.out.trans k4 (fun _ _ h => h)); have C4 := Lw.hid (C3.out.kept k4 (fun _ _ h => h)); have B4 := Lw.hid (k4.heap B3.out (fun h => h)); have G4 := Lw.hid hr4
  clear hr4 k4 K3 C3 B3
  rw [show (((0 : Nat) : Int)) = 0 from rfl]
  have hB4 := Kept.heap ((Kept.refl (fun _ => False) w4).alloc (.cells #[.int .u8 (F.kind : Int), .int .u32 (F.ses : Int), .int .u32 (F.ep : Int), .int .u32 (F.num : Int), .int .u32 (F.ack : Int), .int .u32 (F.mask : Int), (.slice adg F.p.length capg)] 46 (0, 0))) B4.out (fun h => h)
  have hlt4 := heap_lt B4.out
  have c0 := heap_cell (hB4) 0
  have c1 := heap_cell (hB4) 1
  have c2 := heap_cell (hB4) 2
  have c3 := heap_cell (hB4) 3
  have c4 := heap_cell (hB4) 4
  have c5 := heap_cell (hB4) 5
  have c6 := heap_cell (hB4) 6
  clear hB4
  go_wp2_with fail
  clear c0 c1 c2 c3 c4 c5 c6
  refine (same_any _ F F _ _ ((R1.out.kept K4.out (fun _ _ h => h)).alloc _) (G4.out.alloc _) true ((same_iff F F).2 rfl)).mono ?_
  rintro e w5 ⟨rfl, k5⟩
  have K5 := Lw.hid ((K4.out.alloc _).trans k5 (fun _ _ h => h)); have C5 := Lw.hid ((C4.out.alloc _).kept k5 (fun _ _ h => h))
  clear k5 K4 C4 B4 G4 hlt4
  -- which bit
  obtain ⟨N, hN⟩ : ∃ N, N = 35 + F.p.length := ⟨_, rfl⟩
  have HN := Lw.hid hN
  have hN9 : 35 ≤ N ∧ N ≤ 300 := by omega
  obtain ⟨Kb, hKb⟩ : ∃ Kb, Kb = bit % (8 * N) := ⟨_, rfl⟩
  have hKlt : Kb < 8 * N := by rw [hKb]; exact Nat.mod_lt _ (by omega)
  have hmod : (bit : Int) % (8 * (N : Int)) = (Kb : Int) := by rw [hKb, Int.natCast_emod, Int.natCast_mul]; rfl
  rw [← hN] at C5 ⊢
  clear hN hKb
  go_wp2_with fail
  refine (clone_any _ _ (F.enc tag) C5.out (by rw [Frm.enc_len]; omega)).mono ?_
  rintro e w6 ⟨vb, rfl, ob, k6, fb⟩
  have hel : (F.enc tag).length = N := by rw [Frm.enc_len, HN.out]
  have HEL := Lw.hid hel
  rw [hel] at ob
  obtain ⟨adb, capb, rfl, hb1, hb2, hb3⟩ := own_slice ob
  obtain ⟨gb, rfl⟩ := hb3 (by omega)
  unfold maxLen at hb2
  have hgb : w5.heap.size ≤ gb := fb gb rfl
  obtain ⟨jj, hjj⟩ : ∃ j, j = Kb / 8 := ⟨_, rfl⟩
  obtain ⟨rr, hrr⟩ : ∃ r, r = Kb % 8 := ⟨_, rfl⟩
  have hr8 : rr < 8 := by omega
  have hjN : jj < N := by omega
  have hq : (Kb : Int) / 8 = (jj : Int) := by omega
  have hrm : (Kb : Int) % 8 = (rr : Int) := by omega
  obtain ⟨c, hc⟩ := at_lt (l := F.enc tag) (k := jj) (by rw [hel]; exact hjN)
  have HC := Lw.hid hc
  have hcell : w6.cell? ⟨gb, jj, none⟩ = some (.int .u8 (c.toNat : Int)) := own_cell ob jj _ (by rw [List.getElem?_map, hc]; rfl) (by omega)
  have HCELL := Lw.hid hcell
  have hx2 : bits .xor .u8 (c.toNat : Int) ((2 ^ rr : Nat) : Int) = ((c ^^^ UInt8.ofNat (2 ^ rr)).toNat : Int) := by
    have hp : 2 ^ rr < 256 := by
      have : rr = 0 ∨ rr = 1 ∨ rr = 2 ∨ rr = 3 ∨ rr = 4 ∨ rr = 5 ∨ rr = 6 ∨ rr = 7 := by omega
      rcases this with rfl | rfl | rfl | rfl | rfl | rfl | rfl | rfl <;> decide
    rw [u8_xor_nat _ _ (UInt8.toNat_lt _) hp, UInt8.toNat_xor, UInt8.toNat_ofNat', Nat.mod_eq_of_lt hp]
  have i0 : (0 : Int) ≤ (jj : Int) := by omega
  have i1 : (jj : Int) < (N : Int) := by omega
  have HX2 := Lw.hid hx2
  have K6 := Lw.hid (K5.out.trans k6 (fun _ _ h => h)); have C6 := Lw.hid (C5.out.kept k6 (fun _ _ h => h)); have OB := Lw.hid ob
  have hgw : w.heap.size ≤ gb := Nat.le_trans K5.out.size hgb
  have hca : ∀ k, blk (.slice adc N capc) k → k < gb := fun k hk => Nat.lt_of_lt_of_le (C5.out.lt (by rw [hel]; omega) k hk) hgb
  have HCA := Lw.hid hca
  clear hca hcell hc hx2 hel ob k6 fb hb3 K5 C5 hjj hrr
  go_wp2_with fail
  refine wp_region_tail 10 [stV (.slice (some ⟨gb, 0, none⟩) N capb), stV (.int .i64 (Kb : Int)), stV (.int .i64 (jj : Int)), stV (.pointer (some ⟨gb, jj, none⟩)), stV (.int .u8 (c.toNat : Int)), stV (.int .i64 (Kb : Int)), stV (.int .i64 (rr : Int)), stV (.int .u8 ((2 ^ rr : Nat) : Int)), stV (.int .u8 ((c ^^^ UInt8.ofNat (2 ^ rr)).toNat : Int)), stV (.pointer (some ⟨gb, jj, none⟩))] (by kernel_rfl) (by kernel_rfl) ?_ ?_
  · -- each operation by itself
    refine ssteps_cons (fun a' w' hI hag hf K hK => ?_) ?_
    · have s15 := hag.same 15 (by decide)
      clear hag
      go_wp2_with fail
      exact hK _ _ hI (Kept.refl _ _) rfl
    refine ssteps_cons (fun a' w' hI hag hf K hK => ?_) ?_
    · have s14 := hag.same 14 (by decide)
      clear hag
      go_wp2_with fail
      exact hK _ _ hI (Kept.refl _ _) rfl
    refine ssteps_cons (fun a' w' hI hag hf K hK => ?_) ?_
    · obtain ⟨⟨_, h1, rfl⟩, -⟩ : SFacts _ _ a' w' [1] := hf
      clear hag
      go_wp2_with fail
      exact hK _ _ hI (Kept.refl _ _) rfl
    refine ssteps_cons (fun a' w' hI hag hf K hK => ?_) ?_
    · obtain ⟨⟨_, h0, rfl⟩, ⟨_, h2, rfl⟩, -⟩ : SFacts _ _ a' w' [0, 2] := hf
      clear hag
      go_wp2_with fail
      exact hK _ _ hI (Kept.refl _ _) rfl
    refine ssteps_cons (fun a' w' hI hag hf K hK => ?_) ?_
    · obtain ⟨⟨_, h3, rfl⟩, -⟩ : SFacts _ _ a' w' [3] := hf
      clear hag
      have hcl := hI.cell HCELL.out (fun h => h)
      go_wp2_with fail
      exact hK _ _ hI (Kept.refl _ _) rfl
    refine ssteps_cons (fun a' w' hI hag hf K hK => ?_) ?_
    · have s14 := hag.same 14 (by decide)
      clear hag
      go_wp2_with fail
      exact hK _ _ hI (Kept.refl _ _) rfl
    refine ssteps_cons (fun a' w' hI hag hf K hK => ?_) ?_
    · obtain ⟨⟨_, h5, rfl⟩, -⟩ : SFacts _ _ a' w' [5] := hf
      clear hag
      go_wp2_with fail
      exact hK _ _ hI (Kept.refl _ _) rfl
    refine ssteps_cons (fun a' w' hI hag hf K hK => ?_) ?_
    · obtain ⟨⟨_, h6, rfl⟩, -⟩ : SFacts _ _ a' w' [6] := hf
      clear hag
      have h8 : rr = 0 ∨ rr = 1 ∨ rr = 2 ∨ rr = 3 ∨ rr = 4 ∨ rr = 5 ∨ rr = 6 ∨ rr = 7 := by omega
      clear hq hrm
      rcases h8 with rfl | rfl | rfl | rfl | rfl | rfl | rfl | rfl
      all_goals
        go_wp2_with fail
        exact hK _ _ hI (Kept.refl _ _) rfl
    refine ssteps_cons (fun a' w' hI hag hf K hK => ?_) ?_
    · obtain ⟨⟨_, h4, rfl⟩, ⟨_, h7, rfl⟩, -⟩ : SFacts _ _ a' w' [4, 7] := hf
      clear hag
      have hx2 := HX2.out
      generalize (2 ^ rr : Nat) = mm at *
      have hcb := c.toNat_lt
      go_wp2_with fail
      exact hK _ _ hI (Kept.refl _ _) rfl
    refine ssteps_cons (fun a' w' hI hag hf K hK => ?_) ?_
    · obtain ⟨⟨_, h0, rfl⟩, ⟨_, h2, rfl⟩, -⟩ : SFacts _ _ a' w' [0, 2, 1, 3, 4, 5, 6, 7, 8] := hf
      clear hag
      go_wp2_with fail
      exact hK _ _ hI (Kept.refl _ _) rfl
    exact trivial
  · intro vs w7 hI hvs
    have q0 : vs 0 = (.slice (some ⟨gb, 0, none⟩) N capb) := hvs 0 _ _ rfl rfl
    have q1 : vs 1 = (.int .i64 (Kb : Int)) := hvs 1 _ _ rfl rfl
    have q2 : vs 2 = (.int .i64 (jj : Int)) := hvs 2 _ _ rfl rfl
    have q3 : vs 3 = (.pointer (some ⟨gb, jj, none⟩)) := hvs 3 _ _ rfl rfl
    have q4 : vs 4 = (.int .u8 (c.toNat : Int)) := hvs 4 _ _ rfl rfl
    have q5 : vs 5 = (.int .i64 (Kb : Int)) := hvs 5 _ _ rfl rfl
    have q6 : vs 6 = (.int .i64 (rr : Int)) := hvs 6 _ _ rfl rfl
    have q7 : vs 7 = (.int .u8 ((2 ^ rr : Nat) : Int)) := hvs 7 _ _ rfl rfl
    have q8 : vs 8 = (.int .u8 ((c ^^^ UInt8.ofNat (2 ^ rr)).toNat : Int)) := hvs 8 _ _ rfl rfl
    have q9 : vs 9 = (.pointer (some ⟨gb, jj, none⟩)) := hvs 9 _ _ rfl rfl
    clear hvs
    simp only [List.take_succ_cons, List.take_zero, List.drop_succ_cons, List.drop_zero, putAll, Act.put, List.setIfInBounds_toArray, List.set_cons_zero, List.set_cons_succ, Nat.reduceAdd, q0, q1, q2, q3, q4, q5, q6, q7, q8, q9]
    clear q0 q1 q2 q3 q4 q5 q6 q7 q8 q9
    have hcl := hI.cell HCELL.out (fun h => h)
    have OB7 := Lw.hid (own_kept hI OB.out (fun _ _ h => h))
    have hfz := OB7.out.frozenAt jj
    have hmid : ∀ G : World → Prop, (∀ w8, Kept (fun _ => False) w w8 → RdB w8 (.slice (some ⟨gb, 0, none⟩) N capb) ((F.enc tag).set jj (c ^^^ UInt8.ofNat (2 ^ rr))) → RdB w8 (.slice adc N capc) (F.enc tag) → G w8) → G (w7.setCell ⟨gb, jj, none⟩ (.int .u8 ((c ^^^ UInt8.ofNat (2 ^ rr)).toNat : Int))) := fun G h => by
      refine h _ ((K6.out.trans hI (fun _ _ h => h)).set gb jj (fun h => by omega) _) ?_ ((C6.out.kept hI (fun _ _ h => h)).kept ((Kept.refl (fun k => k = gb) w7).set gb jj (fun _ => rfl) _) (fun k hk e => by have := HCA.out k hk; omega))
      have := (OB7.out.stored jj (bv (c ^^^ UInt8.ofNat (2 ^ rr)))).1
      rw [← List.map_set] at this
      exact RdB.of_own this (by rw [List.length_set]; exact HEL.out.symm)
    have HMID := Lw.hid hmid
    clear hmid hI K6 C6 OB OB7 HCELL HCA
    go_wp2_with fail
    refine HMID.out (fun wz => Calls Tryd.prog _ _ wz _) (fun w8 k8 rb8 rc8 => ?_)
    clear HMID hcl hfz
    have K8 := Lw.hid k8; have RB8 := Lw.hid rb8; have C8 := Lw.hid rc8
    clear k8 rb8 rc8
    have hj2 : jj < (F.enc tag).length := by rw [HEL.out]; exact hjN
    have hturn : (decF ((F.enc tag).set jj (c ^^^ UInt8.ofNat (2 ^ rr)))).2.2 ≠ 0 := decF_turned F tag jj _ FO.out FM.out HT.out hj2 (fun e => by
      have h1 := HC.out
      rw [List.getElem?_eq_getElem hj2] at h1
      have h2 := Option.some.inj h1
      rw [h2] at e
      have h3 := congrArg UInt8.toNat e
      rw [UInt8.toNat_xor, UInt8.toNat_ofNat'] at h3
      have hp : 0 < 2 ^ rr ∧ 2 ^ rr < 256 := by
        have : rr = 0 ∨ rr = 1 ∨ rr = 2 ∨ rr = 3 ∨ rr = 4 ∨ rr = 5 ∨ rr = 6 ∨ rr = 7 := by omega
        rcases this with rfl | rfl | rfl | rfl | rfl | rfl | rfl | rfl <;> decide
      rw [Nat.mod_eq_of_lt hp.2] at h3
      have h4 : c.toNat ^^^ c.toNat = c.toNat ^^^ (c.toNat ^^^ 2 ^ rr) := congrArg (c.toNat ^^^ ·) h3
      rw [Nat.xor_self, ← Nat.xor_assoc, Nat.xor_self, Nat.zero_xor] at h4
      omega)
    have HTU := Lw.hid hturn
    clear hturn hj2
    refine (decode_any _ _ ((F.enc tag).set jj (c ^^^ UInt8.ofNat (2 ^ rr))) RB8.out (by rw [List.length_set, HEL.out]; omega) (HM.out.kept K8.out) (HTB.out.below (Below.of_kept K8.out))).mono ?_
    generalize decF ((F.enc tag).set jj (c ^^^ UInt8.ofNat (2 ^ rr))) = d1 at *
    obtain ⟨F1, t1, er1⟩ := d1
    simp only at HTU ⊢
    have hne1 : ((er1 : Int) == 0) = false := beq_eq_false_iff_ne.2 (by have := HTU.out; omega)
    rintro e w9 ⟨ad9, cap9, rfl, _, k9, _⟩
    have K9 := Lw.hid (K8.out.trans k9 (fun _ _ h => h)); have C9 := Lw.hid (C8.out.kept k9 (fun _ _ h => h))
    clear k9 K8 C8 RB8 HTU
    have hcut := decF_cut F tag jj FM.out (by rw [← HN.out]; exact hjN)
    have HCUT := Lw.hid hcut
    clear hcut
    go_wp2_with (refine wpList_slice_h rfl _ _ _ rfl EB (.slice adc N capc) N _ .i64 _ jj rfl rfl (rdb_cast'' HEL.out (C9.out.alloc _)) (by first | rfl | omega) (by omega) ?_; intro adt ct hrt hbt; have HRT := Lw.hid hrt; clear hrt hbt)
    have k10 := K9.out.alloc (.cells #[.int .u8 (F1.kind : Int), .int .u32 (F1.ses : Int), .int .u32 (F1.ep : Int), .int .u32 (F1.num : Int), .int .u32 (F1.ack : Int), .int .u32 (F1.mask : Int), (.slice ad9 F1.p.length cap9)] 46 (0, 0))
    have c10 := C9.out.alloc (.cells #[.int .u8 (F1.kind : Int), .int .u32 (F1.ses : Int), .int .u32 (F1.ep : Int), .int .u32 (F1.num : Int), .int .u32 (F1.ack : Int), .int .u32 (F1.mask : Int), (.slice ad9 F1.p.length cap9)] 46 (0, 0))
    have r10 := RdB.of_take (by rw [HEL.out]; omega) HRT.out
    have K10 := Lw.hid k10; have C10 := Lw.hid c10; have R10 := Lw.hid r10
    clear k10 c10 r10 K9 C9 HRT
    generalize w9.alloc (.cells #[.int .u8 (F1.kind : Int), .int .u32 (F1.ses : Int), .int .u32 (F1.ep : Int), .int .u32 (F1.num : Int), .int .u32 (F1.ack : Int), .int .u32 (F1.mask : Int), (.slice ad9 F1.p.length cap9)] 46 (0, 0)) = w10 at *
    refine (decode_any _ _ ((F.enc tag).take jj) R10.out (by rw [List.length_take]; omega) (HM.out.kept K10.out) (HTB.out.below (Below.of_kept K10.out))).mono ?_
    rw [HCUT.out]
    simp only
    rintro e w11 ⟨ad11, cap11, rfl, _, k11, _⟩
    have K11 := Lw.hid ((K10.out.trans k11 (fun _ _ h => h)).alloc (.cells #[.int .u8 (zeroF.kind : Int), .int .u32 (zeroF.ses : Int), .int .u32 (zeroF.ep : Int), .int .u32 (zeroF.num : Int), .int .u32 (zeroF.ack : Int), .int .u32 (zeroF.mask : Int), (.slice ad11 zeroF.p.length cap11)] 46 (0, 0))); have C11 := Lw.hid ((C10.out.kept k11 (fun _ _ h => h)).alloc (.cells #[.int .u8 (zeroF.kind : Int), .int .u32 (zeroF.ses : Int), .int .u32 (zeroF.ep : Int), .int .u32 (zeroF.num : Int), .int .u32 (zeroF.ack : Int), .int .u32 (zeroF.mask : Int), (.slice ad11 zeroF.p.length cap11)] 46 (0, 0)))
    clear k11 K10 C10 R10 HCUT
    go_wp2_with fail
    generalize w11.alloc (.cells #[.int .u8 (zeroF.kind : Int), .int .u32 (zeroF.ses : Int), .int .u32 (zeroF.ep : Int), .int .u32 (zeroF.num : Int), .int .u32 (zeroF.ack : Int), .int .u32 (zeroF.mask : Int), (.slice ad11 zeroF.p.length cap11)] 46 (0, 0)) = w12 at *
    refine (clone_any _ _ (F.enc tag) (by have := C11.out; rwa [← HEL.out] at this ⊢) (by rw [HEL.out]; omega)).mono ?_
    rintro e w13 ⟨vm, rfl, om, k13, fm13⟩
    have hw12 := K11.out.size
    rw [HEL.out] at om
    obtain ⟨adm, capm, rfl, _, _, _⟩ := own_slice om
    have rd1 : RdB (w13.alloc (.cells #[.int .u8 ((bit : Int) % 256)] 5)) (.slice (some ⟨w13.heap.size, 0, none⟩) 1 1) [lo (bit % 256)] := rdb_one w13 (bit % 256) _ (Nat.mod_lt _ (by decide)) rfl _
    have OM := Lw.hid (own_kept ((Kept.refl (fun _ => False) w13).alloc (.cells #[.int .u8 ((bit : Int) % 256)] 5)) om (fun _ _ h => h)); have RD1 := Lw.hid rd1
    have K13 := Lw.hid ((K11.out.trans k13 (fun _ _ h => h)).alloc (.cells #[.int .u8 ((bit : Int) % 256)] 5))
    clear om rd1 k13 K11 C11
    have hfm := fun k (hk : blk (.slice adm N capm) k) => own_lt OM.out k hk
    go_wp2_with (at_builtin; refine wpList_app rfl _ _ _ rfl EB (.slice adm N capm) N _ rfl OM.out (.slice (some ⟨w13.heap.size, 0, none⟩) 1 1) 1 _ rfl RD1.out (bytes_oneCell _) (by unfold maxLen; omega) (by omega) ?_; intro adn capn w14 ho hg hf; have O14 := Lw.hid ho; have G14 := Lw.hid hg; clear ho hg hf)
    have K14 := Lw.hid (K13.out.grown G14.out (fun k hk hl => by have := fm13 k hk; omega))
    have R14 : Hid (RdB w14 (.slice adn (N + 1) capn) (F.enc tag ++ [lo (bit % 256)])) := Lw.hid (RdB.of_own (l := F.enc tag ++ [lo (bit % 256)]) (by rw [List.map_append]; exact O14.out) (by rw [List.length_append, HEL.out]; rfl))
    have hmore := decF_more F tag (lo (bit % 256)) FM.out
    have HMORE := Lw.hid hmore
    clear hmore O14 G14 K13 OM RD1 hfm fm13 hw12
    refine (decode_any _ _ (F.enc tag ++ [lo (bit % 256)]) R14.out (by rw [List.length_append, HEL.out]; simp; omega) (HM.out.kept K14.out) (HTB.out.below (Below.of_kept K14.out))).mono ?_
    rw [HMORE.out]
    simp only
    rintro e w15 ⟨ad15, cap15, rfl, _, k15, _⟩
    have K15 := Lw.hid ((K14.out.trans k15 (fun _ _ h => h)).alloc (.cells #[.int .u8 (zeroF.kind : Int), .int .u32 (zeroF.ses : Int), .int .u32 (zeroF.ep : Int), .int .u32 (zeroF.num : Int), .int .u32 (zeroF.ack : Int), .int .u32 (zeroF.mask : Int), (.slice ad15 zeroF.p.length cap15)] 46 (0, 0)))
    clear k15 K14 R14 HMORE HEL HC HX2 HN
    obtain ⟨n', hn', HB⟩ : ∃ n', n' = min B.length 400 ∧ Hid (RdB w (.slice adu n' capu) (B.take n')) := ⟨_, rfl, Lw.hid (HU.out.take _ (Nat.min_le_left _ _))⟩
    have HBL : Hid ((B.take n').length = n') := Lw.hid (by rw [List.length_take]; omega)
    have hn9 : n' ≤ 400 := by omega
    have hcases : n' = 400 ∧ 400 < B.length ∨ n' = B.length ∧ B.length ≤ 400 := by omega
    clear hn'
    have HU2 := HU
    clear HU HU2
    generalize hbb : B.take n' = b' at *
    clear hbb
    generalize B.length = bl at *
    have hstop : ∀ (h : n' = 400 ∧ 400 < bl ∨ n' = bl ∧ bl ≤ 400), True := fun _ => trivial
    clear hstop
    rcases hcases with ⟨rfl, hlt⟩ | ⟨rfl, hlt⟩
    all_goals
      go_wp2_with fail
      have hbl := HBL.out
      have HBK := Lw.hid (HB.out.kept K15.out (fun _ _ h => h))
      refine (decode_any _ _ b' (rdb_cast' hbl HBK.out) (by omega) (HM.out.kept K15.out) (HTB.out.below (Below.of_kept K15.out))).mono ?_
      clear hbl
      generalize w15.alloc (.cells #[.int .u8 (zeroF.kind : Int), .int .u32 (zeroF.ses : Int), .int .u32 (zeroF.ep : Int), .int .u32 (zeroF.num : Int), .int .u32 (zeroF.ack : Int), .int .u32 (zeroF.mask : Int), (.slice ad15 zeroF.p.length cap15)] 46 (0, 0)) = w16 at *
      by_cases h0 : (decF b').2.2 = 0
      · have hok := decF_ok (b := b') (f := (decF b').1) (t := (decF b').2.1) (by rw [← h0])
        obtain ⟨xm, xo, xt, xe, _, _⟩ := hok
        rw [h0]
        generalize (decF b').1 = X at *
        generalize (decF b').2.1 = ot at *
        clear h0
        have hX9 : X.p.length ≤ 256 := may_len xm
        have XM := Lw.hid xm; have XO := Lw.hid xo; have XT := Lw.hid xt; have XE := Lw.hid xe
        clear xm xo xt xe
        rintro e w17 ⟨ad17, cap17, rfl, hx, k17, _⟩
        have k18 := (K15.out.trans k17 (fun _ _ h => h)).alloc (.cells #[.int .u8 (X.kind : Int), .int .u32 (X.ses : Int), .int .u32 (X.ep : Int), .int .u32 (X.num : Int), .int .u32 (X.ack : Int), .int .u32 (X.mask : Int), (.slice ad17 X.p.length cap17)] 46 (0, 0))
        have x18 := hx.alloc (.cells #[.int .u8 (X.kind : Int), .int .u32 (X.ses : Int), .int .u32 (X.ep : Int), .int .u32 (X.num : Int), .int .u32 (X.ack : Int), .int .u32 (X.mask : Int), (.slice ad17 X.p.length cap17)] 46 (0, 0))
        have b18 := (HBK.out.kept k17 (fun _ _ h => h)).alloc (.cells #[.int .u8 (X.kind : Int), .int .u32 (X.ses : Int), .int .u32 (X.ep : Int), .int .u32 (X.num : Int), .int .u32 (X.ack : Int), .int .u32 (X.mask : Int), (.slice ad17 X.p.length cap17)] 46 (0, 0))
        have h18 := heap_alloc w17 (.cells #[.int .u8 (X.kind : Int), .int .u32 (X.ses : Int), .int .u32 (X.ep : Int), .int .u32 (X.num : Int), .int .u32 (X.ack : Int), .int .u32 (X.mask : Int), (.slice ad17 X.p.length cap17)] 46 (0, 0))
        have K18 := Lw.hid k18; have X18 := Lw.hid x18; have B18 := Lw.hid b18; have H18 := Lw.hid h18
        clear k18 x18 b18 h18 hx k17 K15 HBK
        rw [show (((0 : Nat) : Int)) = 0 from rfl]
        go_wp2_with fail
        refine (encode_ok _ X ot ad17 cap17 XO.out XM.out XT.out (HM.out.kept K18.out) (HTB.out.below (Below.of_kept K18.out)) X18.out).mono ?_
        rintro e w19 ⟨ade, cape, rfl, _, _, re, k19⟩
        rw [XE.out] at re
        have K19 := Lw.hid (K18.out.trans k19 (fun _ _ h => h)); have X19 := Lw.hid (X18.out.kept k19 (fun _ _ h => h)); have B19 := Lw.hid (B18.out.kept k19 (fun _ _ h => h)); have R19 := Lw.hid re
        have hh19 := k19.heap H18.out (fun h => h)
        clear re k19 K18 X18 B18 H18
        have c0 := heap_cell (hh19) 0
        have c1 := heap_cell (hh19) 1
        have c2 := heap_cell (hh19) 2
        have c3 := heap_cell (hh19) 3
        have c4 := heap_cell (hh19) 4
        have c5 := heap_cell (hh19) 5
        have c6 := heap_cell (hh19) 6
        clear hh19
        go_wp2_with fail
        clear c0 c1 c2 c3 c4 c5 c6
        refine (may_any _ X ad17 cap17 (HM.out.kept K19.out) true XM.out (by omega)).mono ?_
        rintro e w20 ⟨rfl, k20⟩
        have K20 := Lw.hid (K19.out.trans k20 (fun _ _ h => h)); have B20 := Lw.hid (B19.out.kept k20 (fun _ _ h => h)); have R20 := Lw.hid (R19.out.kept k20 (fun _ _ h => h))
        clear k20 K19 X19 B19 R19
        go_wp2_with fail
        refine (sleq_any _ _ _ b' b' R20.out B20.out true (by simp)).mono ?_
        rintro e w21 ⟨rfl, k21⟩
        have K21 := Lw.hid (K20.out.trans k21 (fun _ _ h => h))
        clear k21 K20 B20 R20
        go_wp2_with fail
        refine (ftells_any _ (HM.out.kept K21.out)).mono ?_
        rintro e w22 ⟨rfl, k22⟩
        go_wp2_with fail
        go_ret
        exact ⟨rfl, Below.of_kept (K21.out.trans k22 (fun _ _ h => h))⟩
      · obtain ⟨z1, z2, z3⟩ := decF_no h0
        rw [z1, z2]
        generalize (decF b').2.2 = er at *
        clear z1 z2 h0
        rintro e w17 ⟨ad17, cap17, rfl, hx, k17, _⟩
        have k18 := (K15.out.trans k17 (fun _ _ h => h)).alloc (.cells #[.int .u8 (zeroF.kind : Int), .int .u32 (zeroF.ses : Int), .int .u32 (zeroF.ep : Int), .int .u32 (zeroF.num : Int), .int .u32 (zeroF.ack : Int), .int .u32 (zeroF.mask : Int), (.slice ad17 zeroF.p.length cap17)] 46 (0, 0))
        have x18 := hx.alloc (.cells #[.int .u8 (zeroF.kind : Int), .int .u32 (zeroF.ses : Int), .int .u32 (zeroF.ep : Int), .int .u32 (zeroF.num : Int), .int .u32 (zeroF.ack : Int), .int .u32 (zeroF.mask : Int), (.slice ad17 zeroF.p.length cap17)] 46 (0, 0))
        have K18 := Lw.hid k18; have X18 := Lw.hid x18
        clear k18 x18 hx k17 K15 HBK
        rw [show (((0 : Nat) : Int)) = 0 from rfl]
        rcases z3 with rfl | rfl | rfl
        all_goals
          go_wp2_with fail
          refine (same_any _ zeroF zeroF _ _ X18.out (RdB.nil _) true ((same_iff _ _).2 rfl)).mono ?_
          rintro e w19 ⟨rfl, k19⟩
          have K19 := Lw.hid (K18.out.trans k19 (fun _ _ h => h))
          clear k19
          go_wp2_with fail
          refine (ftells_any _ (HM.out.kept K19.out)).mono ?_
          rintro e w20 ⟨rfl, k20⟩
          go_wp2_with fail
          go_ret
          exact ⟨rfl, Below.of_kept (K19.out.trans k20 (fun _ _ h => h))⟩
end Go.Proofs.YtcmipliglcakdaaDoor
