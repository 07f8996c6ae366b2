/- Chapter 13: like; ResumeReads, walked. -/
import Derived.Test.YtbmfnepbdfnlaaaRRBytes
import Derived.Test.YtbmfnepbdfnlaaaRRParse
import Derived.Test.YtbmfnepbdfnlaaaBEq
import Derived.Test.YtbmfnepbdfnlaaaChain
namespace Go.Proofs.Ytbmfnepbdfnlaaa
open Go Go.RowKit Go.Lw
set_option maxRecDepth 100000
set_option linter.unusedVariables false
set_option linter.unusedSimpArgs false
set_option maxHeartbeats 8000000 in
theorem like_any (w : World) (nx : Nat) (v u : Value) (l : List Hv) (hv : RdH w v l) (hu : RdH w u l) (hl9 : l.length ≤ 1000000) :
    Calls Try.prog 33 #[askV nx v, askV nx u] w fun x w' => x = .returned (.bool true) ∧ Kept (fun _ => False) w w' := by
  obtain ⟨ad, m, cap, rfl⟩ := hv.sl
  obtain ⟨ad2, m2, cap2, rfl⟩ := hu.sl
  obtain ⟨wa, hwa⟩ : ∃ wa, (w.alloc (.cells #[.int .u32 (nx : Int), .slice ad m cap] 26)).alloc (.cells #[.int .u32 (nx : Int), .slice ad2 m2 cap2] 44) = wa := ⟨_, rfl⟩
  have KA : Hid (Kept (fun _ => False) w wa) := Lw.hid (by rw [← hwa]; exact ((Kept.refl _ w).alloc _).alloc _)
  have HA : Hid (wa.heap[w.heap.size]? = some (.cells #[u32v nx, .slice ad m cap] 26 (0, 0))) := Lw.hid (by rw [← hwa]; exact heap_alloc_lt (heap_at _ _ rfl))
  have HB : Hid (wa.heap[w.heap.size + 1]? = some (.cells #[u32v nx, .slice ad2 m2 cap2] 44 (0, 0))) := Lw.hid (by rw [← hwa]; exact heap_at _ _ (by simp))
  have HV : Hid (RdH wa (.slice ad m cap) l) := Lw.hid (hv.keptF KA.out)
  have HU : Hid (RdH wa (.slice ad2 m2 cap2) l) := Lw.hid (hu.keptF KA.out)
  have HWA := Lw.hid hwa
  clear hwa hv hu
  go_enter Try.func33, Try.ntmps33
  go_upto_region 1 with fail
  rw [HWA.out]
  refine wp_region_kept [stV (.pointer (some ⟨w.heap.size, 0, none⟩)), stV (u32v nx), stV (.pointer (some ⟨w.heap.size + 1, 0, none⟩)), stV (u32v nx), stV (.bool true), stV (.bool true), stV (askV nx (.slice ad m cap)), stA nx wa.heap.size l, stO wa.heap.size l, stV (.pointer (some ⟨w.heap.size + 1, 1, none⟩)), stV (.slice ad2 m2 cap2), stV (.bool true), stV (.bool true), stV (.bool true)] (by kernel_rfl) (by kernel_rfl) ?_ ?_
  · -- each operation by itself
    refine ssteps_cons (fun a' w' hI hag hf K hK => ?_) ?_
    · have s2 := hag.same 2 (by decide)
      clear hag
      go_wp2_with fail
      exact hK _ _ hI (Kept.refl _ _) rfl
    refine ssteps_cons (fun a' w' hI hag hf K hK => ?_) ?_
    · obtain ⟨⟨_, h0, rfl⟩, -⟩ : SFacts _ _ a' w' [0] := hf
      clear hag
      have hh := hI.heap HA.out (fun h => h)
      have c0 := heap_cell hh 0; have c1 := heap_cell hh 1
      clear hh
      go_wp2_with fail
      exact hK _ _ hI (Kept.refl _ _) rfl
    refine ssteps_cons (fun a' w' hI hag hf K hK => ?_) ?_
    · have s3 := hag.same 3 (by decide)
      clear hag
      go_wp2_with fail
      exact hK _ _ hI (Kept.refl _ _) rfl
    refine ssteps_cons (fun a' w' hI hag hf K hK => ?_) ?_
    · obtain ⟨⟨_, h2, rfl⟩, -⟩ : SFacts _ _ a' w' [2] := hf
      clear hag
      have hh := hI.heap HB.out (fun h => h)
      have c0 := heap_cell hh 0; have c1 := heap_cell hh 1
      clear hh
      go_wp2_with fail
      exact hK _ _ hI (Kept.refl _ _) rfl
    refine ssteps_cons (fun a' w' hI hag hf K hK => ?_) ?_
    · obtain ⟨⟨_, h1, rfl⟩, ⟨_, h3, rfl⟩, -⟩ : SFacts _ _ a' w' [1, 3] := hf
      clear hag
      have hqq : ((nx : Int) == (nx : Int)) = true := by simp
      go_wp2_with fail
      exact hK _ _ hI (Kept.refl _ _) rfl
    refine ssteps_cons (fun a' w' hI hag hf K hK => ?_) ?_
    · obtain ⟨⟨_, h4, rfl⟩, -⟩ : SFacts _ _ a' w' [4] := hf
      clear hag
      go_wp2_with fail
      exact hK _ _ hI (Kept.refl _ _) rfl
    refine ssteps_cons (fun a' w' hI hag hf K hK => ?_) ?_
    · obtain ⟨⟨_, h5, rfl⟩, -⟩ : SFacts _ _ a' w' [5] := hf
      have s2 := hag.same 2 (by decide)
      clear hag
      have hh := hI.heap HA.out (fun h => h)
      have c0 := heap_cell hh 0; have c1 := heap_cell hh 1
      clear hh
      go_wp2_with fail
      exact hK _ _ hI (Kept.refl _ _) rfl
    refine ssteps_cons (fun a' w' hI hag hf K hK => ?_) ?_
    · obtain ⟨⟨_, h6, rfl⟩, ⟨_, h5, rfl⟩, -⟩ : SFacts _ _ a' w' [6, 5] := hf
      clear hag
      go_wp2_with fail
      refine (of_any w' nx _ l (HV.out.keptF hI) hl9).mono ?_
      rintro e w4 ⟨v4, rfl, ho, k4⟩
      have HO : Hid (OwnH wa.heap.size l v4 w4) := Lw.hid ⟨ho.1, fun k hk => ⟨Nat.le_trans hI.size (ho.2 k hk).1, (ho.2 k hk).2⟩⟩
      clear ho
      go_wp2_with fail
      exact hK _ _ (hI.trans k4 (fun _ _ h => h)) k4 ⟨_, rfl, HO.out⟩
    refine ssteps_cons (fun a' w' hI hag hf K hK => ?_) ?_
    · obtain ⟨⟨v7, h7, e7⟩, ⟨_, h5, rfl⟩, -⟩ : SFacts _ _ a' w' [7, 5] := hf
      clear hag
      obtain ⟨u8, rfl, hu8⟩ := e7
      obtain ⟨b8, n8, c8, rfl⟩ := hu8.1.sl
      have HU8 : Hid (OwnH wa.heap.size l (.slice b8 n8 c8) _) := Lw.hid hu8
      clear hu8
      have hfd : ∀ w : World, (Instr.field 44 (.agg #[.int .u32 (nx : Int), .slice b8 n8 c8]) 1).run Try.prog w = .ok (.slice b8 n8 c8) w := fun _ => by kernel_rfl
      go_wp2_with fail
      exact hK _ _ hI (Kept.refl _ _) HU8.out
    refine ssteps_cons (fun a' w' hI hag hf K hK => ?_) ?_
    · obtain ⟨⟨_, h5, rfl⟩, -⟩ : SFacts _ _ a' w' [5] := hf
      have s3 := hag.same 3 (by decide)
      clear hag
      go_wp2_with fail
      exact hK _ _ hI (Kept.refl _ _) rfl
    refine ssteps_cons (fun a' w' hI hag hf K hK => ?_) ?_
    · obtain ⟨⟨_, h9, rfl⟩, ⟨_, h5, rfl⟩, -⟩ : SFacts _ _ a' w' [9, 5] := hf
      clear hag
      have hh := hI.heap HB.out (fun h => h)
      have c0 := heap_cell hh 0; have c1 := heap_cell hh 1
      clear hh
      go_wp2_with fail
      exact hK _ _ hI (Kept.refl _ _) rfl
    refine ssteps_cons (fun a' w' hI hag hf K hK => ?_) ?_
    · obtain ⟨⟨v8, h8, e8⟩, ⟨_, h10, rfl⟩, -, ⟨_, h5, rfl⟩, -⟩ : SFacts _ _ a' w' [8, 10, 7, 5] := hf
      clear hag
      have E8 : Hid (OwnH wa.heap.size l _ _) := Lw.hid e8
      clear e8
      go_wp2_with fail
      refine (eqr_any w' _ _ l l E8.out.1 (HU.out.keptF hI) true (by simp)).mono ?_
      rintro e w4 ⟨rfl, k4⟩
      go_wp2_with fail
      exact hK _ _ (hI.trans k4 (fun _ _ h => h)) k4 rfl
    refine ssteps_cons (fun a' w' hI hag hf K hK => ?_) ?_
    · obtain ⟨⟨_, h5, rfl⟩, ⟨_, h11, rfl⟩, -⟩ : SFacts _ _ a' w' [5, 11] := hf
      clear hag
      go_wp2_with fail
      exact hK _ _ hI (Kept.refl _ _) rfl
    refine ssteps_cons (fun a' w' hI hag hf K hK => ?_) ?_
    · obtain ⟨⟨_, h12, rfl⟩, -⟩ : SFacts _ _ a' w' [12, 11, 0, 1, 2, 3, 4, 5, 6, 7, 8, 9, 10] := hf
      clear hag
      go_wp2_with fail
      exact hK _ _ hI (Kept.refl _ _) rfl
    exact trivial
  · intro a' w' hI hag hf
    obtain ⟨_, h13, rfl⟩ := hf 13 (by decide)
    have hd : a'.defers = [] := hag.defs
    clear hf hag
    go_wp2_with fail
    exact bodyPost_ret (v := .bool true) (by simp [results, Try.results33, go_sem, h13]) hd ⟨rfl, KA.out.trans hI (fun _ _ h => h)⟩
theorem rdb_sl {w : World} {v : Value} {l : List UInt8} (h : RdB w v l) : ∃ a n c, v = .slice a n c := by
  obtain ⟨a, c, e, _⟩ := h.open
  exact ⟨a, _, c, e⟩
def stAR (B nx lo : Nat) (l : List Hv) (hlt : B < lo) : StableR (Kept (fun k => k = B)) := ⟨fun v w => ∃ u, v = .agg #[u32v nx, u] ∧ OwnH lo l u w, fun _ _ _ hk ⟨u, e, h⟩ => ⟨u, e, h.1.kept hk (fun i hi e => by have := (h.2 i hi).1; omega), fun i hi => ⟨(h.2 i hi).1, Nat.lt_of_lt_of_le (h.2 i hi).2 hk.size⟩⟩⟩
def rT {R : World → World → Prop} : StableR R := ⟨fun _ _ => True, fun _ _ _ _ h => h⟩
/-- The argument's box, kept few: ahead of the store, and behind it. -/
def RI (w wa : World) (nx : Nat) (l : List Hv) (s : Nat) (w' : World) : Prop := if s = 0 then Kept (fun _ => False) wa w' else ∃ adx mx cpx, w'.heap[w.heap.size]? = some (.cells #[u32v nx, .slice adx mx cpx] 26 (0, 0)) ∧ RdH w' (.slice adx mx cpx) l ∧ Kept (fun _ => False) w w'
theorem RI.kept {w wa : World} {nx : Nat} {l : List Hv} {s : Nat} {a b : World} (h : RI w wa nx l s a) (k : Kept (fun _ => False) a b) : RI w wa nx l s b := by
  unfold RI at *
  split at h
  · rename_i e; rw [if_pos e]; exact h.trans k (fun _ _ h => h)
  · rename_i e; rw [if_neg e]
    obtain ⟨ad, m, c, h1, h2, h3⟩ := h
    exact ⟨ad, m, c, k.heap h1 (fun h => h), h2.keptF k, h3.trans k (fun _ _ h => h)⟩
set_option maxHeartbeats 16000000 in
theorem rreads_any (w : World) (nx : Nat) (v : Value) (l0 : List Hv) (hl : RdH w v l0) (hnx : nx < 4294967296) (src : Value) (b0 : List UInt8) (hb : RdB w src b0) :
    Calls Try.prog 5 #[askV nx v, src] w fun x w' => x = .returned (.bool true) ∧ Below w.heap.size w w' := by
  obtain ⟨ad, m0, cap, rfl⟩ := hl.sl
  obtain ⟨adb, capb, rfl, hb1, hb2, _⟩ := hb.open
  unfold maxLen at hb2
  obtain ⟨l, hlq⟩ : ∃ l, l0.take 20 = l := ⟨_, rfl⟩
  have HLN : Hid (l.length ≤ 20) := Lw.hid (by rw [← hlq]; exact List.length_take_le _ _)
  obtain ⟨b, hbq⟩ : ∃ b, b0.take 300 = b := ⟨_, rfl⟩
  have HBN : Hid (b.length ≤ 300) := Lw.hid (by rw [← hbq]; exact List.length_take_le _ _)
  obtain ⟨mb, hmb⟩ : ∃ mb, b0.length = mb := ⟨_, rfl⟩
  rw [hmb] at hb1 hb ⊢
  obtain ⟨wa, hwa⟩ : ∃ wa, w.alloc (.cells #[.int .u32 (nx : Int), .slice ad m0 cap] 26) = wa := ⟨_, rfl⟩
  have KA : Hid (Kept (fun _ => False) w wa) := Lw.hid (by rw [← hwa]; exact (Kept.refl _ w).alloc _)
  have HA : Hid (wa.heap[w.heap.size]? = some (.cells #[u32v nx, .slice ad m0 cap] 26 (0, 0))) := Lw.hid (by rw [← hwa]; exact heap_at _ _ rfl)
  have HL : Hid (RdH wa (.slice ad m0 cap) l0) := Lw.hid (hl.keptF KA.out)
  have HSZ : Hid (wa.heap.size = w.heap.size + 1) := Lw.hid (by rw [← hwa]; simp)
  have HLT : Hid (w.heap.size < wa.heap.size) := Lw.hid (by rw [← hwa]; simp)
  have HB : Hid (RdB w (.slice adb mb capb) b0) := Lw.hid hb
  have HWA := Lw.hid hwa; have HLQ := Lw.hid hlq; have HBQ := Lw.hid hbq; have HMB := Lw.hid hmb
  clear hwa hl hb hlq hbq hmb
  go_enter Try.func5, Try.ntmps5
  go_upto_region 1 with fail
  rw [HWA.out]
  by_cases hc : 300 < mb
  · have htok : True := trivial
    refine wp_region_chain 8 [7] (RI w wa nx l) (Kept (fun k => k = w.heap.size)) [rV (askV nx (.slice ad m0 cap)), stAR w.heap.size nx wa.heap.size l HLT.out, rV (.slice adb mb capb), rV (.slice adb mb capb), rV (.int .i64 (mb : Int)), rV (.int .i64 300), rV (.slice adb 300 capb), rT] (by kernel_rfl) (by kernel_rfl) ?_ ?_ ?_
    case refine_1 => exact ((Kept.refl (fun _ => False) wa).drew : Kept (fun _ => False) wa wa.drew)
    case refine_2 =>
      refine csteps_pre 0 7 (by decide) rfl (by kernel_rfl) (fun s hsle a' w' hI hag hf K hK => ?_) ?_
      · have s2 := hag.same 2 (by decide)
        clear hag
        obtain rfl : s = 0 := by omega
        have hI : Kept (fun _ => False) wa w' := hI
        have hh := hI.heap HA.out (fun h => h)
        have c0 := heap_cell hh 0; have c1 := heap_cell hh 1
        clear hh
        go_wp2_with fail
        exact hK _ _ hI (Kept.refl _ _) rfl
      refine csteps_pre 0 7 (by decide) rfl (by kernel_rfl) (fun s hsle a' w' hI hag hf K hK => ?_) ?_
      · obtain ⟨⟨_, h0, rfl⟩, -⟩ : SFacts _ _ a' w' [0] := hf
        clear hag
        obtain rfl : s = 0 := by omega
        have hI : Kept (fun _ => False) wa w' := hI
        go_wp2_with fail
        refine (few_any w' nx _ l0 (HL.out.keptF hI)).mono ?_
        rw [HLQ.out]
        rintro e w4 ⟨v4, rfl, ho, k4⟩
        have HO : Hid (OwnH wa.heap.size l v4 w4) := Lw.hid ⟨ho.1, fun k hk => ⟨Nat.le_trans hI.size (ho.2 k hk).1, (ho.2 k hk).2⟩⟩
        clear ho
        go_wp2_with fail
        exact hK _ _ (hI.trans k4 (fun _ _ h => h) : Kept (fun _ => False) wa w4) (k4.mono (fun _ _ h => h.elim)) ⟨_, rfl, HO.out⟩
      refine csteps_free (by decide) (fun s a' w' hI hag hf K hK => ?_) ?_
      · have s1 := hag.same 1 (by decide)
        clear hag
        go_wp2_with fail
        exact hK _ _ hI (Kept.refl _ _) rfl
      refine csteps_free (by decide) (fun s a' w' hI hag hf K hK => ?_) ?_
      · have s1 := hag.same 1 (by decide)
        clear hag
        go_wp2_with fail
        exact hK _ _ hI (Kept.refl _ _) rfl
      refine csteps_free (by decide) (fun s a' w' hI hag hf K hK => ?_) ?_
      · obtain ⟨⟨_, h3, rfl⟩, -⟩ : SFacts _ _ a' w' [3] := hf
        clear hag
        go_wp2_with fail
        exact hK _ _ hI (Kept.refl _ _) rfl
      refine csteps_free (by decide) (fun s a' w' hI hag hf K hK => ?_) ?_
      · obtain ⟨⟨_, h4, rfl⟩, -⟩ : SFacts _ _ a' w' [4] := hf
        clear hag
        go_wp2_with fail
        exact hK _ _ hI (Kept.refl _ _) rfl
      refine csteps_free (by decide) (fun s a' w' hI hag hf K hK => ?_) ?_
      · obtain ⟨⟨_, h2, rfl⟩, ⟨_, h5, rfl⟩, -⟩ : SFacts _ _ a' w' [2, 5] := hf
        clear hag
        go_wp2_with fail
        exact hK _ _ hI (Kept.refl _ _) rfl
      refine csteps_hit 0 rfl (fun a' w' hI hag hf K hK => ?_) ?_
      · obtain ⟨⟨v1, h1, e1⟩, -⟩ : SFacts _ _ a' w' [1, 0] := hf
        have s2 := hag.same 2 (by decide)
        clear hag
        have hI : Kept (fun _ => False) wa w' := hI
        obtain ⟨u, rfl, hu⟩ := e1
        obtain ⟨adx, mx, cpx, rfl⟩ := hu.1.sl
        have hA1 := hI.heap HA.out (fun h => h)
        have f0 := heap_free hA1 0; have f1 := heap_free hA1 1; have g0 := heap_cell hA1 0; have g1 := heap_cell hA1 1
        have k12 : Hid (Kept (fun k => k = w.heap.size) w' ((w'.setCell ⟨w.heap.size, 0, none⟩ (.int .u32 (nx : Int))).setCell ⟨w.heap.size, 1, none⟩ (.slice adx mx cpx))) := Lw.hid (((Kept.refl (fun k => k = w.heap.size) w').set _ _ (fun _ => rfl) _).set _ _ (fun _ => rfl) _)
        have HRI : Hid (RI w wa nx l 1 ((w'.setCell ⟨w.heap.size, 0, none⟩ (.int .u32 (nx : Int))).setCell ⟨w.heap.size, 1, none⟩ (.slice adx mx cpx))) := Lw.hid ⟨adx, mx, cpx, heap_set (heap_set hA1 0 _) 1 _, hu.1.kept k12.out (fun i hi e => by have := (hu.2 i hi).1; have := HLT.out; omega), (KA.out.trans hI (fun _ _ h => h)).trans k12.out (fun i hi e => by omega)⟩
        clear hu hA1
        go_wp2_with fail
        exact hK undef _ HRI.out k12.out trivial
      exact trivial
    case refine_3 =>
      intro vs w2 hI hvs
      have q0 : vs 0 = (askV nx (.slice ad m0 cap)) := hvs 0 _ _ rfl rfl
      have q1 := hvs 1 _ _ rfl rfl
      have q2 : vs 2 = (.slice adb mb capb) := hvs 2 _ _ rfl rfl
      have q3 : vs 3 = (.slice adb mb capb) := hvs 3 _ _ rfl rfl
      have q4 : vs 4 = (.int .i64 (mb : Int)) := hvs 4 _ _ rfl rfl
      have q5 : vs 5 = (.int .i64 300) := hvs 5 _ _ rfl rfl
      have q6 : vs 6 = (.slice adb 300 capb) := hvs 6 _ _ rfl rfl
      clear hvs
      simp only [List.take_succ_cons, List.take_zero, List.drop_succ_cons, List.drop_zero, putAll, Act.put, List.setIfInBounds_toArray, List.set_cons_zero, List.set_cons_succ, Nat.reduceAdd, q0, q2, q3, q4, q5, q6]
      clear q0 q2 q3 q4 q5 q6
      generalize vs 1 = x1 at *
      obtain ⟨adx, mx, cpx, hx2, hu2, k2⟩ := (show ∃ adx mx cpx, w2.heap[w.heap.size]? = some (.cells #[u32v nx, .slice adx mx cpx] 26 (0, 0)) ∧ RdH w2 (.slice adx mx cpx) l ∧ Kept (fun _ => False) w w2 from hI)
      have HX2 := Lw.hid hx2; have HU2 := Lw.hid hu2; have K2 := Lw.hid k2
      have HB2 : Hid (RdB w2 (.slice adb 300 capb) b) := Lw.hid (by have := RdB.take (HB.out.kept K2.out (fun _ _ h => h)) 300 (by omega); rwa [HBQ.out] at this)
      clear hx2 hu2 k2 hI q1
      go_upto_region 2 with fail
      have g0 := heap_cell HX2.out 0; have g1 := heap_cell HX2.out 1
      obtain ⟨F1, F2, hF⟩ : ∃ F1 F2, bytesF nx l = (F1, F2) := ⟨_, _, rfl⟩
      obtain ⟨p1, p2, p3, hPP⟩ : ∃ p1 p2 p3, parseF b = (p1, p2, p3) := ⟨_, _, _, rfl⟩
      have HFF := Lw.hid hF; have HPP := Lw.hid hPP
      clear hF hPP
      go_wp2_with fail
      refine (bytes_any w2 nx _ l HU2.out hnx (by have := HLN.out; omega)).mono ?_
      rw [HFF.out]
      rintro e w3 ⟨r3, rfl, hr3, _, k3⟩
      obtain ⟨a3, n3, c3, rfl⟩ := rdb_sl hr3
      have hx3 := k3.heap HX2.out (fun h => h)
      have HR3 := Lw.hid hr3; have K3 := Lw.hid (K2.out.trans k3 (fun _ _ h => h)); have HX3 := Lw.hid hx3; have HU3 := Lw.hid (HU2.out.keptF k3); have HB3 := Lw.hid (HB2.out.kept k3 (fun _ _ h => h))
      clear hr3 k3 hx3 g0 g1
      have g0 := heap_cell HX3.out 0; have g1 := heap_cell HX3.out 1
      go_wp2_with fail
      refine (of_any w3 nx _ l HU3.out (by have := HLN.out; omega)).mono ?_
      rintro e w4 ⟨v4, rfl, ho4, k4⟩
      obtain ⟨a4, n4, c4, rfl⟩ := ho4.1.sl
      have HO4 := Lw.hid ho4.1; have K4 := Lw.hid k4
      clear ho4 k4
      go_wp2_with fail
      refine (rbytes_any w4 nx _ l HO4.out hnx (by have := HLN.out; omega)).mono ?_
      rw [HFF.out]
      rintro e w5 ⟨r5, rfl, hr5, _, k5⟩
      obtain ⟨a5, n5, c5, rfl⟩ := rdb_sl hr5
      have HR5 := Lw.hid hr5; have K35 := Lw.hid (K4.out.trans k5 (fun _ _ h => h)); have K5 := Lw.hid (K3.out.trans K35.out (fun _ _ h => h))
      clear hr5 k5
      go_wp2_with fail
      refine (parse_any w5 _ b (HB3.out.kept K35.out (fun _ _ h => h)) (by have := HBN.out; omega)).mono ?_
      rw [HPP.out]
      rintro e w6 ⟨r6, rfl, hr6, k6⟩
      obtain ⟨a6, n6, c6, rfl⟩ := hr6.1.sl
      obtain ⟨w7, hw7⟩ : ∃ w7, w6.alloc (.cells #[.int .u32 (p1 : Int), .slice a6 n6 c6] 26) = w7 := ⟨_, rfl⟩
      obtain ⟨B7, hB7⟩ : ∃ B7, w6.heap.size = B7 := ⟨_, rfl⟩
      have K57 : Hid (Kept (fun _ => False) w5 w7) := Lw.hid (by rw [← hw7]; exact k6.alloc _)
      have HX7 : Hid (w7.heap[B7]? = some (.cells #[u32v p1, .slice a6 n6 c6] 26 (0, 0))) := Lw.hid (by rw [← hw7, ← hB7]; exact heap_at _ _ rfl)
      have HR7 : Hid (RdH w7 (.slice a6 n6 c6) p2) := Lw.hid (by rw [← hw7]; exact hr6.1.keptF ((Kept.refl _ w6).alloc _))
      have HW7 := Lw.hid hw7; have HB7 := Lw.hid hB7
      clear hr6 k6 hw7 hB7 g0 g1
      go_upto_region 5 with fail
      rw [HW7.out, HB7.out]
      go_wp2_with fail
      refine (rparse_any w7 _ b (HB3.out.kept (K35.out.trans K57.out (fun _ _ h => h)) (fun _ _ h => h)) (by have := HBN.out; omega)).mono ?_
      rw [HPP.out]
      rintro e w8 ⟨r8, rfl, hr8, k8⟩
      obtain ⟨a8, n8, c8, rfl⟩ := hr8.1.sl
      obtain ⟨w9, hw9⟩ : ∃ w9, w8.alloc (.cells #[.int .u32 (p1 : Int), .slice a8 n8 c8] 44) = w9 := ⟨_, rfl⟩
      obtain ⟨B9, hB9⟩ : ∃ B9, w8.heap.size = B9 := ⟨_, rfl⟩
      have K79 : Hid (Kept (fun _ => False) w7 w9) := Lw.hid (by rw [← hw9]; exact k8.alloc _)
      have HX9 : Hid (w9.heap[B9]? = some (.cells #[u32v p1, .slice a8 n8 c8] 44 (0, 0))) := Lw.hid (by rw [← hw9, ← hB9]; exact heap_at _ _ rfl)
      have HR9 : Hid (RdH w9 (.slice a8 n8 c8) p2) := Lw.hid (by rw [← hw9]; exact hr8.1.keptF ((Kept.refl _ w8).alloc _))
      have HW9 := Lw.hid hw9; have HB9 := Lw.hid hB9
      have K59 := Lw.hid (K57.out.trans K79.out (fun _ _ h => h)); have K39 := Lw.hid (K35.out.trans K59.out (fun _ _ h => h)); have K9 := Lw.hid (K3.out.trans K39.out (fun _ _ h => h))
      have HC7 := Lw.hid (K79.out.heap HX7.out (fun h => h)); have HC3 := Lw.hid (K39.out.heap HX3.out (fun h => h)); have HD7 := Lw.hid (HR7.out.keptF K79.out)
      have HU9 := Lw.hid (HU3.out.keptF K39.out); have HE3 := Lw.hid (HR3.out.kept K39.out (fun _ _ h => h)); have HE5 := Lw.hid (HR5.out.kept K59.out (fun _ _ h => h))
      have HP2 : Hid (p2.length ≤ 1000) := Lw.hid (by have := HPP.out; unfold parseF at this; split at this; (obtain ⟨-, rfl, -⟩ := this; simp); split at this; (obtain ⟨-, rfl, -⟩ := this; simp); (obtain ⟨-, rfl, -⟩ := this; rename_i h1 h2; have := HBN.out; simp only [decs, List.length_map, List.length_range]; omega))
      obtain ⟨mb9, hmb9⟩ : ∃ x, mayF nx l = x := ⟨_, rfl⟩
      have HMB9 := Lw.hid hmb9
      clear hr8 k8 hw9 hB9 hmb9
      go_upto_region 6 with fail
      rw [HW9.out, HB9.out]
      refine wp_region_kept [stV (.slice a3 n3 c3), stV (.slice a5 n5 c5), stV (.bool true), stV (.bool true), stV (.int .i64 (F2 : Int)), stV (.int .i64 (F2 : Int)), stV (.bool true), stV (.bool true), stV (.bool true), stV (askV nx (.slice adx mx cpx)), stV (.bool mb9), stV (askV nx (.slice adx mx cpx)), stA nx w9.heap.size l, stV (.bool mb9), stV (.bool true), stV (.bool true), stV (.bool true), stV (askV p1 (.slice a6 n6 c6)), stV (askV p1 (.slice a8 n8 c8)), stV (.bool true), stV (.bool true), stV (.bool true), stV (.int .i64 (p3 : Int)), stV (.int .i64 (p3 : Int)), stV (.bool true), stV (.bool true), stV (.bool true), stV (.bool true), stV (.bool true), stV (.bool true)] (by kernel_rfl) (by kernel_rfl) ?_ ?_
      · -- each operation by itself
        refine ssteps_cons (fun a' w' hI hag hf K hK => ?_) ?_
        · have s5 := hag.same 5 (by decide)
          clear hag
          go_wp2_with fail
          exact hK _ _ hI (Kept.refl _ _) rfl
        refine ssteps_cons (fun a' w' hI hag hf K hK => ?_) ?_
        · have s7 := hag.same 7 (by decide)
          clear hag
          go_wp2_with fail
          exact hK _ _ hI (Kept.refl _ _) rfl
        refine ssteps_cons (fun a' w' hI hag hf K hK => ?_) ?_
        · obtain ⟨⟨_, h0, rfl⟩, ⟨_, h1, rfl⟩, -⟩ : SFacts _ _ a' w' [0, 1] := hf
          clear hag
          go_wp2_with fail
          refine (bequal_any w' _ _ F1 F1 (HE3.out.kept hI (fun _ _ h => h)) (HE5.out.kept hI (fun _ _ h => h)) true (by simp)).mono ?_
          rintro e w4 ⟨rfl, rfl⟩
          go_wp2_with fail
          exact hK _ _ hI (Kept.refl _ _) rfl
        refine ssteps_cons (fun a' w' hI hag hf K hK => ?_) ?_
        · obtain ⟨⟨_, h2, rfl⟩, -⟩ : SFacts _ _ a' w' [2] := hf
          clear hag
          go_wp2_with fail
          exact hK _ _ hI (Kept.refl _ _) rfl
        refine ssteps_cons (fun a' w' hI hag hf K hK => ?_) ?_
        · obtain ⟨⟨_, h3, rfl⟩, -⟩ : SFacts _ _ a' w' [3] := hf
          have s6 := hag.same 6 (by decide)
          clear hag
          go_wp2_with fail
          exact hK _ _ hI (Kept.refl _ _) rfl
        refine ssteps_cons (fun a' w' hI hag hf K hK => ?_) ?_
        · obtain ⟨⟨_, h3, rfl⟩, -⟩ : SFacts _ _ a' w' [3] := hf
          have s8 := hag.same 8 (by decide)
          clear hag
          go_wp2_with fail
          exact hK _ _ hI (Kept.refl _ _) rfl
        refine ssteps_cons (fun a' w' hI hag hf K hK => ?_) ?_
        · obtain ⟨⟨_, h4, rfl⟩, ⟨_, h5, rfl⟩, ⟨_, h3, rfl⟩, -⟩ : SFacts _ _ a' w' [4, 5, 3] := hf
          clear hag
          have hqq : ((F2 : Int) == (F2 : Int)) = true := by simp
          go_wp2_with fail
          exact hK _ _ hI (Kept.refl _ _) rfl
        refine ssteps_cons (fun a' w' hI hag hf K hK => ?_) ?_
        · obtain ⟨⟨_, h3, rfl⟩, ⟨_, h6, rfl⟩, -⟩ : SFacts _ _ a' w' [3, 6] := hf
          clear hag
          go_wp2_with fail
          exact hK _ _ hI (Kept.refl _ _) rfl
        refine ssteps_cons (fun a' w' hI hag hf K hK => ?_) ?_
        · obtain ⟨⟨_, h7, rfl⟩, -⟩ : SFacts _ _ a' w' [7, 3] := hf
          clear hag
          go_wp2_with fail
          exact hK _ _ hI (Kept.refl _ _) rfl
        refine ssteps_cons (fun a' w' hI hag hf K hK => ?_) ?_
        · obtain ⟨⟨_, h8, rfl⟩, -⟩ : SFacts _ _ a' w' [8] := hf
          have s2 := hag.same 2 (by decide)
          clear hag
          have hh := hI.heap HC3.out (fun h => h)
          have c0 := heap_cell hh 0; have c1 := heap_cell hh 1
          clear hh
          go_wp2_with fail
          exact hK _ _ hI (Kept.refl _ _) rfl
        refine ssteps_cons (fun a' w' hI hag hf K hK => ?_) ?_
        · obtain ⟨⟨_, h9, rfl⟩, ⟨_, h8, rfl⟩, -⟩ : SFacts _ _ a' w' [9, 8] := hf
          clear hag
          go_wp2_with fail
          refine (may_any w' _ l (HU9.out.keptF hI) nx hnx (by have := HLN.out; omega)).mono ?_
          rintro e w4 ⟨rfl, k4⟩
          rw [HMB9.out]
          go_wp2_with fail
          exact hK _ _ (hI.trans k4 (fun _ _ h => h)) k4 rfl
        refine ssteps_cons (fun a' w' hI hag hf K hK => ?_) ?_
        · obtain ⟨⟨_, h8, rfl⟩, -⟩ : SFacts _ _ a' w' [8] := hf
          have s2 := hag.same 2 (by decide)
          clear hag
          have hh := hI.heap HC3.out (fun h => h)
          have c0 := heap_cell hh 0; have c1 := heap_cell hh 1
          clear hh
          go_wp2_with fail
          exact hK _ _ hI (Kept.refl _ _) rfl
        refine ssteps_cons (fun a' w' hI hag hf K hK => ?_) ?_
        · obtain ⟨⟨_, h11, rfl⟩, -, ⟨_, h8, rfl⟩, -⟩ : SFacts _ _ a' w' [11, 10, 8] := hf
          clear hag
          go_wp2_with fail
          refine (of_any w' nx _ l (HU9.out.keptF hI) (by have := HLN.out; omega)).mono ?_
          rintro e w4 ⟨v4, rfl, ho, k4⟩
          have HO : Hid (OwnH w9.heap.size l v4 w4) := Lw.hid ⟨ho.1, fun k hk => ⟨Nat.le_trans hI.size (ho.2 k hk).1, (ho.2 k hk).2⟩⟩
          clear ho
          go_wp2_with fail
          exact hK _ _ (hI.trans k4 (fun _ _ h => h)) k4 ⟨_, rfl, HO.out⟩
        refine ssteps_cons (fun a' w' hI hag hf K hK => ?_) ?_
        · obtain ⟨⟨v12, h12, e12⟩, ⟨_, h8, rfl⟩, -⟩ : SFacts _ _ a' w' [12, 8] := hf
          clear hag
          obtain ⟨u12, rfl, hu12⟩ := e12
          have HU12 : Hid (OwnH w9.heap.size l u12 _) := Lw.hid hu12
          clear hu12
          go_wp2_with fail
          refine (rmay_any w' _ l HU12.out.1 nx hnx (by have := HLN.out; omega)).mono ?_
          rintro e w4 ⟨rfl, k4⟩
          rw [HMB9.out]
          go_wp2_with fail
          exact hK _ _ (hI.trans k4 (fun _ _ h => h)) k4 rfl
        refine ssteps_cons (fun a' w' hI hag hf K hK => ?_) ?_
        · obtain ⟨⟨_, h10, rfl⟩, ⟨_, h13, rfl⟩, ⟨_, h8, rfl⟩, -⟩ : SFacts _ _ a' w' [10, 13, 8] := hf
          clear hag
          have hqq : (mb9 == mb9) = true := by simp
          go_wp2_with fail
          exact hK _ _ hI (Kept.refl _ _) rfl
        refine ssteps_cons (fun a' w' hI hag hf K hK => ?_) ?_
        · obtain ⟨⟨_, h8, rfl⟩, ⟨_, h14, rfl⟩, -⟩ : SFacts _ _ a' w' [8, 14] := hf
          clear hag
          go_wp2_with fail
          exact hK _ _ hI (Kept.refl _ _) rfl
        refine ssteps_cons (fun a' w' hI hag hf K hK => ?_) ?_
        · obtain ⟨⟨_, h15, rfl⟩, -⟩ : SFacts _ _ a' w' [15, 13] := hf
          clear hag
          go_wp2_with fail
          exact hK _ _ hI (Kept.refl _ _) rfl
        refine ssteps_cons (fun a' w' hI hag hf K hK => ?_) ?_
        · obtain ⟨⟨_, h16, rfl⟩, -⟩ : SFacts _ _ a' w' [16] := hf
          have s9 := hag.same 9 (by decide)
          clear hag
          have hh := hI.heap HC7.out (fun h => h)
          have c0 := heap_cell hh 0; have c1 := heap_cell hh 1
          clear hh
          go_wp2_with fail
          exact hK _ _ hI (Kept.refl _ _) rfl
        refine ssteps_cons (fun a' w' hI hag hf K hK => ?_) ?_
        · obtain ⟨⟨_, h16, rfl⟩, -⟩ : SFacts _ _ a' w' [16] := hf
          have s11 := hag.same 11 (by decide)
          clear hag
          have hh := hI.heap HX9.out (fun h => h)
          have c0 := heap_cell hh 0; have c1 := heap_cell hh 1
          clear hh
          go_wp2_with fail
          exact hK _ _ hI (Kept.refl _ _) rfl
        refine ssteps_cons (fun a' w' hI hag hf K hK => ?_) ?_
        · obtain ⟨⟨_, h17, rfl⟩, ⟨_, h18, rfl⟩, ⟨_, h16, rfl⟩, -⟩ : SFacts _ _ a' w' [17, 18, 16] := hf
          clear hag
          go_wp2_with fail
          refine (like_any w' p1 _ _ p2 (HD7.out.keptF hI) (HR9.out.keptF hI) (by have := HP2.out; omega)).mono ?_
          rintro e w4 ⟨rfl, k4⟩
          go_wp2_with fail
          exact hK _ _ (hI.trans k4 (fun _ _ h => h)) k4 rfl
        refine ssteps_cons (fun a' w' hI hag hf K hK => ?_) ?_
        · obtain ⟨⟨_, h16, rfl⟩, ⟨_, h19, rfl⟩, -⟩ : SFacts _ _ a' w' [16, 19] := hf
          clear hag
          go_wp2_with fail
          exact hK _ _ hI (Kept.refl _ _) rfl
        refine ssteps_cons (fun a' w' hI hag hf K hK => ?_) ?_
        · obtain ⟨⟨_, h20, rfl⟩, -⟩ : SFacts _ _ a' w' [20, 19] := hf
          clear hag
          go_wp2_with fail
          exact hK _ _ hI (Kept.refl _ _) rfl
        refine ssteps_cons (fun a' w' hI hag hf K hK => ?_) ?_
        · obtain ⟨⟨_, h21, rfl⟩, -⟩ : SFacts _ _ a' w' [21] := hf
          have s10 := hag.same 10 (by decide)
          clear hag
          go_wp2_with fail
          exact hK _ _ hI (Kept.refl _ _) rfl
        refine ssteps_cons (fun a' w' hI hag hf K hK => ?_) ?_
        · obtain ⟨⟨_, h21, rfl⟩, -⟩ : SFacts _ _ a' w' [21] := hf
          have s12 := hag.same 12 (by decide)
          clear hag
          go_wp2_with fail
          exact hK _ _ hI (Kept.refl _ _) rfl
        refine ssteps_cons (fun a' w' hI hag hf K hK => ?_) ?_
        · obtain ⟨⟨_, h22, rfl⟩, ⟨_, h23, rfl⟩, ⟨_, h21, rfl⟩, -⟩ : SFacts _ _ a' w' [22, 23, 21] := hf
          clear hag
          have hqq : ((p3 : Int) == (p3 : Int)) = true := by simp
          go_wp2_with fail
          exact hK _ _ hI (Kept.refl _ _) rfl
        refine ssteps_cons (fun a' w' hI hag hf K hK => ?_) ?_
        · obtain ⟨⟨_, h21, rfl⟩, ⟨_, h24, rfl⟩, -⟩ : SFacts _ _ a' w' [21, 24] := hf
          clear hag
          go_wp2_with fail
          exact hK _ _ hI (Kept.refl _ _) rfl
        refine ssteps_cons (fun a' w' hI hag hf K hK => ?_) ?_
        · obtain ⟨⟨_, h25, rfl⟩, -⟩ : SFacts _ _ a' w' [25, 21] := hf
          clear hag
          go_wp2_with fail
          exact hK _ _ hI (Kept.refl _ _) rfl
        refine ssteps_cons (fun a' w' hI hag hf K hK => ?_) ?_
        · obtain ⟨⟨_, h26, rfl⟩, -⟩ : SFacts _ _ a' w' [26] := hf
          clear hag
          go_wp2_with fail
          refine (rwakes_any w').mono ?_
          rintro e w4 ⟨rfl, k4⟩
          go_wp2_with fail
          exact hK _ _ (hI.trans k4 (fun _ _ h => h)) k4 rfl
        refine ssteps_cons (fun a' w' hI hag hf K hK => ?_) ?_
        · obtain ⟨⟨_, h26, rfl⟩, ⟨_, h27, rfl⟩, -⟩ : SFacts _ _ a' w' [26, 27] := hf
          clear hag
          go_wp2_with fail
          exact hK _ _ hI (Kept.refl _ _) rfl
        refine ssteps_cons (fun a' w' hI hag hf K hK => ?_) ?_
        · obtain ⟨⟨_, h28, rfl⟩, -⟩ : SFacts _ _ a' w' [28, 27, 0, 1, 2, 3, 4, 5, 6, 7, 8, 9, 10, 11, 12, 13, 14, 15, 16, 17, 18, 19, 20, 21, 22, 23, 24, 25, 26] := hf
          clear hag
          go_wp2_with fail
          exact hK _ _ hI (Kept.refl _ _) rfl
        exact trivial
      · intro a' w' hI hag hf
        obtain ⟨_, h29, rfl⟩ := hf 29 (by decide)
        have hd : a'.defers = [] := hag.defs
        clear hf hag
        go_wp2_with fail
        exact bodyPost_ret (v := .bool true) (by simp [results, Try.results5, go_sem, h29]) hd ⟨rfl, Below.of_kept (K9.out.trans hI (fun _ _ h => h))⟩
  · have htok : True := trivial
    refine wp_region_chain 8 [7] (RI w wa nx l) (Kept (fun k => k = w.heap.size)) [rV (askV nx (.slice ad m0 cap)), stAR w.heap.size nx wa.heap.size l HLT.out, rV (.slice adb mb capb), rV (.slice adb mb capb), rV (.int .i64 (mb : Int)), rV (.int .i64 (mb : Int)), rV (.slice adb mb capb), rT] (by kernel_rfl) (by kernel_rfl) ?_ ?_ ?_
    case refine_1 => exact ((Kept.refl (fun _ => False) wa).drew : Kept (fun _ => False) wa wa.drew)
    case refine_2 =>
      refine csteps_pre 0 7 (by decide) rfl (by kernel_rfl) (fun s hsle a' w' hI hag hf K hK => ?_) ?_
      · have s2 := hag.same 2 (by decide)
        clear hag
        obtain rfl : s = 0 := by omega
        have hI : Kept (fun _ => False) wa w' := hI
        have hh := hI.heap HA.out (fun h => h)
        have c0 := heap_cell hh 0; have c1 := heap_cell hh 1
        clear hh
        go_wp2_with fail
        exact hK _ _ hI (Kept.refl _ _) rfl
      refine csteps_pre 0 7 (by decide) rfl (by kernel_rfl) (fun s hsle a' w' hI hag hf K hK => ?_) ?_
      · obtain ⟨⟨_, h0, rfl⟩, -⟩ : SFacts _ _ a' w' [0] := hf
        clear hag
        obtain rfl : s = 0 := by omega
        have hI : Kept (fun _ => False) wa w' := hI
        go_wp2_with fail
        refine (few_any w' nx _ l0 (HL.out.keptF hI)).mono ?_
        rw [HLQ.out]
        rintro e w4 ⟨v4, rfl, ho, k4⟩
        have HO : Hid (OwnH wa.heap.size l v4 w4) := Lw.hid ⟨ho.1, fun k hk => ⟨Nat.le_trans hI.size (ho.2 k hk).1, (ho.2 k hk).2⟩⟩
        clear ho
        go_wp2_with fail
        exact hK _ _ (hI.trans k4 (fun _ _ h => h) : Kept (fun _ => False) wa w4) (k4.mono (fun _ _ h => h.elim)) ⟨_, rfl, HO.out⟩
      refine csteps_free (by decide) (fun s a' w' hI hag hf K hK => ?_) ?_
      · have s1 := hag.same 1 (by decide)
        clear hag
        go_wp2_with fail
        exact hK _ _ hI (Kept.refl _ _) rfl
      refine csteps_free (by decide) (fun s a' w' hI hag hf K hK => ?_) ?_
      · have s1 := hag.same 1 (by decide)
        clear hag
        go_wp2_with fail
        exact hK _ _ hI (Kept.refl _ _) rfl
      refine csteps_free (by decide) (fun s a' w' hI hag hf K hK => ?_) ?_
      · obtain ⟨⟨_, h3, rfl⟩, -⟩ : SFacts _ _ a' w' [3] := hf
        clear hag
        go_wp2_with fail
        exact hK _ _ hI (Kept.refl _ _) rfl
      refine csteps_free (by decide) (fun s a' w' hI hag hf K hK => ?_) ?_
      · obtain ⟨⟨_, h4, rfl⟩, -⟩ : SFacts _ _ a' w' [4] := hf
        clear hag
        go_wp2_with fail
        exact hK _ _ hI (Kept.refl _ _) rfl
      refine csteps_free (by decide) (fun s a' w' hI hag hf K hK => ?_) ?_
      · obtain ⟨⟨_, h2, rfl⟩, ⟨_, h5, rfl⟩, -⟩ : SFacts _ _ a' w' [2, 5] := hf
        clear hag
        go_wp2_with fail
        exact hK _ _ hI (Kept.refl _ _) rfl
      refine csteps_hit 0 rfl (fun a' w' hI hag hf K hK => ?_) ?_
      · obtain ⟨⟨v1, h1, e1⟩, -⟩ : SFacts _ _ a' w' [1, 0] := hf
        have s2 := hag.same 2 (by decide)
        clear hag
        have hI : Kept (fun _ => False) wa w' := hI
        obtain ⟨u, rfl, hu⟩ := e1
        obtain ⟨adx, mx, cpx, rfl⟩ := hu.1.sl
        have hA1 := hI.heap HA.out (fun h => h)
        have f0 := heap_free hA1 0; have f1 := heap_free hA1 1; have g0 := heap_cell hA1 0; have g1 := heap_cell hA1 1
        have k12 : Hid (Kept (fun k => k = w.heap.size) w' ((w'.setCell ⟨w.heap.size, 0, none⟩ (.int .u32 (nx : Int))).setCell ⟨w.heap.size, 1, none⟩ (.slice adx mx cpx))) := Lw.hid (((Kept.refl (fun k => k = w.heap.size) w').set _ _ (fun _ => rfl) _).set _ _ (fun _ => rfl) _)
        have HRI : Hid (RI w wa nx l 1 ((w'.setCell ⟨w.heap.size, 0, none⟩ (.int .u32 (nx : Int))).setCell ⟨w.heap.size, 1, none⟩ (.slice adx mx cpx))) := Lw.hid ⟨adx, mx, cpx, heap_set (heap_set hA1 0 _) 1 _, hu.1.kept k12.out (fun i hi e => by have := (hu.2 i hi).1; have := HLT.out; omega), (KA.out.trans hI (fun _ _ h => h)).trans k12.out (fun i hi e => by omega)⟩
        clear hu hA1
        go_wp2_with fail
        exact hK undef _ HRI.out k12.out trivial
      exact trivial
    case refine_3 =>
      intro vs w2 hI hvs
      have q0 : vs 0 = (askV nx (.slice ad m0 cap)) := hvs 0 _ _ rfl rfl
      have q1 := hvs 1 _ _ rfl rfl
      have q2 : vs 2 = (.slice adb mb capb) := hvs 2 _ _ rfl rfl
      have q3 : vs 3 = (.slice adb mb capb) := hvs 3 _ _ rfl rfl
      have q4 : vs 4 = (.int .i64 (mb : Int)) := hvs 4 _ _ rfl rfl
      have q5 : vs 5 = (.int .i64 (mb : Int)) := hvs 5 _ _ rfl rfl
      have q6 : vs 6 = (.slice adb mb capb) := hvs 6 _ _ rfl rfl
      clear hvs
      simp only [List.take_succ_cons, List.take_zero, List.drop_succ_cons, List.drop_zero, putAll, Act.put, List.setIfInBounds_toArray, List.set_cons_zero, List.set_cons_succ, Nat.reduceAdd, q0, q2, q3, q4, q5, q6]
      clear q0 q2 q3 q4 q5 q6
      generalize vs 1 = x1 at *
      obtain ⟨adx, mx, cpx, hx2, hu2, k2⟩ := (show ∃ adx mx cpx, w2.heap[w.heap.size]? = some (.cells #[u32v nx, .slice adx mx cpx] 26 (0, 0)) ∧ RdH w2 (.slice adx mx cpx) l ∧ Kept (fun _ => False) w w2 from hI)
      have HX2 := Lw.hid hx2; have HU2 := Lw.hid hu2; have K2 := Lw.hid k2
      have HB2 : Hid (RdB w2 (.slice adb mb capb) b) := Lw.hid (by have := RdB.take (HB.out.kept K2.out (fun _ _ h => h)) mb (by omega); rwa [show b0.take mb = b by rw [← HBQ.out, List.take_of_length_le (by rw [HMB.out]; exact Nat.le_refl _), List.take_of_length_le (by rw [HMB.out]; omega)]] at this)
      clear hx2 hu2 k2 hI q1
      go_upto_region 2 with fail
      have g0 := heap_cell HX2.out 0; have g1 := heap_cell HX2.out 1
      obtain ⟨F1, F2, hF⟩ : ∃ F1 F2, bytesF nx l = (F1, F2) := ⟨_, _, rfl⟩
      obtain ⟨p1, p2, p3, hPP⟩ : ∃ p1 p2 p3, parseF b = (p1, p2, p3) := ⟨_, _, _, rfl⟩
      have HFF := Lw.hid hF; have HPP := Lw.hid hPP
      clear hF hPP
      go_wp2_with fail
      refine (bytes_any w2 nx _ l HU2.out hnx (by have := HLN.out; omega)).mono ?_
      rw [HFF.out]
      rintro e w3 ⟨r3, rfl, hr3, _, k3⟩
      obtain ⟨a3, n3, c3, rfl⟩ := rdb_sl hr3
      have hx3 := k3.heap HX2.out (fun h => h)
      have HR3 := Lw.hid hr3; have K3 := Lw.hid (K2.out.trans k3 (fun _ _ h => h)); have HX3 := Lw.hid hx3; have HU3 := Lw.hid (HU2.out.keptF k3); have HB3 := Lw.hid (HB2.out.kept k3 (fun _ _ h => h))
      clear hr3 k3 hx3 g0 g1
      have g0 := heap_cell HX3.out 0; have g1 := heap_cell HX3.out 1
      go_wp2_with fail
      refine (of_any w3 nx _ l HU3.out (by have := HLN.out; omega)).mono ?_
      rintro e w4 ⟨v4, rfl, ho4, k4⟩
      obtain ⟨a4, n4, c4, rfl⟩ := ho4.1.sl
      have HO4 := Lw.hid ho4.1; have K4 := Lw.hid k4
      clear ho4 k4
      go_wp2_with fail
      refine (rbytes_any w4 nx _ l HO4.out hnx (by have := HLN.out; omega)).mono ?_
      rw [HFF.out]
      rintro e w5 ⟨r5, rfl, hr5, _, k5⟩
      obtain ⟨a5, n5, c5, rfl⟩ := rdb_sl hr5
      have HR5 := Lw.hid hr5; have K35 := Lw.hid (K4.out.trans k5 (fun _ _ h => h)); have K5 := Lw.hid (K3.out.trans K35.out (fun _ _ h => h))
      clear hr5 k5
      go_wp2_with fail
      refine (parse_any w5 _ b (HB3.out.kept K35.out (fun _ _ h => h)) (by have := HBN.out; omega)).mono ?_
      rw [HPP.out]
      rintro e w6 ⟨r6, rfl, hr6, k6⟩
      obtain ⟨a6, n6, c6, rfl⟩ := hr6.1.sl
      obtain ⟨w7, hw7⟩ : ∃ w7, w6.alloc (.cells #[.int .u32 (p1 : Int), .slice a6 n6 c6] 26) = w7 := ⟨_, rfl⟩
      obtain ⟨B7, hB7⟩ : ∃ B7, w6.heap.size = B7 := ⟨_, rfl⟩
      have K57 : Hid (Kept (fun _ => False) w5 w7) := Lw.hid (by rw [← hw7]; exact k6.alloc _)
      have HX7 : Hid (w7.heap[B7]? = some (.cells #[u32v p1, .slice a6 n6 c6] 26 (0, 0))) := Lw.hid (by rw [← hw7, ← hB7]; exact heap_at _ _ rfl)
      have HR7 : Hid (RdH w7 (.slice a6 n6 c6) p2) := Lw.hid (by rw [← hw7]; exact hr6.1.keptF ((Kept.refl _ w6).alloc _))
      have HW7 := Lw.hid hw7; have HB7 := Lw.hid hB7
      clear hr6 k6 hw7 hB7 g0 g1
      go_upto_region 5 with fail
      rw [HW7.out, HB7.out]
      go_wp2_with fail
      refine (rparse_any w7 _ b (HB3.out.kept (K35.out.trans K57.out (fun _ _ h => h)) (fun _ _ h => h)) (by have := HBN.out; omega)).mono ?_
      rw [HPP.out]
      rintro e w8 ⟨r8, rfl, hr8, k8⟩
      obtain ⟨a8, n8, c8, rfl⟩ := hr8.1.sl
      obtain ⟨w9, hw9⟩ : ∃ w9, w8.alloc (.cells #[.int .u32 (p1 : Int), .slice a8 n8 c8] 44) = w9 := ⟨_, rfl⟩
      obtain ⟨B9, hB9⟩ : ∃ B9, w8.heap.size = B9 := ⟨_, rfl⟩
      have K79 : Hid (Kept (fun _ => False) w7 w9) := Lw.hid (by rw [← hw9]; exact k8.alloc _)
      have HX9 : Hid (w9.heap[B9]? = some (.cells #[u32v p1, .slice a8 n8 c8] 44 (0, 0))) := Lw.hid (by rw [← hw9, ← hB9]; exact heap_at _ _ rfl)
      have HR9 : Hid (RdH w9 (.slice a8 n8 c8) p2) := Lw.hid (by rw [← hw9]; exact hr8.1.keptF ((Kept.refl _ w8).alloc _))
      have HW9 := Lw.hid hw9; have HB9 := Lw.hid hB9
      have K59 := Lw.hid (K57.out.trans K79.out (fun _ _ h => h)); have K39 := Lw.hid (K35.out.trans K59.out (fun _ _ h => h)); have K9 := Lw.hid (K3.out.trans K39.out (fun _ _ h => h))
      have HC7 := Lw.hid (K79.out.heap HX7.out (fun h => h)); have HC3 := Lw.hid (K39.out.heap HX3.out (fun h => h)); have HD7 := Lw.hid (HR7.out.keptF K79.out)
      have HU9 := Lw.hid (HU3.out.keptF K39.out); have HE3 := Lw.hid (HR3.out.kept K39.out (fun _ _ h => h)); have HE5 := Lw.hid (HR5.out.kept K59.out (fun _ _ h => h))
      have HP2 : Hid (p2.length ≤ 1000) := Lw.hid (by have := HPP.out; unfold parseF at this; split at this; (obtain ⟨-, rfl, -⟩ := this; simp); split at this; (obtain ⟨-, rfl, -⟩ := this; simp); (obtain ⟨-, rfl, -⟩ := this; rename_i h1 h2; have := HBN.out; simp only [decs, List.length_map, List.length_range]; omega))
      obtain ⟨mb9, hmb9⟩ : ∃ x, mayF nx l = x := ⟨_, rfl⟩
      have HMB9 := Lw.hid hmb9
      clear hr8 k8 hw9 hB9 hmb9
      go_upto_region 6 with fail
      rw [HW9.out, HB9.out]
      refine wp_region_kept [stV (.slice a3 n3 c3), stV (.slice a5 n5 c5), stV (.bool true), stV (.bool true), stV (.int .i64 (F2 : Int)), stV (.int .i64 (F2 : Int)), stV (.bool true), stV (.bool true), stV (.bool true), stV (askV nx (.slice adx mx cpx)), stV (.bool mb9), stV (askV nx (.slice adx mx cpx)), stA nx w9.heap.size l, stV (.bool mb9), stV (.bool true), stV (.bool true), stV (.bool true), stV (askV p1 (.slice a6 n6 c6)), stV (askV p1 (.slice a8 n8 c8)), stV (.bool true), stV (.bool true), stV (.bool true), stV (.int .i64 (p3 : Int)), stV (.int .i64 (p3 : Int)), stV (.bool true), stV (.bool true), stV (.bool true), stV (.bool true), stV (.bool true), stV (.bool true)] (by kernel_rfl) (by kernel_rfl) ?_ ?_
      · -- each operation by itself
        refine ssteps_cons (fun a' w' hI hag hf K hK => ?_) ?_
        · have s5 := hag.same 5 (by decide)
          clear hag
          go_wp2_with fail
          exact hK _ _ hI (Kept.refl _ _) rfl
        refine ssteps_cons (fun a' w' hI hag hf K hK => ?_) ?_
        · have s7 := hag.same 7 (by decide)
          clear hag
          go_wp2_with fail
          exact hK _ _ hI (Kept.refl _ _) rfl
        refine ssteps_cons (fun a' w' hI hag hf K hK => ?_) ?_
        · obtain ⟨⟨_, h0, rfl⟩, ⟨_, h1, rfl⟩, -⟩ : SFacts _ _ a' w' [0, 1] := hf
          clear hag
          go_wp2_with fail
          refine (bequal_any w' _ _ F1 F1 (HE3.out.kept hI (fun _ _ h => h)) (HE5.out.kept hI (fun _ _ h => h)) true (by simp)).mono ?_
          rintro e w4 ⟨rfl, rfl⟩
          go_wp2_with fail
          exact hK _ _ hI (Kept.refl _ _) rfl
        refine ssteps_cons (fun a' w' hI hag hf K hK => ?_) ?_
        · obtain ⟨⟨_, h2, rfl⟩, -⟩ : SFacts _ _ a' w' [2] := hf
          clear hag
          go_wp2_with fail
          exact hK _ _ hI (Kept.refl _ _) rfl
        refine ssteps_cons (fun a' w' hI hag hf K hK => ?_) ?_
        · obtain ⟨⟨_, h3, rfl⟩, -⟩ : SFacts _ _ a' w' [3] := hf
          have s6 := hag.same 6 (by decide)
          clear hag
          go_wp2_with fail
          exact hK _ _ hI (Kept.refl _ _) rfl
        refine ssteps_cons (fun a' w' hI hag hf K hK => ?_) ?_
        · obtain ⟨⟨_, h3, rfl⟩, -⟩ : SFacts _ _ a' w' [3] := hf
          have s8 := hag.same 8 (by decide)
          clear hag
          go_wp2_with fail
          exact hK _ _ hI (Kept.refl _ _) rfl
        refine ssteps_cons (fun a' w' hI hag hf K hK => ?_) ?_
        · obtain ⟨⟨_, h4, rfl⟩, ⟨_, h5, rfl⟩, ⟨_, h3, rfl⟩, -⟩ : SFacts _ _ a' w' [4, 5, 3] := hf
          clear hag
          have hqq : ((F2 : Int) == (F2 : Int)) = true := by simp
          go_wp2_with fail
          exact hK _ _ hI (Kept.refl _ _) rfl
        refine ssteps_cons (fun a' w' hI hag hf K hK => ?_) ?_
        · obtain ⟨⟨_, h3, rfl⟩, ⟨_, h6, rfl⟩, -⟩ : SFacts _ _ a' w' [3, 6] := hf
          clear hag
          go_wp2_with fail
          exact hK _ _ hI (Kept.refl _ _) rfl
        refine ssteps_cons (fun a' w' hI hag hf K hK => ?_) ?_
        · obtain ⟨⟨_, h7, rfl⟩, -⟩ : SFacts _ _ a' w' [7, 3] := hf
          clear hag
          go_wp2_with fail
          exact hK _ _ hI (Kept.refl _ _) rfl
        refine ssteps_cons (fun a' w' hI hag hf K hK => ?_) ?_
        · obtain ⟨⟨_, h8, rfl⟩, -⟩ : SFacts _ _ a' w' [8] := hf
          have s2 := hag.same 2 (by decide)
          clear hag
          have hh := hI.heap HC3.out (fun h => h)
          have c0 := heap_cell hh 0; have c1 := heap_cell hh 1
          clear hh
          go_wp2_with fail
          exact hK _ _ hI (Kept.refl _ _) rfl
        refine ssteps_cons (fun a' w' hI hag hf K hK => ?_) ?_
        · obtain ⟨⟨_, h9, rfl⟩, ⟨_, h8, rfl⟩, -⟩ : SFacts _ _ a' w' [9, 8] := hf
          clear hag
          go_wp2_with fail
          refine (may_any w' _ l (HU9.out.keptF hI) nx hnx (by have := HLN.out; omega)).mono ?_
          rintro e w4 ⟨rfl, k4⟩
          rw [HMB9.out]
          go_wp2_with fail
          exact hK _ _ (hI.trans k4 (fun _ _ h => h)) k4 rfl
        refine ssteps_cons (fun a' w' hI hag hf K hK => ?_) ?_
        · obtain ⟨⟨_, h8, rfl⟩, -⟩ : SFacts _ _ a' w' [8] := hf
          have s2 := hag.same 2 (by decide)
          clear hag
          have hh := hI.heap HC3.out (fun h => h)
          have c0 := heap_cell hh 0; have c1 := heap_cell hh 1
          clear hh
          go_wp2_with fail
          exact hK _ _ hI (Kept.refl _ _) rfl
        refine ssteps_cons (fun a' w' hI hag hf K hK => ?_) ?_
        · obtain ⟨⟨_, h11, rfl⟩, -, ⟨_, h8, rfl⟩, -⟩ : SFacts _ _ a' w' [11, 10, 8] := hf
          clear hag
          go_wp2_with fail
          refine (of_any w' nx _ l (HU9.out.keptF hI) (by have := HLN.out; omega)).mono ?_
          rintro e w4 ⟨v4, rfl, ho, k4⟩
          have HO : Hid (OwnH w9.heap.size l v4 w4) := Lw.hid ⟨ho.1, fun k hk => ⟨Nat.le_trans hI.size (ho.2 k hk).1, (ho.2 k hk).2⟩⟩
          clear ho
          go_wp2_with fail
          exact hK _ _ (hI.trans k4 (fun _ _ h => h)) k4 ⟨_, rfl, HO.out⟩
        refine ssteps_cons (fun a' w' hI hag hf K hK => ?_) ?_
        · obtain ⟨⟨v12, h12, e12⟩, ⟨_, h8, rfl⟩, -⟩ : SFacts _ _ a' w' [12, 8] := hf
          clear hag
          obtain ⟨u12, rfl, hu12⟩ := e12
          have HU12 : Hid (OwnH w9.heap.size l u12 _) := Lw.hid hu12
          clear hu12
          go_wp2_with fail
          refine (rmay_any w' _ l HU12.out.1 nx hnx (by have := HLN.out; omega)).mono ?_
          rintro e w4 ⟨rfl, k4⟩
          rw [HMB9.out]
          go_wp2_with fail
          exact hK _ _ (hI.trans k4 (fun _ _ h => h)) k4 rfl
        refine ssteps_cons (fun a' w' hI hag hf K hK => ?_) ?_
        · obtain ⟨⟨_, h10, rfl⟩, ⟨_, h13, rfl⟩, ⟨_, h8, rfl⟩, -⟩ : SFacts _ _ a' w' [10, 13, 8] := hf
          clear hag
          have hqq : (mb9 == mb9) = true := by simp
          go_wp2_with fail
          exact hK _ _ hI (Kept.refl _ _) rfl
        refine ssteps_cons (fun a' w' hI hag hf K hK => ?_) ?_
        · obtain ⟨⟨_, h8, rfl⟩, ⟨_, h14, rfl⟩, -⟩ : SFacts _ _ a' w' [8, 14] := hf
          clear hag
          go_wp2_with fail
          exact hK _ _ hI (Kept.refl _ _) rfl
        refine ssteps_cons (fun a' w' hI hag hf K hK => ?_) ?_
        · obtain ⟨⟨_, h15, rfl⟩, -⟩ : SFacts _ _ a' w' [15, 13] := hf
          clear hag
          go_wp2_with fail
          exact hK _ _ hI (Kept.refl _ _) rfl
        refine ssteps_cons (fun a' w' hI hag hf K hK => ?_) ?_
        · obtain ⟨⟨_, h16, rfl⟩, -⟩ : SFacts _ _ a' w' [16] := hf
          have s9 := hag.same 9 (by decide)
          clear hag
          have hh := hI.heap HC7.out (fun h => h)
          have c0 := heap_cell hh 0; have c1 := heap_cell hh 1
          clear hh
          go_wp2_with fail
          exact hK _ _ hI (Kept.refl _ _) rfl
        refine ssteps_cons (fun a' w' hI hag hf K hK => ?_) ?_
        · obtain ⟨⟨_, h16, rfl⟩, -⟩ : SFacts _ _ a' w' [16] := hf
          have s11 := hag.same 11 (by decide)
          clear hag
          have hh := hI.heap HX9.out (fun h => h)
          have c0 := heap_cell hh 0; have c1 := heap_cell hh 1
          clear hh
          go_wp2_with fail
          exact hK _ _ hI (Kept.refl _ _) rfl
        refine ssteps_cons (fun a' w' hI hag hf K hK => ?_) ?_
        · obtain ⟨⟨_, h17, rfl⟩, ⟨_, h18, rfl⟩, ⟨_, h16, rfl⟩, -⟩ : SFacts _ _ a' w' [17, 18, 16] := hf
          clear hag
          go_wp2_with fail
          refine (like_any w' p1 _ _ p2 (HD7.out.keptF hI) (HR9.out.keptF hI) (by have := HP2.out; omega)).mono ?_
          rintro e w4 ⟨rfl, k4⟩
          go_wp2_with fail
          exact hK _ _ (hI.trans k4 (fun _ _ h => h)) k4 rfl
        refine ssteps_cons (fun a' w' hI hag hf K hK => ?_) ?_
        · obtain ⟨⟨_, h16, rfl⟩, ⟨_, h19, rfl⟩, -⟩ : SFacts _ _ a' w' [16, 19] := hf
          clear hag
          go_wp2_with fail
          exact hK _ _ hI (Kept.refl _ _) rfl
        refine ssteps_cons (fun a' w' hI hag hf K hK => ?_) ?_
        · obtain ⟨⟨_, h20, rfl⟩, -⟩ : SFacts _ _ a' w' [20, 19] := hf
          clear hag
          go_wp2_with fail
          exact hK _ _ hI (Kept.refl _ _) rfl
        refine ssteps_cons (fun a' w' hI hag hf K hK => ?_) ?_
        · obtain ⟨⟨_, h21, rfl⟩, -⟩ : SFacts _ _ a' w' [21] := hf
          have s10 := hag.same 10 (by decide)
          clear hag
          go_wp2_with fail
          exact hK _ _ hI (Kept.refl _ _) rfl
        refine ssteps_cons (fun a' w' hI hag hf K hK => ?_) ?_
        · obtain ⟨⟨_, h21, rfl⟩, -⟩ : SFacts _ _ a' w' [21] := hf
          have s12 := hag.same 12 (by decide)
          clear hag
          go_wp2_with fail
          exact hK _ _ hI (Kept.refl _ _) rfl
        refine ssteps_cons (fun a' w' hI hag hf K hK => ?_) ?_
        · obtain ⟨⟨_, h22, rfl⟩, ⟨_, h23, rfl⟩, ⟨_, h21, rfl⟩, -⟩ : SFacts _ _ a' w' [22, 23, 21] := hf
          clear hag
          have hqq : ((p3 : Int) == (p3 : Int)) = true := by simp
          go_wp2_with fail
          exact hK _ _ hI (Kept.refl _ _) rfl
        refine ssteps_cons (fun a' w' hI hag hf K hK => ?_) ?_
        · obtain ⟨⟨_, h21, rfl⟩, ⟨_, h24, rfl⟩, -⟩ : SFacts _ _ a' w' [21, 24] := hf
          clear hag
          go_wp2_with fail
          exact hK _ _ hI (Kept.refl _ _) rfl
        refine ssteps_cons (fun a' w' hI hag hf K hK => ?_) ?_
        · obtain ⟨⟨_, h25, rfl⟩, -⟩ : SFacts _ _ a' w' [25, 21] := hf
          clear hag
          go_wp2_with fail
          exact hK _ _ hI (Kept.refl _ _) rfl
        refine ssteps_cons (fun a' w' hI hag hf K hK => ?_) ?_
        · obtain ⟨⟨_, h26, rfl⟩, -⟩ : SFacts _ _ a' w' [26] := hf
          clear hag
          go_wp2_with fail
          refine (rwakes_any w').mono ?_
          rintro e w4 ⟨rfl, k4⟩
          go_wp2_with fail
          exact hK _ _ (hI.trans k4 (fun _ _ h => h)) k4 rfl
        refine ssteps_cons (fun a' w' hI hag hf K hK => ?_) ?_
        · obtain ⟨⟨_, h26, rfl⟩, ⟨_, h27, rfl⟩, -⟩ : SFacts _ _ a' w' [26, 27] := hf
          clear hag
          go_wp2_with fail
          exact hK _ _ hI (Kept.refl _ _) rfl
        refine ssteps_cons (fun a' w' hI hag hf K hK => ?_) ?_
        · obtain ⟨⟨_, h28, rfl⟩, -⟩ : SFacts _ _ a' w' [28, 27, 0, 1, 2, 3, 4, 5, 6, 7, 8, 9, 10, 11, 12, 13, 14, 15, 16, 17, 18, 19, 20, 21, 22, 23, 24, 25, 26] := hf
          clear hag
          go_wp2_with fail
          exact hK _ _ hI (Kept.refl _ _) rfl
        exact trivial
      · intro a' w' hI hag hf
        obtain ⟨_, h29, rfl⟩ := hf 29 (by decide)
        have hd : a'.defers = [] := hag.defs
        clear hf hag
        go_wp2_with fail
        exact bodyPost_ret (v := .bool true) (by simp [results, Try.results5, go_sem, h29]) hd ⟨rfl, Below.of_kept (K9.out.trans hI (fun _ _ h => h))⟩
end Go.Proofs.Ytbmfnepbdfnlaaa
