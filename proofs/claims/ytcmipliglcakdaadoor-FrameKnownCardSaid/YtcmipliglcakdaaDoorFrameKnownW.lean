/- FrameKnown, walked. -/
import Derived.Test.YtcmipliglcakdaaDoorFrameO
import Derived.Test.YtcmipliglcakdaaDoorFrameD
import Derived.Test.YtcmipliglcakdaaDoorFramePS
import Derived.Test.YtcmipliglcakdaaDoorSoftTail
namespace Go.Proofs.YtcmipliglcakdaaDoor
open Go Go.RowKit Go.Lw
set_option maxRecDepth 100000
/-- A row of frames, each with its payload's value. -/
def rowCells (L : List (Frm × Value)) : List Value := L.flatMap fun x => x.1.cells x.2
def GoodF (w : World) (x : Frm × Value) : Prop := x.1.ok ∧ (∃ ad cap, x.2 = .slice ad x.1.p.length cap) ∧ RdB w x.2 x.1.p
theorem GoodF.kept {w w' : World} {x : Frm × Value} (h : GoodF w x) (hk : Kept (fun _ => False) w w') : GoodF w' x := ⟨h.1, h.2.1, h.2.2.kept hk (fun _ _ h => h)⟩
theorem encode_no (w : World) (f : Frm) (tag : Nat) (ad : Option Addr) (cap : Nat) (hf : f.ok) (hmay : f.may = false) (ht : tag < 18446744073709551616) (hm : TabM w) (hT : Tab w) (hv : RdB w (.slice ad f.p.length cap) f.p) :
    Calls Tryd.prog 24 #[f.val (.slice ad f.p.length cap), .int .u64 (tag : Int)] w fun e w' => ∃ r, e = .returned (.tuple #[r, .int .i64 1]) ∧ Kept (fun _ => False) w w' := by
  refine (encode_any w f tag ad cap hf ht hm hT hv).mono ?_
  rw [hmay]
  rintro e w' ⟨r, rfl, _, hk⟩
  exact ⟨r, rfl, hk⟩
theorem signed_no (w : World) (f : Frm) (ad : Option Addr) (cap : Nat) (hf : f.ok) (hmay : f.may = false) (hm : TabM w) (hv : RdB w (.slice ad f.p.length cap) f.p) :
    Calls Tryd.prog 28 #[f.val (.slice ad f.p.length cap)] w fun e w' => ∃ ad cap, e = .returned (.slice ad 0 cap) ∧ Kept (fun _ => False) w w' := by
  refine (signed_any w f ad cap hf hm hv).mono ?_
  rw [hmay]
  rintro e w' ⟨r, rfl, hr, hk⟩
  obtain ⟨a, c, rfl, _⟩ := rdb_opened hr
  exact ⟨a, c, rfl, hk⟩
def longL : List UInt8 := List.replicate 257 0
def rowA (g : Nat) : List (Frm × Value) := [(⟨0, 0, 0, 0, 0, 0, []⟩, .slice none 0 0), (⟨6, 0, 0, 0, 0, 0, []⟩, .slice none 0 0), (⟨3, 0, 0, 0, 0, 0, longL⟩, .slice (some ⟨g, 0, none⟩) 257 257), (⟨3, 0, 0, 2147483648, 0, 0, []⟩, .slice none 0 0), (⟨4, 0, 0, 1, 0, 0, []⟩, .slice none 0 0), (⟨4, 0, 0, 0, 0, 0, [0]⟩, .slice (some ⟨g, 0, none⟩) 1 257), (⟨1, 0, 0, 1, 0, 0, []⟩, .slice none 0 0), (⟨2, 0, 0, 0, 1, 0, []⟩, .slice none 0 0), (⟨5, 0, 0, 0, 0, 1, []⟩, .slice none 0 0)]
def rowB (ad : Option Addr) (c : Nat) (ad' : Option Addr) (c' : Nat) : List (Frm × Value) := [(⟨1, 0, 0, 0, 0, 0, List.replicate 256 0⟩, .slice ad 256 c), (⟨2, 2147483648, 0, 0, 0, 0, []⟩, .slice none 0 0), (⟨3, 0, 0, 2147483647, 4294967295, 4294967295, List.replicate 256 0⟩, .slice ad' 256 c'), (⟨4, 0, 0, 0, 9, 0, []⟩, .slice none 0 0), (⟨5, 0, 0, 0, 0, 0, []⟩, .slice none 0 0)]
theorem okF (a b c d e f : Nat) (p : List UInt8) (h : (decide (a < 256) && decide (b < 4294967296) && decide (c < 4294967296) && decide (d < 4294967296) && decide (e < 4294967296) && decide (f < 4294967296)) = true) : (⟨a, b, c, d, e, f, p⟩ : Frm).ok := by
  simp only [Bool.and_eq_true, decide_eq_true_eq] at h
  exact ⟨h.1.1.1.1.1, h.1.1.1.1.2, h.1.1.1.2, h.1.1.2, h.1.2, h.2⟩
theorem rowA_good (w : World) (g : Nat) (h : RdB w (.slice (some ⟨g, 0, none⟩) 257 257) longL) : ∀ x ∈ rowA g, GoodF w x ∧ x.1.may = false := by
  have h1 : RdB w (.slice (some ⟨g, 0, none⟩) 1 257) [0] := h.take 1 (by omega)
  intro x hx
  simp only [rowA, List.mem_cons, List.not_mem_nil, or_false] at hx
  rcases hx with rfl | rfl | rfl | rfl | rfl | rfl | rfl | rfl | rfl
  · exact ⟨⟨okF _ _ _ _ _ _ _ rfl, ⟨none, 0, rfl⟩, RdB.nil _⟩, by decide⟩
  · exact ⟨⟨okF _ _ _ _ _ _ _ rfl, ⟨none, 0, rfl⟩, RdB.nil _⟩, by decide⟩
  · exact ⟨⟨okF _ _ _ _ _ _ _ rfl, ⟨_, _, rfl⟩, h⟩, by simp [Frm.may, longL]⟩
  · exact ⟨⟨okF _ _ _ _ _ _ _ rfl, ⟨none, 0, rfl⟩, RdB.nil _⟩, by decide⟩
  · exact ⟨⟨okF _ _ _ _ _ _ _ rfl, ⟨none, 0, rfl⟩, RdB.nil _⟩, by decide⟩
  · exact ⟨⟨okF _ _ _ _ _ _ _ rfl, ⟨_, _, rfl⟩, h1⟩, rfl⟩
  · exact ⟨⟨okF _ _ _ _ _ _ _ rfl, ⟨none, 0, rfl⟩, RdB.nil _⟩, by decide⟩
  · exact ⟨⟨okF _ _ _ _ _ _ _ rfl, ⟨none, 0, rfl⟩, RdB.nil _⟩, by decide⟩
  · exact ⟨⟨okF _ _ _ _ _ _ _ rfl, ⟨none, 0, rfl⟩, RdB.nil _⟩, by decide⟩
theorem rowB_good (w : World) (ad : Option Addr) (c : Nat) (ad' : Option Addr) (c' : Nat) (h : RdB w (.slice ad 256 c) (List.replicate 256 0)) (h' : RdB w (.slice ad' 256 c') (List.replicate 256 0)) : ∀ x ∈ rowB ad c ad' c', GoodF w x ∧ x.1.may = true := by
  intro x hx
  simp only [rowB, List.mem_cons, List.not_mem_nil, or_false] at hx
  rcases hx with rfl | rfl | rfl | rfl | rfl
  · exact ⟨⟨okF _ _ _ _ _ _ _ rfl, ⟨_, _, rfl⟩, h⟩, by simp [Frm.may]⟩
  · exact ⟨⟨okF _ _ _ _ _ _ _ rfl, ⟨none, 0, rfl⟩, RdB.nil _⟩, by decide⟩
  · exact ⟨⟨okF _ _ _ _ _ _ _ rfl, ⟨_, _, rfl⟩, h'⟩, by simp [Frm.may]⟩
  · exact ⟨⟨okF _ _ _ _ _ _ _ rfl, ⟨none, 0, rfl⟩, RdB.nil _⟩, by decide⟩
  · exact ⟨⟨okF _ _ _ _ _ _ _ rfl, ⟨none, 0, rfl⟩, RdB.nil _⟩, by decide⟩
/-- A frame of a row: its cells. -/
theorem row_at {w : World} {b n : Nat} {L : List (Frm × Value)} (h : Rd w 7 (.slice (some ⟨b, 0, none⟩) n n) L.length (rowCells L)) (k : Nat) (hk : k < L.length) : ∀ j u, (L[k].1.cells L[k].2)[j]? = some u → w.cell? ⟨b, k * 7 + j, none⟩ = some u := by
  have hn : n = L.length := by obtain ⟨_, _, _, e, _⟩ := h; cases e; rfl
  subst hn
  obtain ⟨g, off, e, c0, cj⟩ := Rd.elem (f := fun x : Frm × Value => x.1.cells x.2) h (fun _ _ => rfl) (by decide) k hk
  cases e
  intro j u hj
  have hj7 : j < 7 := by
    rcases Nat.lt_or_ge j 7 with h | h
    · exact h
    · rw [List.getElem?_eq_none (by exact h)] at hj; cases hj
  have := cj j hj7
  rw [Nat.zero_add] at this
  rw [this]; exact hj
/-- A new row of frames. -/
def IsRow (L : List (Frm × Value)) (v : Value) (w : World) : Prop := ∃ b, v = .slice (some ⟨b, 0, none⟩) L.length L.length ∧ Rd w 7 (.slice (some ⟨b, 0, none⟩) L.length L.length) L.length (rowCells L)
def stRow (L : List (Frm × Value)) : Stable := ⟨IsRow L, fun _ _ _ hk ⟨b, h1, h2⟩ => ⟨b, h1, h2.kept hk (fun _ _ h => h)⟩⟩
theorem long_tail {w : World} {g : Nat} (h : RdB w (.slice (some ⟨g, 0, none⟩) 257 257) longL) : RdB w (.slice (some ⟨g, 1, none⟩) 256 256) (List.replicate 256 0) := by
  obtain ⟨_, _, e, _, _, hc⟩ := rdb_opened h
  cases e
  refine ⟨by simp, _, _, rfl, Nat.le_refl _, by decide, fun j u hj => ⟨g, 1, rfl, ?_⟩⟩
  rw [List.getElem?_map] at hj
  obtain ⟨c, hc', rfl⟩ := Option.map_eq_some_iff.1 hj
  have hjl : j < 256 := by
    rcases Nat.lt_or_ge j 256 with h | h
    · exact h
    · rw [List.getElem?_eq_none (by simpa using h)] at hc'; cases hc'
  have hc0 : c = 0 := by
    rw [List.getElem?_replicate, if_pos hjl] at hc'; exact (Option.some.inj hc').symm
  subst hc0
  obtain ⟨g', off', e, hcell⟩ := hc (j + 1) 0 (by unfold longL; rw [List.getElem?_replicate, if_pos (by omega)])
  cases e
  rw [show 1 + j = 0 + (j + 1) by omega]; exact hcell
set_option maxHeartbeats 4000000 in
theorem fknown_any (w : World) (hm : TabM w) (hT : Tab w) :
    Calls Tryd.prog 11 #[] w fun e w' => e = .returned (.bool true) ∧ Below w.heap.size w w' := by
  have HM := Lw.hid hm; have HT := Lw.hid hT
  clear hm hT
  obtain ⟨i, hi, hz0, hz1, hz2⟩ := infoB
  go_enter Tryd.func11, Tryd.ntmps11
  go_wp2_with (refine wpList_mk rfl _ _ _ rfl Tryd.underlying22 hi hz0 hz1 hz2 .i64 .i64 257 257 257 rfl rfl rfl rfl (by decide) (by decide) ?_; intro g w1 hg ho hk hsz; rw [made_bytes] at ho; have HO := Lw.hid (Rd.own ho); have HK := Lw.hid hk; clear ho hk hsz hg)
  have hL : RdB w1 (.slice (some ⟨g, 0, none⟩) 257 257) longL := HO.out
  have rdl : Rd (w1.alloc (.cells (rowCells (rowA g)).toArray 46)) 7 (.slice (some ⟨w1.heap.size, 0, none⟩) 9 9) (rowA g).length (rowCells (rowA g)) := Rd.lit w1 (rowCells (rowA g)) 46 7 w1.heap.size 9 rfl rfl (by decide)
  have hgood : ∀ x ∈ rowA g, GoodF (w1.alloc (.cells (rowCells (rowA g)).toArray 46)) x ∧ x.1.may = false := rowA_good _ g (hL.alloc _)
  have k2 : Kept (fun _ => False) w (w1.alloc (.cells (rowCells (rowA g)).toArray 46)) := HK.out.alloc _
  have hl2 : RdB (w1.alloc (.cells (rowCells (rowA g)).toArray 46)) (.slice (some ⟨g, 0, none⟩) 257 257) longL := hL.alloc _
  have RDL := Lw.hid rdl; have GOOD := Lw.hid hgood; have K2 := Lw.hid k2; have HL2 := Lw.hid hl2
  clear rdl hgood k2 hl2 hL HO HK
  have hrep : ∀ (G : World → Prop), (∀ w2, Rd w2 7 (.slice (some ⟨w1.heap.size, 0, none⟩) 9 9) (rowA g).length (rowCells (rowA g)) → (∀ x ∈ rowA g, GoodF w2 x ∧ x.1.may = false) → Kept (fun _ => False) w w2 → RdB w2 (.slice (some ⟨g, 0, none⟩) 257 257) longL → G w2) → G (w1.alloc (.cells (rowCells (rowA g)).toArray 46)) := fun G h => h _ RDL.out GOOD.out K2.out HL2.out
  clear RDL GOOD K2 HL2
  refine hrep _ (fun w2 rdl hgood k2 hl2 => ?_)
  clear hrep
  have RDL := Lw.hid rdl; have GOOD := Lw.hid hgood; have K2 := Lw.hid k2; have HL2 := Lw.hid hl2
  clear rdl hgood k2 hl2
  generalize w1.heap.size = bb at *
  go_loopw [34] (fun i wr => ∃ k : Nat, k ≤ 9 ∧ i = .int .i64 (k : Int) ∧ Kept (fun _ => False) w2 wr) (fun i _ => 9 - (intOf i).toNat)
  case atStart => exact ⟨0, Nat.zero_le _, rfl, Kept.refl _ _⟩
  case round =>
    obtain ⟨k, hk, rfl, kr⟩ := hrel
    have KR := Lw.hid kr
    clear kr
    by_cases hlt : k < 9
    · have hlt' : k < (rowA g).length := hlt
      have hmem := List.getElem_mem hlt'
      have hrow := row_at (RDL.out.kept KR.out (fun _ _ h => h)) k hlt'
      obtain ⟨hgd, hmay⟩ := GOOD.out _ hmem
      have hgd := hgd.kept KR.out
      generalize (rowA g)[k] = x at *
      obtain ⟨f, v⟩ := x
      obtain ⟨hok, ⟨ad, cap, hv⟩, hrv⟩ := hgd
      simp only at hv hok hrv hmay hrow
      subst hv
      have c0 := hrow 0 (.int .u8 (f.kind : Int)) rfl
      have c1 := hrow 1 (.int .u32 (f.ses : Int)) rfl
      have c2 := hrow 2 (.int .u32 (f.ep : Int)) rfl
      have c3 := hrow 3 (.int .u32 (f.num : Int)) rfl
      have c4 := hrow 4 (.int .u32 (f.ack : Int)) rfl
      have c5 := hrow 5 (.int .u32 (f.mask : Int)) rfl
      have c6 := hrow 6 (.slice ad f.p.length cap) rfl
      have HOK := Lw.hid hok; have HMAY := Lw.hid hmay; have HRV := Lw.hid hrv
      rw [Nat.add_zero] at c0
      have hpl : f.p.length ≤ 9223372036854775807 := by have := hrv.len; unfold maxLen at this; omega
      have i0 : (0 : Int) ≤ (k : Int) := by omega
      have i1 : (k : Int) < 9 := by omega
      clear hrow hok hmay hrv hmem hlt'
      go_wp2_with fail
      clear c0 c1 c2 c3 c4 c5 c6 i0 i1
      refine (encode_no _ f 0 ad cap HOK.out HMAY.out (by decide) ((HM.out.kept K2.out).kept (KR.out.alloc _)) (HT.out.below (Below.of_kept (K2.out.trans (KR.out.alloc _) (fun _ _ h => h)))) (HRV.out.alloc _)).mono ?_
      rintro e w3 ⟨r, rfl, k3⟩
      have b3 := k3.heap (heap_alloc wr _) (fun h => h)
      have K3 := Lw.hid ((KR.out.alloc _).trans k3 (fun _ _ h => h)); have R3 := Lw.hid ((HRV.out.alloc _).kept k3 (fun _ _ h => h)); have B3 := Lw.hid b3
      have d0 := heap_cell b3 0
      have d1 := heap_cell b3 1
      have d2 := heap_cell b3 2
      have d3 := heap_cell b3 3
      have d4 := heap_cell b3 4
      have d5 := heap_cell b3 5
      have d6 := heap_cell b3 6
      clear b3 k3
      go_wp2_with fail
      clear d0 d1 d2 d3 d4 d5 d6
      refine (may_any _ f ad cap (HM.out.kept (K2.out.trans K3.out (fun _ _ h => h))) false HMAY.out hpl).mono ?_
      rintro e w4 ⟨rfl, k4⟩
      have b4 := k4.heap B3.out (fun h => h)
      have K4 := Lw.hid (K3.out.trans k4 (fun _ _ h => h)); have R4 := Lw.hid (R3.out.kept k4 (fun _ _ h => h))
      have d0 := heap_cell b4 0
      have d1 := heap_cell b4 1
      have d2 := heap_cell b4 2
      have d3 := heap_cell b4 3
      have d4 := heap_cell b4 4
      have d5 := heap_cell b4 5
      have d6 := heap_cell b4 6
      clear b4 k4 K3 R3 B3
      go_wp2_with fail
      clear d0 d1 d2 d3 d4 d5 d6
      refine (signed_no _ f ad cap HOK.out HMAY.out (HM.out.kept (K2.out.trans K4.out (fun _ _ h => h))) R4.out).mono ?_
      rintro e w5 ⟨ads, caps, rfl, k5⟩
      have K5 := Lw.hid (K4.out.trans k5 (fun _ _ h => h))
      clear k5 K4 R4
      go_wp2_with fail
      go_roundw
      case rel => exact ⟨k + 1, by omega, by go_num, K5.out⟩
      case measure => simp [intOf]; omega
    · obtain rfl : k = 9 := by omega
      have K3 := Lw.hid (K2.out.trans KR.out (fun _ _ h => h)); have L3 := Lw.hid (HL2.out.kept KR.out (fun _ _ h => h))
      clear KR K2 HL2 GOOD RDL hk hlt
      go_wp2_with fail
      rw [show (((9 : Nat) : Int)) = 9 from rfl]
      refine wp_region_tail 12 [stV (.slice (some ⟨g, 0, none⟩) 257 257), stV (.slice (some ⟨g, 1, none⟩) 256 256), stV (.agg #[.int .u8 1, .int .u32 0, .int .u32 0, .int .u32 0, .int .u32 0, .int .u32 0, .slice (some ⟨g, 1, none⟩) 256 256]), stV (.agg #[.int .u8 2, .int .u32 2147483648, .int .u32 0, .int .u32 0, .int .u32 0, .int .u32 0, .slice none 0 0]), stV (.slice (some ⟨g, 0, none⟩) 257 257), stV (.slice (some ⟨g, 1, none⟩) 256 256), stV (.agg #[.int .u8 3, .int .u32 0, .int .u32 0, .int .u32 2147483647, .int .u32 4294967295, .int .u32 4294967295, .slice (some ⟨g, 1, none⟩) 256 256]), stV (.agg #[.int .u8 4, .int .u32 0, .int .u32 0, .int .u32 0, .int .u32 9, .int .u32 0, .slice none 0 0]), stV (.agg #[.int .u8 5, .int .u32 0, .int .u32 0, .int .u32 0, .int .u32 0, .int .u32 0, .slice none 0 0]), stRow (rowB (some ⟨g, 1, none⟩) 256 (some ⟨g, 1, none⟩) 256), stV (.int .i64 5), stV (.int .i64 0)] (by kernel_rfl) (by kernel_rfl) ?_ ?_
      · -- each operation by itself
        refine ssteps_cons (fun a' w' hI hag hf K hK => ?_) ?_
        · have s1 := hag.same 1 (by decide)
          clear hag
          go_wp2_with fail
          exact hK _ _ hI (Kept.refl _ _) rfl
        refine ssteps_cons (fun a' w' hI hag hf K hK => ?_) ?_
        · obtain ⟨⟨_, h0, rfl⟩, -⟩ : SFacts _ _ a' w' [0] := hf
          clear hag
          go_wp2_with fail
          exact hK _ _ hI (Kept.refl _ _) rfl
        refine ssteps_cons (fun a' w' hI hag hf K hK => ?_) ?_
        · obtain ⟨⟨_, h1, rfl⟩, -⟩ : SFacts _ _ a' w' [1] := hf
          clear hag
          go_wp2_with fail
          exact hK _ _ hI (Kept.refl _ _) rfl
        refine ssteps_cons (fun a' w' hI hag hf K hK => ?_) ?_
        · clear hag
          go_wp2_with fail
          exact hK _ _ hI (Kept.refl _ _) rfl
        refine ssteps_cons (fun a' w' hI hag hf K hK => ?_) ?_
        · have s1 := hag.same 1 (by decide)
          clear hag
          go_wp2_with fail
          exact hK _ _ hI (Kept.refl _ _) rfl
        refine ssteps_cons (fun a' w' hI hag hf K hK => ?_) ?_
        · obtain ⟨⟨_, h4, rfl⟩, -⟩ : SFacts _ _ a' w' [4] := hf
          clear hag
          go_wp2_with fail
          exact hK _ _ hI (Kept.refl _ _) rfl
        refine ssteps_cons (fun a' w' hI hag hf K hK => ?_) ?_
        · obtain ⟨⟨_, h5, rfl⟩, -⟩ : SFacts _ _ a' w' [5] := hf
          clear hag
          go_wp2_with fail
          exact hK _ _ hI (Kept.refl _ _) rfl
        refine ssteps_cons (fun a' w' hI hag hf K hK => ?_) ?_
        · clear hag
          go_wp2_with fail
          exact hK _ _ hI (Kept.refl _ _) rfl
        refine ssteps_cons (fun a' w' hI hag hf K hK => ?_) ?_
        · clear hag
          go_wp2_with fail
          exact hK _ _ hI (Kept.refl _ _) rfl
        refine ssteps_cons (fun a' w' hI hag hf K hK => ?_) ?_
        · obtain ⟨⟨_, h2, rfl⟩, ⟨_, h3, rfl⟩, ⟨_, h6, rfl⟩, ⟨_, h7, rfl⟩, ⟨_, h8, rfl⟩, -⟩ : SFacts _ _ a' w' [2, 3, 6, 7, 8] := hf
          clear hag
          go_wp2_with fail
          exact hK _ _ (hI.alloc _) ((Kept.refl _ _).alloc _) ⟨w'.heap.size, rfl, Rd.lit w' (rowCells (rowB (some ⟨g, 1, none⟩) 256 (some ⟨g, 1, none⟩) 256)) 46 7 w'.heap.size 5 rfl rfl (by decide)⟩
        refine ssteps_cons (fun a' w' hI hag hf K hK => ?_) ?_
        · obtain ⟨⟨v9, h9, e9⟩, -⟩ : SFacts _ _ a' w' [9] := hf
          clear hag
          obtain ⟨b9, rfl, r9⟩ : IsRow (rowB (some ⟨g, 1, none⟩) 256 (some ⟨g, 1, none⟩) 256) v9 w' := e9
          go_wp2_with fail
          exact hK _ _ hI (Kept.refl _ _) rfl
        refine ssteps_cons (fun a' w' hI hag hf K hK => ?_) ?_
        · clear hag
          go_wp2_with fail
          exact hK _ _ hI (Kept.refl _ _) rfl
        exact trivial
      · intro vs w4 hI hvs
        have q0 : vs 0 = (.slice (some ⟨g, 0, none⟩) 257 257) := hvs 0 _ _ rfl rfl
        have q1 : vs 1 = (.slice (some ⟨g, 1, none⟩) 256 256) := hvs 1 _ _ rfl rfl
        have q2 : vs 2 = (.agg #[.int .u8 1, .int .u32 0, .int .u32 0, .int .u32 0, .int .u32 0, .int .u32 0, .slice (some ⟨g, 1, none⟩) 256 256]) := hvs 2 _ _ rfl rfl
        have q3 : vs 3 = (.agg #[.int .u8 2, .int .u32 2147483648, .int .u32 0, .int .u32 0, .int .u32 0, .int .u32 0, .slice none 0 0]) := hvs 3 _ _ rfl rfl
        have q4 : vs 4 = (.slice (some ⟨g, 0, none⟩) 257 257) := hvs 4 _ _ rfl rfl
        have q5 : vs 5 = (.slice (some ⟨g, 1, none⟩) 256 256) := hvs 5 _ _ rfl rfl
        have q6 : vs 6 = (.agg #[.int .u8 3, .int .u32 0, .int .u32 0, .int .u32 2147483647, .int .u32 4294967295, .int .u32 4294967295, .slice (some ⟨g, 1, none⟩) 256 256]) := hvs 6 _ _ rfl rfl
        have q7 : vs 7 = (.agg #[.int .u8 4, .int .u32 0, .int .u32 0, .int .u32 0, .int .u32 9, .int .u32 0, .slice none 0 0]) := hvs 7 _ _ rfl rfl
        have q8 : vs 8 = (.agg #[.int .u8 5, .int .u32 0, .int .u32 0, .int .u32 0, .int .u32 0, .int .u32 0, .slice none 0 0]) := hvs 8 _ _ rfl rfl
        have q9 := hvs 9 _ _ rfl rfl
        have q10 : vs 10 = (.int .i64 5) := hvs 10 _ _ rfl rfl
        have q11 : vs 11 = (.int .i64 0) := hvs 11 _ _ rfl rfl
        clear hvs
        simp only [List.take_succ_cons, List.take_zero, List.drop_succ_cons, List.drop_zero, putAll, Act.put, List.setIfInBounds_toArray, List.set_cons_zero, List.set_cons_succ, Nat.reduceAdd, q0, q1, q2, q3, q4, q5, q6, q7, q8, q10, q11]
        clear q0 q1 q2 q3 q4 q5 q6 q7 q8 q10 q11
        generalize vs 9 = x9 at *
        obtain ⟨b9, rfl, r9⟩ : IsRow (rowB (some ⟨g, 1, none⟩) 256 (some ⟨g, 1, none⟩) 256) x9 w4 := q9
        have GOOD := Lw.hid (rowB_good w4 _ 256 _ 256 (long_tail (L3.out.kept hI (fun _ _ h => h))) (long_tail (L3.out.kept hI (fun _ _ h => h))))
        have RDL := Lw.hid r9; have K4 := Lw.hid (K3.out.trans hI (fun _ _ h => h))
        clear r9 hI K3 L3
        go_wp2_with fail
        go_loopw [67] (fun i wr => ∃ k : Nat, k ≤ 5 ∧ i = .int .i64 (k : Int) ∧ Kept (fun _ => False) w4 wr) (fun i _ => 5 - (intOf i).toNat)
        case atStart => exact ⟨0, Nat.zero_le _, rfl, Kept.refl _ _⟩
        case round =>
          obtain ⟨k, hk, rfl, kr⟩ := hrel
          have KR := Lw.hid kr
          clear kr
          by_cases hlt : k < 5
          · have hlt' : k < (rowB (some ⟨g, 1, none⟩) 256 (some ⟨g, 1, none⟩) 256).length := hlt
            have hmem := List.getElem_mem hlt'
            have hrow := row_at (RDL.out.kept KR.out (fun _ _ h => h)) k hlt'
            obtain ⟨hgd, hmay⟩ := GOOD.out _ hmem
            have hgd := hgd.kept KR.out
            generalize (rowB (some ⟨g, 1, none⟩) 256 (some ⟨g, 1, none⟩) 256)[k] = x at *
            obtain ⟨f, v⟩ := x
            obtain ⟨hok, ⟨ad, cap, hv⟩, hrv⟩ := hgd
            simp only at hv hok hrv hmay hrow
            subst hv
            have c0 := hrow 0 (.int .u8 (f.kind : Int)) rfl
            have c1 := hrow 1 (.int .u32 (f.ses : Int)) rfl
            have c2 := hrow 2 (.int .u32 (f.ep : Int)) rfl
            have c3 := hrow 3 (.int .u32 (f.num : Int)) rfl
            have c4 := hrow 4 (.int .u32 (f.ack : Int)) rfl
            have c5 := hrow 5 (.int .u32 (f.mask : Int)) rfl
            have c6 := hrow 6 (.slice ad f.p.length cap) rfl
            rw [Nat.add_zero] at c0
            have HOK := Lw.hid hok; have HMAY := Lw.hid hmay; have HRV := Lw.hid hrv
            have hpl : f.p.length ≤ 9223372036854775807 := by have := hrv.len; unfold maxLen at this; omega
            have i0 : (0 : Int) ≤ (k : Int) := by omega
            have i1 : (k : Int) < 5 := by omega
            clear hrow hok hmay hrv hmem hlt'
            go_wp2_with fail
            clear c0 c1 c2 c3 c4 c5 c6 i0 i1
            refine (encode_ok _ f 9223372036854775808 ad cap HOK.out HMAY.out (by decide) ((HM.out.kept K4.out).kept (KR.out.alloc _)) (HT.out.below (Below.of_kept (K4.out.trans (KR.out.alloc _) (fun _ _ h => h)))) (HRV.out.alloc _)).mono ?_
            rintro e w5 ⟨ade, cape, rfl, _, _, _, k5⟩
            have b5 := k5.heap (heap_alloc wr _) (fun h => h)
            have K5 := Lw.hid ((KR.out.alloc _).trans k5 (fun _ _ h => h))
            have d0 := heap_cell b5 0
            have d1 := heap_cell b5 1
            have d2 := heap_cell b5 2
            have d3 := heap_cell b5 3
            have d4 := heap_cell b5 4
            have d5 := heap_cell b5 5
            have d6 := heap_cell b5 6
            clear b5 k5
            go_wp2_with fail
            clear d0 d1 d2 d3 d4 d5 d6
            refine (may_any _ f ad cap (HM.out.kept (K4.out.trans K5.out (fun _ _ h => h))) true HMAY.out hpl).mono ?_
            rintro e w6 ⟨rfl, k6⟩
            have K6 := Lw.hid (K5.out.trans k6 (fun _ _ h => h))
            clear k6 K5
            go_wp2_with fail
            go_roundw
            case rel => exact ⟨k + 1, by omega, by go_num, K6.out⟩
            case measure => simp [intOf]; omega
          · obtain rfl : k = 5 := by omega
            have K5 := Lw.hid (K4.out.trans KR.out (fun _ _ h => h))
            clear KR K4 GOOD RDL hk hlt
            have mk_arm : True := trivial
            clear mk_arm
            go_wp2_with fail
            have e1 : (decF []).2.2 = 4 := by decide +kernel
            have E1 := Lw.hid e1
            clear e1
            refine (decode_any _ (.slice none 0 0) [] (RdB.nil _) (by decide) (HM.out.kept K5.out) (HT.out.below (Below.of_kept K5.out))).mono ?_
            rw [E1.out]
            generalize decF [] = d1 at *
            rintro e w6 ⟨ad1, cap1, rfl, _, k6, _⟩
            obtain ⟨F1, t1, er1⟩ := d1
            have K6 := Lw.hid (K5.out.trans k6 (fun _ _ h => h))
            clear k6 K5 E1
            simp only
            go_wp2_with (refine wpList_mk rfl _ _ _ rfl Tryd.underlying22 hi hz0 hz1 hz2 .i64 .i64 35 35 35 rfl rfl rfl rfl (by decide) (by decide) ?_; intro g2 w7 hg ho hk hsz; rw [made_bytes] at ho; have O7 := Lw.hid (Rd.own ho); have K7 := Lw.hid ((K6.out.alloc _).trans hk (fun _ _ h => h)); clear ho hk hsz hg)
            have e2 : (decF (List.replicate 35 0)).2.2 = 11 := by decide +kernel
            have E2 := Lw.hid e2
            clear e2
            refine (decode_any _ (.slice (some ⟨g2, 0, none⟩) 35 35) (List.replicate 35 0) O7.out (by decide) (HM.out.kept K7.out) (HT.out.below (Below.of_kept K7.out))).mono ?_
            rw [E2.out]
            generalize decF (List.replicate 35 0) = d2 at *
            rintro e w8 ⟨ad2, cap2, rfl, _, k8, _⟩
            obtain ⟨F2, t2, er2⟩ := d2
            have K8 := Lw.hid (K7.out.trans k8 (fun _ _ h => h))
            clear k8 K7 E2 O7
            simp only
            go_wp2_with (refine wpList_mk rfl _ _ _ rfl Tryd.underlying22 hi hz0 hz1 hz2 .i64 .i64 36 36 36 rfl rfl rfl rfl (by decide) (by decide) ?_; intro g3 w9 hg ho hk hsz; rw [made_bytes] at ho; have O9 := Lw.hid (Rd.own ho); have K9 := Lw.hid ((K8.out.alloc _).trans hk (fun _ _ h => h)); clear ho hk hsz hg)
            have e3 : (decF (List.replicate 36 0)).2.2 = 5 := by decide +kernel
            have E3 := Lw.hid e3
            clear e3
            refine (decode_any _ (.slice (some ⟨g3, 0, none⟩) 36 36) (List.replicate 36 0) O9.out (by decide) (HM.out.kept K9.out) (HT.out.below (Below.of_kept K9.out))).mono ?_
            rw [E3.out]
            generalize decF (List.replicate 36 0) = d3 at *
            rintro e w10 ⟨ad3, cap3, rfl, _, k10, _⟩
            obtain ⟨F3, t3, er3⟩ := d3
            have K10 := Lw.hid (K9.out.trans k10 (fun _ _ h => h))
            clear k10 K9 E3 O9
            simp only
            go_wp2_with fail
            refine (ftells_any _ ((HM.out.kept K10.out).kept ((Kept.refl _ _).alloc _))).mono ?_
            rintro e w11 ⟨rfl, k11⟩
            go_wp2_with fail
            go_ret
            exact ⟨rfl, Below.of_kept ((K10.out.alloc _).trans k11 (fun _ _ h => h))⟩
end Go.Proofs.YtcmipliglcakdaaDoor
