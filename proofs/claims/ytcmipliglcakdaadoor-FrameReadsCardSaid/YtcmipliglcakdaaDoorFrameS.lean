/- The document's frames: signed; encoded. -/
import Derived.Test.YtcmipliglcakdaaDoorFrameR
import Derived.Test.YtcmipliglcakdaaDoorFrameL
import Derived.Laws.OwnMore
namespace Go.Proofs.YtcmipliglcakdaaDoor
open Go Go.RowKit Go.Lw
set_option maxRecDepth 100000
/-- A row of bytes of the call's own, beside a box of it. -/
structure BX (w w1 : World) (v : Value) (L : List UInt8) (o : Obj) : Prop where
  own : w1.ownsRow 0 5 1 v L.length (L.map bv)
  box : w1.heap[w.heap.size]? = some o
  kept : Kept (fun _ => False) w w1
  b : ∀ k, blk v k → w.heap.size < k
theorem BX.ext {w w1 w2 : World} {v : Value} {L : List UInt8} {o : Obj} (h : BX w w1 v L o) (hk : Kept (fun _ => False) w1 w2) : BX w w2 v L o :=
  ⟨own_kept hk h.own (fun _ _ h => h), hk.heap h.box (fun h => h), h.kept.trans hk (fun _ _ h => h), h.b⟩
theorem BX.app {w w1 w2 : World} {v v' : Value} {L m : List UInt8} {n : Nat} {o : Obj} (h : BX w w1 v L o) (hn : n = L.length + m.length) (ho : w2.ownsRow 0 5 1 v' n (L.map bv ++ m.map bv)) (hg : w1.grownBy w2 v.ownBlock) (hf : Fresh w1 v v') : BX w w2 v' (L ++ m) o := by
  have hs := h.kept.size
  have hlt := heap_lt h.box
  have hk : Kept (blk v) w1 w2 := (Kept.refl _ _).grown hg (fun k hk _ => hk)
  subst hn
  refine ⟨by rw [List.length_append, List.map_append]; exact ho, hk.heap h.box (fun e => by have := h.b _ e; omega), h.kept.trans hk (fun k hk e => by have := h.b _ e; omega), fun k hk => ?_⟩
  rcases hf k hk with e | e
  · exact h.b k e
  · omega
theorem own_one (w : World) (k g : Nat) (hk : k < 256) (hg : g = w.heap.size) : (w.alloc (.cells #[.int .u8 (k : Int)] 5)).ownsRow 0 5 1 (.slice (some ⟨g, 0, none⟩) 1 1) [lo k].length ([lo k].map bv) := by
  subst hg
  have := World.ownsRow_lit (base := 0) (e := 5) (size := 1) w #[.int .u8 (k : Int)] 1 (Nat.zero_le _) (by decide) rfl
  rw [bv_kind k hk] at this ⊢
  exact this
set_option maxHeartbeats 4000000 in
theorem rsigned_any (w : World) (f : Frm) (ad : Option Addr) (cap : Nat) (hf : f.ok) (hv : RdB w (.slice ad f.p.length cap) f.p) :
    Calls Tryd.prog 29 #[f.rval (.slice ad f.p.length cap)] w fun e w' => ∃ r, e = .returned r ∧ w'.ownsRow 0 5 1 r (if f.may then f.sgn else []).length ((if f.may then f.sgn else []).map bv) ∧ Kept (fun _ => False) w w' ∧ ∀ k, blk r k → w.heap.size ≤ k := by
  have HV := Lw.hid hv
  have HF := Lw.hid hf
  have hl : f.p.length ≤ 9223372036854775807 := by have := hv.len; unfold maxLen at this; omega
  clear hv hf
  obtain ⟨b, hb⟩ : ∃ b, f.may = b := ⟨_, rfl⟩
  have HB := Lw.hid hb
  rw [hb]
  clear hb
  cases b with
  | false =>
    go_enter Tryd.func29, Tryd.ntmps29
    go_wp2_with fail
    refine (rmay_any _ f ad cap false HB.out hl HF.out.k).mono ?_
    rintro e w1 ⟨rfl, k1⟩
    go_wp2_with fail
    go_ret
    exact ⟨_, rfl, World.ownsRow_nil _ 0 _ 1, ((Kept.refl _ w).alloc _).trans k1 (fun _ _ h => h), fun k hk => (blk_none hk).elim⟩
  | true =>
    have hp := may_len HB.out
    obtain ⟨k, s, ep, n, a, m, p⟩ := f
    simp only at HV hl hp ⊢
    go_enter Tryd.func29, Tryd.ntmps29
    go_wp2_with fail
    refine (rmay_any _ ⟨k, s, ep, n, a, m, p⟩ ad cap true HB.out hl HF.out.k).mono ?_
    rintro e w1 ⟨rfl, k1⟩
    have kk := ((Kept.refl (fun _ => False) w).alloc (.cells #[.int .i64 (k : Int), .int .u32 (s : Int), .int .u32 (ep : Int), .int .u32 (n : Int), .int .u32 (a : Int), .int .u32 (m : Int), .slice ad p.length cap] 48)).trans k1 (fun _ _ h => h)
    have hh := k1.heap (heap_alloc w _) (fun h => h)
    have KK := Lw.hid kk
    have HH := Lw.hid hh
    have g0 := heap_cell hh 0; have g1 := heap_cell hh 1
    have hk256 : k < 256 := HF.out.k
    have qs : s < 4294967296 := HF.out.s
    have qe : ep < 4294967296 := HF.out.e
    have qn : n < 4294967296 := HF.out.n
    have qa : a < 4294967296 := HF.out.a
    have qm : m < 4294967296 := HF.out.m
    have hlt := heap_lt hh
    have f1 : BX w (w1.alloc (.cells #[.int .u8 (k : Int)] 5)) (.slice (some ⟨w1.heap.size, 0, none⟩) 1 1) [lo k] (.cells #[.int .i64 (k : Int), .int .u32 (s : Int), .int .u32 (ep : Int), .int .u32 (n : Int), .int .u32 (a : Int), .int .u32 (m : Int), .slice ad p.length cap] 48) :=
      ⟨own_one w1 k _ hk256 rfl, Kept.heap ((Kept.refl (fun _ => False) w1).alloc _) hh (fun h => h), kk.alloc _, fun j hj => by have e := blk_some hj; simp only at e; omega⟩
    have F1 := Lw.hid f1
    clear k1 hh kk f1
    go_wp2_with fail
    clear g0 g1
    refine (number_any _ s 4 (by omega) (by omega)).mono ?_
    rintro e wn ⟨vn, rfl, ho, hk, hb⟩
    have fe := F1.out.ext hk
    have FE := Lw.hid fe; have HO := Lw.hid ho
    clear ho hk hb fe F1
    go_wp2_with (at_builtin; refine wpList_app rfl _ _ _ rfl EB (.slice (some ⟨w1.heap.size, 0, none⟩) 1 1) 1 _ rfl FE.out.own _ 4 _ rfl (Rd.own HO.out) (bytes_oneCell _) (by decide) (by decide) ?_; intro ad1 cap1 w2 ho hg hf; have F2 := Lw.hid (FE.out.app (m := be 4 s) (by simp only [be_length, List.length_cons, List.length_nil]) ho hg hf); have c2 := heap_cell F2.out.box 2; clear ho hg hf FE HO)
    clear c2
    refine (number_any _ ep 4 (by omega) (by omega)).mono ?_
    rintro e wn ⟨vn, rfl, ho, hk, hb⟩
    have fe := F2.out.ext hk
    have FE := Lw.hid fe; have HO := Lw.hid ho
    clear ho hk hb fe F2
    go_wp2_with (at_builtin; refine wpList_app rfl _ _ _ rfl EB (.slice ad1 5 cap1) 5 _ rfl FE.out.own _ 4 _ rfl (Rd.own HO.out) (bytes_oneCell _) (by decide) (by decide) ?_; intro ad2 cap2 w3 ho hg hf; have F3 := Lw.hid (FE.out.app (m := be 4 ep) (by simp only [List.length_append, be_length, List.length_cons, List.length_nil]) ho hg hf); have c3 := heap_cell F3.out.box 3; clear ho hg hf FE HO)
    clear c3
    refine (number_any _ n 4 (by omega) (by omega)).mono ?_
    rintro e wn ⟨vn, rfl, ho, hk, hb⟩
    have fe := F3.out.ext hk
    have FE := Lw.hid fe; have HO := Lw.hid ho
    clear ho hk hb fe F3
    go_wp2_with (at_builtin; refine wpList_app rfl _ _ _ rfl EB (.slice ad2 9 cap2) 9 _ rfl FE.out.own _ 4 _ rfl (Rd.own HO.out) (bytes_oneCell _) (by decide) (by decide) ?_; intro ad3 cap3 w4 ho hg hf; have F4 := Lw.hid (FE.out.app (m := be 4 n) (by simp only [List.length_append, be_length, List.length_cons, List.length_nil]) ho hg hf); have c4 := heap_cell F4.out.box 4; clear ho hg hf FE HO)
    clear c4
    refine (number_any _ a 4 (by omega) (by omega)).mono ?_
    rintro e wn ⟨vn, rfl, ho, hk, hb⟩
    have fe := F4.out.ext hk
    have FE := Lw.hid fe; have HO := Lw.hid ho
    clear ho hk hb fe F4
    go_wp2_with (at_builtin; refine wpList_app rfl _ _ _ rfl EB (.slice ad3 13 cap3) 13 _ rfl FE.out.own _ 4 _ rfl (Rd.own HO.out) (bytes_oneCell _) (by decide) (by decide) ?_; intro ad4 cap4 w5 ho hg hf; have F5 := Lw.hid (FE.out.app (m := be 4 a) (by simp only [List.length_append, be_length, List.length_cons, List.length_nil]) ho hg hf); have c5 := heap_cell F5.out.box 5; clear ho hg hf FE HO)
    clear c5
    refine (number_any _ m 4 (by omega) (by omega)).mono ?_
    rintro e wn ⟨vn, rfl, ho, hk, hb⟩
    have fe := F5.out.ext hk
    have FE := Lw.hid fe; have HO := Lw.hid ho
    clear ho hk hb fe F5
    go_wp2_with (at_builtin; refine wpList_app rfl _ _ _ rfl EB (.slice ad4 17 cap4) 17 _ rfl FE.out.own _ 4 _ rfl (Rd.own HO.out) (bytes_oneCell _) (by decide) (by decide) ?_; intro ad5 cap5 w6 ho hg hf; have F6 := Lw.hid (FE.out.app (m := be 4 m) (by simp only [List.length_append, be_length, List.length_cons, List.length_nil]) ho hg hf); have c6 := heap_cell F6.out.box 6; clear ho hg hf FE HO)
    clear c6
    refine (number_any _ p.length 2 (by omega) (by omega)).mono ?_
    rintro e wn ⟨vn, rfl, ho, hk, hb⟩
    have fe := F6.out.ext hk
    have FE := Lw.hid fe; have HO := Lw.hid ho
    clear ho hk hb fe F6
    go_wp2_with (first
      | (at_builtin; refine wpList_app rfl _ _ _ rfl EB (.slice ad5 21 cap5) 21 _ rfl FE.out.own vn 2 _ rfl (Rd.own HO.out) (bytes_oneCell _) (by decide) (by decide) ?_; intro ad6 cap6 w7 ho hg hf; have F7 := Lw.hid (FE.out.app (m := be 2 p.length) (by simp only [List.length_append, be_length, List.length_cons, List.length_nil]) ho hg hf); have c7 := heap_cell F7.out.box 6; clear ho hg hf FE HO)
      | (at_builtin; refine wpList_app rfl _ _ _ rfl EB (.slice ad6 (21 + 2) cap6) (21 + 2) _ rfl F7.out.own (.slice ad p.length cap) p.length _ rfl (HV.out.kept F7.out.kept (fun _ _ h => h)) (bytes_oneCell _) (by unfold maxLen; omega) (by omega) ?_; intro ad7 cap7 w8 ho hg hf; have F8 := Lw.hid (F7.out.app (m := p) (by simp only [List.length_append, be_length, List.length_cons, List.length_nil]) ho hg hf); clear ho hg hf F7))
    go_ret
    have e : ([lo k] ++ be 4 s ++ be 4 ep ++ be 4 n ++ be 4 a ++ be 4 m ++ be 2 p.length ++ p) = (⟨k, s, ep, n, a, m, p⟩ : Frm).sgn := by
      simp [Frm.sgn, Frm.head]
    have h := F8.out
    rw [e] at h
    exact ⟨_, rfl, h.own, h.kept, fun j hj => Nat.le_of_lt (h.b j hj)⟩
set_option maxHeartbeats 300000 in
theorem rencode_any (w : World) (f : Frm) (tag : Nat) (ad : Option Addr) (cap : Nat) (hf : f.ok) (ht : tag < 18446744073709551616) (hv : RdB w (.slice ad f.p.length cap) f.p) :
    Calls Tryd.prog 25 #[f.rval (.slice ad f.p.length cap), .int .u64 (tag : Int)] w fun e w' => ∃ r, e = .returned (.tuple #[r, .int .i64 (if f.may then 0 else 1)]) ∧ RdB w' r (if f.may then f.enc tag else []) ∧ Kept (fun _ => False) w w' := by
  have HV := Lw.hid hv
  have HF := Lw.hid hf
  have hl : f.p.length ≤ 9223372036854775807 := by have := hv.len; unfold maxLen at this; omega
  clear hv hf
  obtain ⟨b, hb⟩ : ∃ b, f.may = b := ⟨_, rfl⟩
  have HB := Lw.hid hb
  rw [hb]
  clear hb
  cases b with
  | false =>
    go_enter Tryd.func25, Tryd.ntmps25
    go_wp2_with fail
    refine (rmay_any _ f ad cap false HB.out hl HF.out.k).mono ?_
    rintro e w1 ⟨rfl, k1⟩
    go_wp2_with fail
    go_ret2
    exact ⟨_, rfl, RdB.nil _, ((Kept.refl _ w).alloc _).trans k1 (fun _ _ h => h)⟩
  | true =>
    have hp := may_len HB.out
    go_enter Tryd.func25, Tryd.ntmps25
    go_wp2_with fail
    refine (rmay_any _ f ad cap true HB.out hl HF.out.k).mono ?_
    rintro e w1 ⟨rfl, k1⟩
    have kk := ((Kept.refl (fun _ => False) w).alloc (.cells #[.int .i64 (f.kind : Int), .int .u32 (f.ses : Int), .int .u32 (f.ep : Int), .int .u32 (f.num : Int), .int .u32 (f.ack : Int), .int .u32 (f.mask : Int), .slice ad f.p.length cap] 48)).trans k1 (fun _ _ h => h)
    have hh := k1.heap (heap_alloc w _) (fun h => h)
    have hlt := heap_lt hh
    have g0 := heap_cell hh 0; have g1 := heap_cell hh 1; have g2 := heap_cell hh 2; have g3 := heap_cell hh 3; have g4 := heap_cell hh 4; have g5 := heap_cell hh 5; have g6 := heap_cell hh 6
    have HH := Lw.hid hh
    clear k1 hh
    go_wp2_with fail
    clear g0 g1 g2 g3 g4 g5 g6
    refine (rsigned_any _ f ad cap HF.out (HV.out.kept kk (fun _ _ h => h))).mono ?_
    rw [HB.out]
    rintro e w2 ⟨r, rfl, o2, k2, b2⟩
    have F2 : Hid (BX w w2 r f.sgn _) := Lw.hid ⟨o2, k2.heap HH.out (fun h => h), kk.trans k2 (fun _ _ h => h), fun k hk => by have := b2 k hk; omega⟩
    clear o2 k2 b2 HH
    go_wp2_with fail
    refine (number_any _ tag 8 ht (by omega)).mono ?_
    rintro e wn ⟨vn, rfl, ho, hk, hb⟩
    have FE := Lw.hid (F2.out.ext hk); have HO := Lw.hid ho
    have hsl : f.sgn.length ≤ 300 := by rw [Frm.sgn_len]; omega
    clear ho hk hb F2
    go_wp2_with (at_builtin; refine wpList_app rfl _ _ _ rfl EB r f.sgn.length _ rfl FE.out.own vn 8 _ rfl (Rd.own HO.out) (bytes_oneCell _) (by unfold maxLen; omega) (by omega) ?_; intro ad3 cap3 w3 ho hg hf; have F3 := Lw.hid (FE.out.app (m := be 8 tag) (by rw [be_length]) ho hg hf); clear ho hg hf FE HO)
    have hbl : (f.sgn ++ be 8 tag).length = f.sgn.length + 8 := by rw [List.length_append, be_length]
    have hbd : crcN (f.sgn ++ be 8 tag) = crcN (f.body tag) := rfl
    have HBL := Lw.hid hbl
    have hR3 : RdB w3 (.slice ad3 (f.sgn.length + 8) cap3) (f.sgn ++ be 8 tag) := Rd.own F3.out.own
    have hc := crcN_lt (f.body tag)
    have henc : f.enc tag = f.sgn ++ be 8 tag ++ be 4 (crcN (f.body tag)) := rfl
    rw [← hbd] at hc henc
    have HR3 := Lw.hid hR3
    have HENC := Lw.hid henc
    clear hbl hbd hR3 henc
    refine (refCrc_any _ _ _ HR3.out).mono ?_
    rintro e _ ⟨rfl, rfl⟩
    generalize crcN (f.sgn ++ be 8 tag) = c at *
    go_wp2_with fail
    refine (number_any _ c 4 (by omega) (by omega)).mono ?_
    rintro e wn ⟨vn, rfl, ho, hk, hb⟩
    have FE := Lw.hid (F3.out.ext hk); have HO := Lw.hid ho
    clear ho hk hb F3 HR3
    go_wp2_with (at_builtin; refine wpList_app rfl _ _ _ rfl EB (.slice ad3 (f.sgn.length + 8) cap3) (f.sgn ++ be 8 tag).length _ rfl FE.out.own vn 4 _ rfl (Rd.own HO.out) (bytes_oneCell _) (by rw [HBL.out]; unfold maxLen; omega) (by rw [HBL.out]; omega) ?_; intro ad4 cap4 w4 ho hg hf; have F4 := Lw.hid (FE.out.app (m := be 4 c) (by rw [be_length]) ho hg hf); clear ho hg hf FE HO)
    go_ret2
    have h4 : RdB w4 (.slice ad4 ((f.sgn ++ be 8 tag).length + 4) cap4) (f.enc tag) := by rw [HENC.out]; exact Rd.own F4.out.own
    rw [List.length_append] at h4
    exact ⟨_, rfl, h4, F4.out.kept⟩
end Go.Proofs.YtcmipliglcakdaaDoor
