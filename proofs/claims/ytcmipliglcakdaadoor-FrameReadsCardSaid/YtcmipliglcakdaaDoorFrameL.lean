/- Frames: what is laid; what is signed. -/
import Derived.Test.YtcmipliglcakdaaDoorFrameW
import Derived.Test.YtcmipliglcakdaaDoorWriterNil
import Derived.LoopN
namespace Go.Proofs.YtcmipliglcakdaaDoor
open Go Go.RowKit Go.Lw
set_option maxRecDepth 100000
theorem NwPost.of_kept {a b c : World} {e : Ending} {l : List UInt8} (hk : Kept (fun _ => False) a b) (h : NwPost b c e l) : NwPost a c e l := by
  obtain ⟨bw, v, rfl, h1, h2, h3, h4⟩ := h
  exact ⟨bw, v, rfl, h1, hk.trans h2 (fun _ _ h => h), Nat.le_trans hk.size h3, fun k hk' => Nat.le_trans hk.size (h4 k hk')⟩
theorem bv_kind (k : Nat) (h : k < 256) : Value.int .u8 (k : Int) = bv (lo k) := by rw [bv_lo, Nat.mod_eq_of_lt h]
theorem WriterAt.new' (w : World) (g : Nat) (hg : g = w.heap.size) : WriterAt (w.alloc (.cells #[.slice none 0 0, .int .i64 0] 30)) g (.slice none 0 0) [] 0 := by
  subst hg
  exact ⟨⟨_, heap_alloc _ _⟩, World.ownsRow_nil _ 0 _ 1, fun h => by cases h⟩
theorem NwPost.of_new' {w w' : World} {g : Nat} {l : List UInt8} (hg : g = w.heap.size) (h : WrPost (w.alloc (.cells #[.slice none 0 0, .int .i64 0] 30)) w' g (.slice none 0 0) l 0) : NwPost w w' (.returned (.pointer (some ⟨g, 0, none⟩))) l := by
  subst hg; exact NwPost.of_new h
theorem rdb_one (w : World) (k g : Nat) (hk : k < 256) (hg : g = w.heap.size) (e : TypeId) : RdB (w.alloc (.cells #[.int .u8 (k : Int)] e)) (.slice (some ⟨g, 0, none⟩) 1 1) [lo k] := by
  rw [bv_kind k hk]
  exact RdB.mark w [lo k] e (0, 0) g 1 hg rfl (by decide)
/-- A writer of the call's own, beside a box of it. -/
structure FL (w w1 : World) (bw : Nat) (v1 : Value) (L : List UInt8) (o : Obj) : Prop where
  wr : WriterAt w1 bw v1 L 0
  box : w1.heap[w.heap.size]? = some o
  kept : Kept (fun _ => False) w w1
  b1 : w.heap.size < bw
  b2 : ∀ k, blk v1 k → w.heap.size < k
theorem FL.step {w w1 w2 : World} {bw : Nat} {v1 : Value} {L L' : List UInt8} {o : Obj} (h : FL w w1 bw v1 L o) (hp : WrPost w1 w2 bw v1 L' 0) : ∃ v2, FL w w2 bw v2 L' o := by
  obtain ⟨v2, h1, h2, h3⟩ := hp
  have hs := h.kept.size
  have hlt := heap_lt h.box
  refine ⟨v2, h1, h2.heap h.box (fun e => ?_), h.kept.trans (h2.mono (S' := fun k => w.heap.size < k) (fun k _ e => ?_)) (fun k hk e => by omega), h.b1, fun k hk => ?_⟩
  · rcases e with e | e
    · have := h.b1; omega
    · have := h.b2 _ e; omega
  · rcases e with e | e
    · have := h.b1; omega
    · exact h.b2 _ e
  · rcases h3 k hk with e | e
    · exact h.b2 k e
    · omega
theorem FL.post {w w1 : World} {bw : Nat} {v1 : Value} {L : List UInt8} {o : Obj} (h : FL w w1 bw v1 L o) : NwPost w w1 (.returned (.pointer (some ⟨bw, 0, none⟩))) L :=
  ⟨bw, v1, rfl, h.wr, h.kept, Nat.le_of_lt h.b1, fun k hk => Nat.le_of_lt (h.b2 k hk)⟩
set_option maxHeartbeats 4000000 in
theorem flay_any (w : World) (f : Frm) (v : Value) (hf : f.ok) (hv : RdB w v f.p) (hl : f.p.length ≤ 65535) :
    Calls Tryd.prog 62 #[f.val v] w fun e w' => NwPost w w' e f.sgn := by
  have HV := Lw.hid hv
  have HF := Lw.hid hf
  have HL : Hid (f.p.length ≤ 65535) := Lw.hid hl
  clear hv hl hf
  obtain ⟨k, s, ep, n, a, m, p⟩ := f
  simp only at HV HL ⊢
  have i0 : ∀ w, (Instr.index 115 (.agg #[.int .u32 (s : Int), .int .u32 (ep : Int), .int .u32 (n : Int), .int .u32 (a : Int), .int .u32 (m : Int)]) (.int .i64 0)).run Tryd.prog w = .ok (.int .u32 (s : Int)) w := fun _ => by rfl
  have i1 : ∀ w, (Instr.index 115 (.agg #[.int .u32 (s : Int), .int .u32 (ep : Int), .int .u32 (n : Int), .int .u32 (a : Int), .int .u32 (m : Int)]) (.int .i64 1)).run Tryd.prog w = .ok (.int .u32 (ep : Int)) w := fun _ => by rfl
  have i2 : ∀ w, (Instr.index 115 (.agg #[.int .u32 (s : Int), .int .u32 (ep : Int), .int .u32 (n : Int), .int .u32 (a : Int), .int .u32 (m : Int)]) (.int .i64 2)).run Tryd.prog w = .ok (.int .u32 (n : Int)) w := fun _ => by rfl
  have i3 : ∀ w, (Instr.index 115 (.agg #[.int .u32 (s : Int), .int .u32 (ep : Int), .int .u32 (n : Int), .int .u32 (a : Int), .int .u32 (m : Int)]) (.int .i64 3)).run Tryd.prog w = .ok (.int .u32 (a : Int)) w := fun _ => by rfl
  have i4 : ∀ w, (Instr.index 115 (.agg #[.int .u32 (s : Int), .int .u32 (ep : Int), .int .u32 (n : Int), .int .u32 (a : Int), .int .u32 (m : Int)]) (.int .i64 4)).run Tryd.prog w = .ok (.int .u32 (m : Int)) w := fun _ => by rfl
  go_enter Tryd.func62, Tryd.ntmps62
  go_wp2_with fail
  have hw0 := WriterAt.new' (w.alloc (.cells #[.int .u8 (k : Int), .int .u32 (s : Int), .int .u32 (ep : Int), .int .u32 (n : Int), .int .u32 (a : Int), .int .u32 (m : Int), v] 46)) (w.heap.size + 1) (by simp)
  have hd := rdb_one ((w.alloc (.cells #[.int .u8 (k : Int), .int .u32 (s : Int), .int .u32 (ep : Int), .int .u32 (n : Int), .int .u32 (a : Int), .int .u32 (m : Int), v] 46)).alloc (.cells #[.slice none 0 0, .int .i64 0] 30)) k (w.heap.size + 1 + 1) HF.out.k (by simp) 5
  refine (byte_any _ (w.heap.size + 1) (.slice none 0 0) [] _ [lo k] (hw0.alloc _) hd (by simp)).mono ?_
  clear hw0 hd
  rintro e w1 ⟨rfl, hp1⟩
  have h0 : ∃ v1, FL w w1 (w.heap.size + 1) v1 [lo k] (.cells #[.int .u8 (k : Int), .int .u32 (s : Int), .int .u32 (ep : Int), .int .u32 (n : Int), .int .u32 (a : Int), .int .u32 (m : Int), v] 46 (0, 0)) := by
    obtain ⟨v1, q1, q2, q3⟩ := hp1
    have hsz := q2.size
    refine ⟨v1, q1, q2.heap (Kept.heap ((Kept.refl (fun _ => False) _).alloc _) (Kept.heap ((Kept.refl (fun _ => False) _).alloc _) (heap_alloc w _) (fun h => h)) (fun h => h)) (fun e => ?_), ((((Kept.refl (fun _ => False) w).alloc _).alloc _).alloc _).trans (q2.mono (S' := fun k => w.heap.size < k) (fun k _ e => ?_)) (fun k hk e => by omega), by omega, fun k hk => ?_⟩
    · rcases e with e | e
      · omega
      · exact blk_none e
    · rcases e with e | e
      · omega
      · exact (blk_none e).elim
    · rcases q3 k hk with e | e
      · exact (blk_none e).elim
      · simp at e; omega
  obtain ⟨v1, f1⟩ := h0
  have F1 := Lw.hid f1
  have c1 := heap_cell f1.box 1; have c2 := heap_cell f1.box 2; have c3 := heap_cell f1.box 3; have c4 := heap_cell f1.box 4; have c5 := heap_cell f1.box 5
  clear f1 hp1
  go_wp2_with fail
  clear c1 c2 c3 c4 c5
  refine wp_loop_rounds 6 ?_
  rw [rounds_succ]
  go_wp2_with fail
  refine (four_any _ _ v1 _ _ s rfl HF.out.s F1.out.wr (by simp only [List.length_cons, List.length_nil]; omega)).mono ?_
  rintro e w2 ⟨rfl, hp⟩
  obtain ⟨v2, f2⟩ := F1.out.step hp
  have F2 := Lw.hid f2
  clear hp f2 F1
  go_wp2_with fail
  rw [rounds_succ]
  go_wp2_with fail
  refine (four_any _ _ v2 _ _ ep rfl HF.out.e F2.out.wr (by simp only [List.length_append, be_length, List.length_cons, List.length_nil]; omega)).mono ?_
  rintro e w3 ⟨rfl, hp⟩
  obtain ⟨v3, f3⟩ := F2.out.step hp
  have F3 := Lw.hid f3
  clear hp f3 F2
  go_wp2_with fail
  rw [rounds_succ]
  go_wp2_with fail
  refine (four_any _ _ v3 _ _ n rfl HF.out.n F3.out.wr (by simp only [List.length_append, be_length, List.length_cons, List.length_nil]; omega)).mono ?_
  rintro e w4 ⟨rfl, hp⟩
  obtain ⟨v4, f4⟩ := F3.out.step hp
  have F4 := Lw.hid f4
  clear hp f4 F3
  go_wp2_with fail
  rw [rounds_succ]
  go_wp2_with fail
  refine (four_any _ _ v4 _ _ a rfl HF.out.a F4.out.wr (by simp only [List.length_append, be_length, List.length_cons, List.length_nil]; omega)).mono ?_
  rintro e w5 ⟨rfl, hp⟩
  obtain ⟨v5, f5⟩ := F4.out.step hp
  have F5 := Lw.hid f5
  clear hp f5 F4
  go_wp2_with fail
  rw [rounds_succ]
  go_wp2_with fail
  refine (four_any _ _ v5 _ _ m rfl HF.out.m F5.out.wr (by simp only [List.length_append, be_length, List.length_cons, List.length_nil]; omega)).mono ?_
  rintro e w6 ⟨rfl, hp⟩
  obtain ⟨v6, f6⟩ := F5.out.step hp
  have F6 := Lw.hid f6
  clear hp f6 F5
  go_wp2_with fail
  rw [rounds_succ]
  have c6 := heap_cell F6.out.box 6
  go_wp2_with (refine wpList_str rfl _ _ _ rfl _ p rfl (HV.out.kept F6.out.kept (fun _ _ h => h)) Tryd.underlying22 Tryd.underlying5 Tryd.underlying9 ?_)
  clear c6 i0 i1 i2 i3 i4
  refine (text_any _ _ v6 _ ⟨p.toArray⟩ HL.out F6.out.wr (by simp only [List.length_append, be_length, List.length_cons, List.length_nil]; omega)).mono ?_
  rintro e w7 ⟨rfl, hp⟩
  obtain ⟨v7, f7⟩ := F6.out.step hp
  have F7 := Lw.hid f7
  clear hp f7 F6
  go_wp2_with fail
  go_ret
  have h := F7.out.post
  have e : ([lo k] ++ be 4 s ++ be 4 ep ++ be 4 n ++ be 4 a ++ be 4 m ++ (be 2 (ByteArray.mk p.toArray).size ++ (ByteArray.mk p.toArray).data.toList)) = (⟨k, s, ep, n, a, m, p⟩ : Frm).sgn := by
    simp [Frm.sgn, Frm.head, ByteArray.size]
  rw [e] at h
  exact h
set_option maxHeartbeats 4000000 in
theorem signed_any (w : World) (f : Frm) (ad : Option Addr) (cap : Nat) (hf : f.ok) (hm : TabM w) (hv : RdB w (.slice ad f.p.length cap) f.p) :
    Calls Tryd.prog 28 #[f.val (.slice ad f.p.length cap)] w fun e w' => ∃ r, e = .returned r ∧ RdB w' r (if f.may then f.sgn else []) ∧ Kept (fun _ => False) w w' := by
  have HV := Lw.hid hv
  have HF := Lw.hid hf
  have HM := Lw.hid hm
  have hl : f.p.length ≤ 9223372036854775807 := by have := hv.len; unfold maxLen at this; omega
  clear hv hf hm
  obtain ⟨b, hb⟩ : ∃ b, f.may = b := ⟨_, rfl⟩
  have HB := Lw.hid hb
  rw [hb]
  clear hb
  cases b with
  | false =>
    go_enter Tryd.func28, Tryd.ntmps28
    go_wp2_with fail
    refine (may_any _ f ad cap (HM.out.kept ((Kept.refl _ w).alloc _)) false HB.out hl).mono ?_
    rintro e w1 ⟨rfl, k1⟩
    go_wp2_with fail
    go_ret
    exact ⟨_, rfl, RdB.nil _, ((Kept.refl _ w).alloc _).trans k1 (fun _ _ h => h)⟩
  | true =>
    go_enter Tryd.func28, Tryd.ntmps28
    go_wp2_with fail
    refine (may_any _ f ad cap (HM.out.kept ((Kept.refl _ w).alloc _)) true HB.out hl).mono ?_
    rintro e w1 ⟨rfl, k1⟩
    have kk := ((Kept.refl (fun _ => False) w).alloc (.cells #[.int .u8 (f.kind : Int), .int .u32 (f.ses : Int), .int .u32 (f.ep : Int), .int .u32 (f.num : Int), .int .u32 (f.ack : Int), .int .u32 (f.mask : Int), .slice ad f.p.length cap] 46)).trans k1 (fun _ _ h => h)
    have hh := k1.heap (heap_alloc w _) (fun h => h)
    have g0 := heap_cell hh 0; have g1 := heap_cell hh 1; have g2 := heap_cell hh 2; have g3 := heap_cell hh 3; have g4 := heap_cell hh 4; have g5 := heap_cell hh 5; have g6 := heap_cell hh 6
    clear k1 hh
    go_wp2_with fail
    clear g0 g1 g2 g3 g4 g5 g6
    refine (flay_any _ f _ HF.out (HV.out.kept kk (fun _ _ h => h)) (by have := may_len HB.out; omega)).mono ?_
    rintro e w2 ⟨bw, v, rfl, h2, k2, b2, f2⟩
    have H2 := Lw.hid h2
    clear h2
    go_wp2_with fail
    refine (done_any _ bw v _ H2.out (by rw [Frm.sgn_len]; have := may_len HB.out; omega)).mono ?_
    rintro e w3 ⟨r, rfl, hp3⟩
    go_wp2_with fail
    go_ret
    obtain ⟨_, _, _, _, hk, _⟩ := NwPost.more ⟨H2.out, k2, b2, f2⟩ hp3.wr
    obtain ⟨_, _, _, _, hr, _⟩ := hp3
    exact ⟨_, rfl, Rd.own hr, kk.trans hk (fun _ _ h => h)⟩
set_option maxHeartbeats 4000000 in
theorem encode_any (w : World) (f : Frm) (tag : Nat) (ad : Option Addr) (cap : Nat) (hf : f.ok) (ht : tag < 18446744073709551616) (hm : TabM w) (hT : Tab w) (hv : RdB w (.slice ad f.p.length cap) f.p) :
    Calls Tryd.prog 24 #[f.val (.slice ad f.p.length cap), .int .u64 (tag : Int)] w fun e w' => ∃ r, e = .returned (.tuple #[r, .int .i64 (if f.may then 0 else 1)]) ∧ RdB w' r (if f.may then f.enc tag else []) ∧ Kept (fun _ => False) w w' := by
  have HV := Lw.hid hv
  have HF := Lw.hid hf
  have HM := Lw.hid hm
  have HT := Lw.hid hT
  have hl : f.p.length ≤ 9223372036854775807 := by have := hv.len; unfold maxLen at this; omega
  clear hv hf hm hT
  obtain ⟨b, hb⟩ : ∃ b, f.may = b := ⟨_, rfl⟩
  have HB := Lw.hid hb
  rw [hb]
  clear hb
  cases b with
  | false =>
    go_enter Tryd.func24, Tryd.ntmps24
    go_wp2_with fail
    refine (may_any _ f ad cap (HM.out.kept ((Kept.refl _ w).alloc _)) false HB.out hl).mono ?_
    rintro e w1 ⟨rfl, k1⟩
    go_wp2_with fail
    go_ret2
    exact ⟨_, rfl, RdB.nil _, ((Kept.refl _ w).alloc _).trans k1 (fun _ _ h => h)⟩
  | true =>
    go_enter Tryd.func24, Tryd.ntmps24
    go_wp2_with fail
    refine (may_any _ f ad cap (HM.out.kept ((Kept.refl _ w).alloc _)) true HB.out hl).mono ?_
    rintro e w1 ⟨rfl, k1⟩
    have kk := ((Kept.refl (fun _ => False) w).alloc (.cells #[.int .u8 (f.kind : Int), .int .u32 (f.ses : Int), .int .u32 (f.ep : Int), .int .u32 (f.num : Int), .int .u32 (f.ack : Int), .int .u32 (f.mask : Int), .slice ad f.p.length cap] 46)).trans k1 (fun _ _ h => h)
    have hh := k1.heap (heap_alloc w _) (fun h => h)
    have g0 := heap_cell hh 0; have g1 := heap_cell hh 1; have g2 := heap_cell hh 2; have g3 := heap_cell hh 3; have g4 := heap_cell hh 4; have g5 := heap_cell hh 5; have g6 := heap_cell hh 6
    clear k1 hh
    go_wp2_with fail
    clear g0 g1 g2 g3 g4 g5 g6
    refine (flay_any _ f _ HF.out (HV.out.kept kk (fun _ _ h => h)) (by have := may_len HB.out; omega)).mono ?_
    rintro e w2 ⟨bw, v, rfl, h2, k2, b2, f2⟩
    have H2 := Lw.hid h2
    clear h2
    go_wp2_with fail
    refine (eight_any _ bw v _ _ tag rfl ht H2.out (by rw [Frm.sgn_len]; have := may_len HB.out; omega)).mono ?_
    rintro e w3 ⟨rfl, hp3⟩
    obtain ⟨_, v3, hbe, h3, k3, b3, f3⟩ := NwPost.more ⟨H2.out, k2, b2, f2⟩ hp3
    cases hbe
    have H3 := Lw.hid h3
    clear h3 hp3 H2 k2 b2 f2
    go_wp2_with fail
    refine (done_any _ bw v3 _ H3.out (by rw [List.length_append, be_length, Frm.sgn_len]; have := may_len HB.out; omega)).mono ?_
    rintro e w4 ⟨r, rfl, hp4⟩
    obtain ⟨_, v4, hbe, h4, k4, b4, f4⟩ := NwPost.more ⟨H3.out, k3, b3, f3⟩ hp4.wr
    cases hbe
    obtain ⟨_, _, _, _, hr4, _⟩ := hp4
    have HR4 : Hid (RdB w4 r (f.body tag)) := Lw.hid (Rd.own hr4)
    have H4 := Lw.hid h4
    clear h4 hr4 H3 k3 b3 f3
    go_wp2_with fail
    refine (crc_any r _ _ HR4.out ((HT.out.below (Below.of_kept kk)).below (Below.of_kept k4))).mono ?_
    rintro e _ ⟨rfl, rfl⟩
    go_wp2_with fail
    refine (four_any _ bw v4 _ _ (crcN (f.body tag)) rfl (crcN_lt _) H4.out (by rw [List.length_append, be_length, Frm.sgn_len]; have := may_len HB.out; omega)).mono ?_
    rintro e w5 ⟨rfl, hp5⟩
    obtain ⟨_, v5, hbe, h5, k5, b5, f5⟩ := NwPost.more ⟨H4.out, k4, b4, f4⟩ hp5
    cases hbe
    have H5 := Lw.hid h5
    clear h5 hp5 H4 k4 b4 f4 HR4
    go_wp2_with fail
    refine (done_any _ bw v5 _ H5.out (by rw [List.length_append, List.length_append, be_length, be_length, Frm.sgn_len]; have := may_len HB.out; omega)).mono ?_
    rintro e w6 ⟨r6, rfl, hp6⟩
    go_wp2_with fail
    go_ret2
    obtain ⟨_, _, _, _, hk, _⟩ := NwPost.more ⟨H5.out, k5, b5, f5⟩ hp6.wr
    obtain ⟨_, _, _, _, hr, _⟩ := hp6
    exact ⟨_, rfl, Rd.own hr, kk.trans hk (fun _ _ h => h)⟩
end Go.Proofs.YtcmipliglcakdaaDoor
