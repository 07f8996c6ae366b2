/- The writer that is nil, and the one that has an error; the reader that is nil. -/
import Derived.Test.YtcmipliglcakdaaDoorReader
import Derived.Test.YtcmipliglcakdaaDoorWakes
namespace Go.Proofs.YtcmipliglcakdaaDoor
open Go Go.RowKit Go.Lw
set_option maxRecDepth 100000
/-- A new writer with these bytes, all of it new. -/
def NwPost (w w' : World) (e : Ending) (l : List UInt8) : Prop := ∃ bw v, e = .returned (.pointer (some ⟨bw, 0, none⟩)) ∧ WriterAt w' bw v l 0 ∧ Kept (fun _ => False) w w' ∧ w.heap.size ≤ bw ∧ ∀ k, blk v k → w.heap.size ≤ k
theorem NwPost.of_new {w w' : World} {l : List UInt8} (h : WrPost (w.alloc (.cells #[.slice none 0 0, .int .i64 0] 30)) w' w.heap.size (.slice none 0 0) l 0) : NwPost w w' (.returned (.pointer (some ⟨w.heap.size, 0, none⟩))) l := by
  obtain ⟨v', h1, h2, h3⟩ := h
  refine ⟨_, v', rfl, h1, ?_, Nat.le_refl _, fun k hk => ?_⟩
  · refine (Kept.refl (fun _ => False) w).alloc _ |>.trans (h2.mono (S' := fun k => k = w.heap.size) ?_) (fun i hi e => by omega)
    rintro k _ (e | e)
    · exact e
    · exact (blk_none e).elim
  · rcases h3 k hk with e | e
    · exact (blk_none e).elim
    · simp at e; omega
theorem NwPost.more {w w1 w' : World} {bw : Nat} {v : Value} {l l' : List UInt8} (h : WriterAt w1 bw v l 0 ∧ Kept (fun _ => False) w w1 ∧ w.heap.size ≤ bw ∧ ∀ k, blk v k → w.heap.size ≤ k) (hp : WrPost w1 w' bw v l' 0) : NwPost w w' (.returned (.pointer (some ⟨bw, 0, none⟩))) l' := by
  obtain ⟨h1, hk, hb, hv⟩ := h
  obtain ⟨v', k1, k2, k3⟩ := hp
  refine ⟨bw, v', rfl, k1, hk.trans k2 ?_, hb, fun k hk' => ?_⟩
  · rintro i hi (e | e)
    · omega
    · have := hv i e; omega
  · rcases k3 k hk' with e | e
    · exact hv k e
    · exact Nat.le_trans hk.size e
set_option maxHeartbeats 400000 in
theorem byte_nil (w : World) (src : Value) (m : List UInt8) (hs : RdB w src m) (hlen : m.length ≤ 70368744177664) :
    Calls Tryd.prog 54 #[.pointer none, src] w fun e w' => NwPost w w' e m := by
  have hw := WriterAt.new w
  have HW := Lw.hid hw
  obtain ⟨⟨T, hh⟩, ho, hd⟩ := hw
  have HO := Lw.hid ho
  have HH := Lw.hid hh
  clear ho hh
  go_enter Tryd.func54, Tryd.ntmps54
  go_wp2_with (at_builtin; refine wpList_app rfl _ _ _ rfl EB (.slice none 0 0) 0 _ rfl HO.out src m.length _ rfl (hs.alloc _) (bytes_oneCell m) (by unfold maxLen; omega) (by omega) ?_; intro ad cap w1 ho' hg hf; have HO' := Lw.hid ho'; have HF := Lw.hid hf; clear ho' hf; have hh1 := grown_heap hg HH.out (fun e => hd e); have d0 := heap_cell hh1 0; have d1 := heap_free hh1 0; simp at d0)
  go_ret
  have hp := byte_post (l := []) (m := m) hd (heap_lt HH.out) hh1 (by simpa using HO'.out) hg (by simpa using HF.out)
  simp only [List.length_nil, Nat.zero_add, List.nil_append] at hp
  exact NwPost.of_new hp
set_option maxHeartbeats 400000 in
theorem byte_err (w : World) (bw : Nat) (v : Value) (l : List UInt8) (er : Int) (src : Value) (he : er ≠ 0) (h : WriterAt w bw v l er) :
    Calls Tryd.prog 54 #[.pointer (some ⟨bw, 0, none⟩), src] w fun e w' => e = .returned (.pointer (some ⟨bw, 0, none⟩)) ∧ w = w' := by
  obtain ⟨⟨T, hh⟩, ho, hd⟩ := h
  have c0 : w.cell? ⟨bw, 0, none⟩ = some v := heap_cell hh 0
  have c1 : w.cell? ⟨bw, 1, none⟩ = some (.int .i64 er) := heap_cell hh 1
  clear ho hh
  go_enter Tryd.func54, Tryd.ntmps54
  go_wp2_with fail
  go_ret
  exact ⟨rfl, rfl⟩
set_option maxHeartbeats 400000 in
theorem err_nil (w : World) : Calls Tryd.prog 44 #[.pointer none] w fun e w' => e = .returned (.int .i64 4) ∧ w = w' := by
  go_enter Tryd.func44, Tryd.ntmps44
  go_wp2_with fail
  go_ret
  exact ⟨rfl, rfl⟩
set_option maxHeartbeats 400000 in
theorem left_nil (w : World) : Calls Tryd.prog 43 #[.pointer none] w fun e w' => e = .returned (.int .i64 0) ∧ w = w' := by
  go_enter Tryd.func43, Tryd.ntmps43
  go_wp2_with fail
  go_ret
  exact ⟨rfl, rfl⟩
set_option maxHeartbeats 400000 in
theorem take_nil (w : World) (x : Int) : Calls Tryd.prog 32 #[.pointer none, .int .i64 x] w fun e w' => e = .returned (.slice none 0 0) ∧ w = w' := by
  go_enter Tryd.func32, Tryd.ntmps32
  go_wp2_with fail
  all_goals (go_ret; exact ⟨rfl, rfl⟩)
set_option maxHeartbeats 400000 in
theorem number_nil (w : World) (x : Int) : Calls Tryd.prog 63 #[.pointer none, .int .i64 x] w fun e w' => e = .returned (.int .u64 0) ∧ w = w' := by
  go_enter Tryd.func63, Tryd.ntmps63
  go_wp2_with (refine (take_nil w x).mono ?_)
  rintro e _ ⟨rfl, rfl⟩
  go_wp2_with fail
  go_loopw [5, 12] (fun s i wr => s = .int .u64 0 ∧ i = .int .i64 0 ∧ wr = w) (fun _ _ _ => 0)
  case atStart => exact ⟨rfl, rfl, rfl⟩
  case round =>
    obtain ⟨rfl, rfl, rfl⟩ := hrel
    go_wp2_with fail
    go_ret
    exact ⟨rfl, rfl⟩
set_option maxHeartbeats 400000 in
theorem rbyte_nil (w : World) : Calls Tryd.prog 34 #[.pointer none] w fun e w' => e = .returned (.int .u8 0) ∧ w = w' := by
  go_enter Tryd.func34, Tryd.ntmps34
  go_wp2_with (refine (number_nil w _).mono ?_)
  rintro e _ ⟨rfl, rfl⟩
  go_wp2_with fail
  go_ret
  exact ⟨rfl, rfl⟩
set_option maxHeartbeats 400000 in
theorem rest_nil (w : World) : Calls Tryd.prog 41 #[.pointer none] w fun e w' => e = .returned (.slice none 0 0) ∧ w = w' := by
  go_enter Tryd.func41, Tryd.ntmps41
  go_wp2_with (go_at_call 43; refine (left_nil w).mono ?_)
  rintro e _ ⟨rfl, rfl⟩
  go_wp2_with fail
  refine (take_nil w _).mono ?_
  rintro e _ ⟨rfl, rfl⟩
  go_wp2_with fail
  go_ret
  exact ⟨rfl, rfl⟩
set_option maxHeartbeats 400000 in
theorem done_err (w : World) (bw : Nat) (v : Value) (l : List UInt8) (er : Int) (he : er ≠ 0) (h : WriterAt w bw v l er) :
    Calls Tryd.prog 20 #[.pointer (some ⟨bw, 0, none⟩)] w fun e w' => e = .returned (.tuple #[.slice none 0 0, .int .i64 er]) ∧ Kept (fun _ => False) w w' := by
  have c1 : w.cell? ⟨bw, 1, none⟩ = some (.int .i64 er) := by obtain ⟨⟨T, hh⟩, _⟩ := h; exact heap_cell hh 1
  go_enter Tryd.func20, Tryd.ntmps20
  go_wp2_with (refine (byte_err w bw v l er _ he h).mono ?_)
  rintro e _ ⟨rfl, rfl⟩
  go_wp2_with fail
  go_region
  go_wp2_with fail
  go_ret2
  exact ⟨rfl, (Kept.refl _ w).drew⟩
set_option maxHeartbeats 400000 in
theorem text_nil (w : World) (s : ByteArray) (hn : s.size ≤ 65535) :
    Calls Tryd.prog 53 #[.pointer none, .string s] w fun e w' => NwPost w w' e (be 2 s.size ++ s.data.toList) := by
  go_enter Tryd.func53, Tryd.ntmps53
  go_wp2_with fail
  refine (byte_nil _ _ [] (RdB.nil _) (by simp)).mono ?_
  rintro e w1 ⟨bw, v, rfl, h1, k1, b1, f1⟩
  have H1 := Lw.hid h1; clear h1
  go_wp2_with fail
  refine (two_any _ bw v _ _ s.size (by first | omega | (rw [IntKind.wrap_u16]; omega)) (by omega) H1.out (by simp)).mono ?_
  rintro e w2 ⟨rfl, hp2⟩
  obtain ⟨v2, h2, k2⟩ := two_then hp2
  have K2 := Lw.hid k2
  have H2 := Lw.hid h2; clear h2 hp2 k2
  go_wp2_with (refine wpList_bytes rfl _ _ _ rfl s rfl Tryd.underlying9 Tryd.underlying22 Tryd.underlying5 (by unfold maxLen; omega) ?_; intro g cap w3 hg hrow hrd hk3 hz)
  have h3 := WriterAt.kept hk3 H2.out (fun h => h) (fun _ _ h => h)
  refine (byte_any _ bw v2 _ _ s.data.toList h3 hrd (by simp [be_length]; omega)).mono ?_
  rintro e w4 ⟨rfl, hp4⟩
  have hp := K2.out _ _ _ (hp4.of_kept hk3)
  simp only [List.nil_append] at hp
  have HP := Lw.hid (NwPost.more ⟨H1.out, k1, b1, f1⟩ hp); clear hp hp4 K2 hk3 hz hrow hrd h3
  go_wp2_with fail
  go_ret
  exact HP.out
set_option maxHeartbeats 400000 in
theorem text_long (w : World) (bw : Nat) (v : Value) (l : List UInt8) (s : ByteArray) (hn : 65535 < s.size) (h : WriterAt w bw v l 0) (hlen : l.length ≤ 70368744177664) :
    Calls Tryd.prog 53 #[.pointer (some ⟨bw, 0, none⟩), .string s] w fun e w' => e = .returned (.pointer (some ⟨bw, 0, none⟩)) ∧ WrPost w w' bw v l 3 := by
  have H := Lw.hid h
  clear h
  go_enter Tryd.func53, Tryd.ntmps53
  go_wp2_with fail
  refine (byte_any _ bw v l _ [] H.out (RdB.nil _) (by simp; omega)).mono ?_
  rintro e w1 ⟨rfl, hp1⟩
  obtain ⟨v1, h1, h2, h3⟩ := hp1
  rw [List.append_nil] at h1
  have H1 := Lw.hid h1
  obtain ⟨⟨T, hh⟩, ho, hd⟩ := h1
  have c1 : w1.cell? ⟨bw, 1, none⟩ = some (.int .i64 0) := heap_cell hh 1
  have d1 : w1.frozen? ⟨bw, 1, none⟩ = false := heap_free hh 1
  have HH := Lw.hid hh
  clear hh ho
  go_wp2_with fail
  go_ret
  exact ⟨rfl, v1, ⟨⟨T, heap_set HH.out 1 _⟩, own_setCell H1.out.2.1 hd _, hd⟩, h2.setCell (fun _ => .inl rfl) _, h3⟩
end Go.Proofs.YtcmipliglcakdaaDoor
