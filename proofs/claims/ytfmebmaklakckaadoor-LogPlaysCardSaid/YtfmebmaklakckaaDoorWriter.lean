/- The walks of scribe's Writer: what each call lays, and what it leaves alone. -/
import Derived.Test.YtfmebmaklakckaaDoorChecked
import Derived.Test.YtfmebmaklakckaaDoorLib
import Derived.Laws.BitsAllLaws
namespace Go.Proofs.YtfmebmaklakckaaDoor
open Go Go.RowKit Go.Lw
set_option maxRecDepth 100000
theorem EB : ElemT Tryd.prog 38 5 1 1 := ElemT.of (z := .int .u8 0) Tryd.underlying38 (by kernel_rfl) rfl (by decide)
/-- A writer: its two cells; its bytes' own row. -/
def WriterAt (w : World) (bw : Nat) (v : Value) (l : List UInt8) (e : Int) : Prop :=
  (∃ T, w.heap[bw]? = some (.cells #[v, .int .i64 e] T (0, 0))) ∧ w.ownsRow 0 5 1 v l.length (l.map bv) ∧ ¬ blk v bw
/-- What a call of the writer leaves: the writer with these bytes; all else as it was. -/
def WrPost (w w' : World) (bw : Nat) (v : Value) (l : List UInt8) (e : Int) : Prop :=
  ∃ v', WriterAt w' bw v' l e ∧ Kept (fun k => k = bw ∨ blk v k) w w' ∧ Fresh w v v'
theorem WrPost.trans {a b c : World} {bw : Nat} {v : Value} {l : List UInt8} {e : Int} {v1 : Value} (h1 : Kept (fun k => k = bw ∨ blk v k) a b) (h2 : Fresh a v v1) (h : WrPost b c bw v1 l e) : WrPost a c bw v l e := by
  obtain ⟨v', k1, k2, k3⟩ := h
  refine ⟨v', k1, h1.trans k2 ?_, ?_⟩
  · rintro i hi (rfl | hb)
    · exact .inl rfl
    · rcases h2 i hb with h | h
      · exact .inr h
      · omega
  · intro k hk
    rcases k3 k hk with h | h
    · exact h2 k h
    · exact .inr (Nat.le_trans h1.size h)
theorem WriterAt.refl {w : World} {bw : Nat} {v : Value} {l : List UInt8} {e : Int} (h : WriterAt w bw v l e) : WrPost w w bw v l e := ⟨v, h, Kept.refl _ _, Fresh.refl _ _⟩
theorem byte_post {w w1 : World} {bw : Nat} {v : Value} {l m : List UInt8} {T : TypeId} {ad : Option Addr} {cap : Nat} (hd : ¬ blk v bw) (hb : bw < w.heap.size)
    (hh : w1.heap[bw]? = some (.cells #[v, .int .i64 0] T (0, 0))) (ho : w1.ownsRow 0 5 1 (.slice ad (l.length + m.length) cap) (l.length + m.length) (l.map bv ++ m.map bv))
    (hg : w.grownBy w1 v.ownBlock) (hf : Fresh w v (.slice ad (l.length + m.length) cap)) :
    WrPost w (w1.setCell ⟨bw, 0, none⟩ (.slice ad (l.length + m.length) cap)) bw v (l ++ m) 0 := by
  have hn : ¬ blk (.slice ad (l.length + m.length) cap) bw := fun e => by
    rcases hf bw e with h | h
    · exact hd h
    · omega
  refine ⟨.slice ad (l.length + m.length) cap, ⟨⟨T, ?_⟩, ?_, hn⟩, ?_, hf⟩
  · exact heap_set hh 0 _
  · rw [List.length_append, List.map_append]
    exact own_setCell ho hn _
  · exact ((Kept.refl _ w).grown hg (fun k hk _ => .inr hk)).setCell (fun _ => .inl rfl) _
set_option maxHeartbeats 400000 in
theorem byte_any (w : World) (bw : Nat) (v : Value) (l : List UInt8) (src : Value) (m : List UInt8) (h : WriterAt w bw v l 0) (hs : RdB w src m) (hlen : l.length + m.length ≤ 70368744177664) :
    Calls Tryd.prog 53 #[.pointer (some ⟨bw, 0, none⟩), src] w fun e w' => e = .returned (.pointer (some ⟨bw, 0, none⟩)) ∧ WrPost w w' bw v (l ++ m) 0 := by
  obtain ⟨⟨T, hh⟩, ho, hd⟩ := h
  have c0 : w.cell? ⟨bw, 0, none⟩ = some v := heap_cell hh 0
  have c1 : w.cell? ⟨bw, 1, none⟩ = some (.int .i64 0) := heap_cell hh 1
  have HO := Lw.hid ho
  have HH := Lw.hid hh
  clear ho hh
  go_enter Tryd.func53, Tryd.ntmps53
  go_wp2_with (at_builtin; refine wpList_app rfl _ _ _ rfl EB v l.length _ rfl HO.out src m.length _ rfl hs (bytes_oneCell m) (by unfold maxLen; omega) (by omega) ?_; intro ad cap w1 ho' hg hf; have HO' := Lw.hid ho'; have HF := Lw.hid hf; clear ho' hf; have hh1 := grown_heap hg HH.out (fun e => hd e); have d0 := heap_cell hh1 0; have d1 := heap_free hh1 0; clear c0 c1; simp at d0)
  go_ret
  exact ⟨rfl, byte_post hd (heap_lt HH.out) hh1 HO'.out hg HF.out⟩
theorem WriterAt.alloc {w : World} {bw : Nat} {v : Value} {l : List UInt8} {e : Int} (h : WriterAt w bw v l e) (o : Obj) : WriterAt (w.alloc o) bw v l e := by
  obtain ⟨⟨T, hh⟩, ho, hd⟩ := h
  exact ⟨⟨T, (Below.heap_alloc _ _ _ (heap_lt hh)).trans hh⟩, own_of_heap ho fun g hg => Below.heap_alloc _ _ _ (own_lt ho g hg), hd⟩
theorem WrPost.of_alloc {w w' : World} {o : Obj} {bw : Nat} {v : Value} {l : List UInt8} {e : Int} (h : WrPost (w.alloc o) w' bw v l e) : WrPost w w' bw v l e := by
  obtain ⟨v', k1, k2, k3⟩ := h
  refine ⟨v', k1, ((Kept.refl _ w).alloc o).trans k2 (fun _ _ h => h), fun k hk => ?_⟩
  rcases k3 k hk with h | h
  · exact .inl h
  · exact .inr (by simp at h; omega)
theorem WriterAt.kept {S : Nat → Prop} {w w' : World} (hk : Kept S w w') {bw : Nat} {v : Value} {l : List UInt8} {e : Int} (h : WriterAt w bw v l e) (h1 : ¬ S bw) (h2 : ∀ g, blk v g → ¬ S g) : WriterAt w' bw v l e := by
  obtain ⟨⟨T, hh⟩, ho, hd⟩ := h
  exact ⟨⟨T, hk.heap hh h1⟩, own_kept hk ho h2, hd⟩
theorem WrPost.of_kept {w w1 w' : World} (hk : Kept (fun _ => False) w w1) {bw : Nat} {v : Value} {l : List UInt8} {e : Int} (h : WrPost w1 w' bw v l e) : WrPost w w' bw v l e := by
  obtain ⟨v', k1, k2, k3⟩ := h
  refine ⟨v', k1, (hk.mono (fun _ _ h => h.elim)).trans k2 (fun _ _ h => h), fun k hk' => ?_⟩
  rcases k3 k hk' with h | h
  · exact .inl h
  · exact .inr (Nat.le_trans hk.size h)
set_option maxHeartbeats 400000 in
theorem two_any (w : World) (bw : Nat) (v : Value) (l : List UInt8) (x : Int) (n : Nat) (hx : x = n) (hn : n < 65536) (h : WriterAt w bw v l 0) (hlen : l.length + 2 ≤ 70368744177664) :
    Calls Tryd.prog 52 #[.pointer (some ⟨bw, 0, none⟩), .int .u16 x] w fun e w' => e = .returned (.pointer (some ⟨bw, 0, none⟩)) ∧ WrPost w w' bw v (l ++ be 2 n) 0 := by
  subst hx
  have H := Lw.hid h
  clear h
  go_enter Tryd.func52, Tryd.ntmps52
  go_wp2_with fail
  refine (byte_any _ bw v l _ (be 2 n) (H.out.alloc _) ?_ ?_).mono ?_
  · have e : #[Value.int .u8 ((n : Int) / 256), Value.int .u8 ((n : Int) % 256)] = ((be 2 n).map bv).toArray := by
      simp only [be, List.nil_append, List.cons_append, List.map_cons, List.map_nil, bv_lo]
      rw [show n / 256 % 256 = n / 256 by omega]; rfl
    rw [e]
    exact RdB.lit w (be 2 n) _ 2 (be_length 2 n).symm (by unfold maxLen; omega)
  · rw [be_length]; exact hlen
  · rintro e w' ⟨rfl, hp⟩
    go_wp2_with fail
    go_ret
    exact ⟨rfl, hp.of_alloc⟩
theorem two_then {w w' : World} {bw : Nat} {v : Value} {l : List UInt8} (h : WrPost w w' bw v l 0) : ∃ v1, WriterAt w' bw v1 l 0 ∧ (∀ l' e w'', WrPost w' w'' bw v1 l' e → WrPost w w'' bw v l' e) := by
  obtain ⟨v1, h1, h2, h3⟩ := h
  exact ⟨v1, h1, fun l' e w'' hp => WrPost.trans h2 h3 hp⟩
set_option maxHeartbeats 400000 in
theorem four_any (w : World) (bw : Nat) (v : Value) (l : List UInt8) (x : Int) (n : Nat) (hx : x = n) (hn : n < 4294967296) (h : WriterAt w bw v l 0) (hlen : l.length + 4 ≤ 70368744177664) :
    Calls Tryd.prog 51 #[.pointer (some ⟨bw, 0, none⟩), .int .u32 x] w fun e w' => e = .returned (.pointer (some ⟨bw, 0, none⟩)) ∧ WrPost w w' bw v (l ++ be 4 n) 0 := by
  subst hx
  have H := Lw.hid h
  clear h
  go_enter Tryd.func51, Tryd.ntmps51
  go_wp2_with fail
  refine (two_any _ bw v l _ (n / 65536) (by omega) (by omega) H.out (by omega)).mono ?_
  rintro e w1 ⟨rfl, hp1⟩
  obtain ⟨v1, h1, k1⟩ := two_then hp1
  have H1 := Lw.hid h1; clear h1 hp1
  go_wp2_with fail
  refine (two_any _ bw v1 _ _ (n % 65536) (by first | omega | (rw [IntKind.wrap_u16]; omega)) (by omega) H1.out (by simp [be_length]; omega)).mono ?_
  rintro e w2 ⟨rfl, hp2⟩
  have hp := k1 _ _ _ hp2
  clear k1 hp2
  rw [show n % 65536 = n % 256 ^ 2 from rfl, be_mod, List.append_assoc, show n / 65536 = n / 256 ^ 2 from rfl, ← be_add 2 2] at hp
  have HP := Lw.hid hp; clear hp
  go_wp2_with fail
  go_ret
  exact ⟨rfl, HP.out⟩
theorem RdB.none (w : World) : RdB w (.slice none 0 0) [] := RdB.nil w
set_option maxHeartbeats 400000 in
/-- A copy of bytes: new memory, that may be written. -/
theorem clone_any (w : World) (src : Value) (l : List UInt8) (hs : RdB w src l) (hlen : l.length ≤ 70368744177664) :
    Calls Tryd.prog 39 #[src] w fun e w' => ∃ v, e = .returned v ∧ w'.ownsRow 0 5 1 v l.length (l.map bv) ∧ Kept (fun _ => False) w w' ∧ (∀ k, blk v k → w.heap.size ≤ k) := by
  obtain ⟨ad, cap, rfl, h1, h2, hc⟩ := hs.open
  cases ad with
  | none =>
    obtain rfl : l = [] := by
      cases l with
      | nil => rfl
      | cons c l => obtain ⟨g, off, e, _⟩ := hc 0 (by simp); cases e
    have heq := fun w => Lib.run_eql_slice_nil (P := Tryd.prog) w 38 5 none 0 cap 0 0 Tryd.underlying38
    go_enter Tryd.func39, Tryd.ntmps39
    go_wp2_with fail
    go_ret
    exact ⟨_, rfl, World.ownsRow_nil w 0 _ 1, Kept.refl _ _, fun k hk => by cases hk⟩
  | some ad =>
    have HS := Lw.hid hs
    clear hc hs
    have heq := fun w => Lib.run_eql_slice_nil (P := Tryd.prog) w 38 5 (some ad) l.length cap 0 0 Tryd.underlying38
    have ho : (w.alloc (.cells #[] 5)).ownsRow 0 5 1 (.slice (some ⟨w.heap.size, 0, none⟩) 0 0) 0 [] := World.ownsRow_lit w #[] 0 (Nat.zero_le _) (by unfold maxLen; omega) rfl
    go_enter Tryd.func39, Tryd.ntmps39
    go_wp2_with (at_builtin; refine wpList_app rfl _ _ _ rfl EB _ 0 _ rfl ho _ l.length _ rfl (Rd.alloc HS.out _) (bytes_oneCell l) (by unfold maxLen; omega) (by omega) ?_; intro ad' cap' w1 ho' hg hf)
    go_ret
    rw [Nat.zero_add] at ho' hf
    refine ⟨.slice ad' l.length cap', rfl, ho', ((Kept.refl _ w).alloc _).grown hg (fun k hk hl => ?_), fun k hk => ?_⟩
    · have e : k = w.heap.size := blk_some hk
      omega
    · rcases hf k hk with h | h
      · have e : k = w.heap.size := blk_some h
        omega
      · simp at h; omega
/-- What Done leaves: the writer with its bytes; the slice r that it told: those bytes, in new memory of its own. -/
def DnPost (w w' : World) (bw : Nat) (v r : Value) (l : List UInt8) : Prop :=
  ∃ v', WriterAt w' bw v' l 0 ∧ Kept (fun k => k = bw ∨ blk v k) w w' ∧ Fresh w v v' ∧ w'.ownsRow 0 5 1 r l.length (l.map bv) ∧ ∀ k, blk r k → w.heap.size ≤ k ∧ ¬ blk v' k ∧ k ≠ bw
theorem DnPost.wr {w w' : World} {bw : Nat} {v r : Value} {l : List UInt8} (h : DnPost w w' bw v r l) : WrPost w w' bw v l 0 := by
  obtain ⟨v', h1, h2, h3, _⟩ := h
  exact ⟨v', h1, h2, h3⟩
/-- A writer that the call itself made in block w.heap.size: nothing that was there has turned. -/
theorem WrPost.below {w w' : World} {o : Obj} {l : List UInt8} {e : Int} (h : WrPost (w.alloc o) w' w.heap.size (.slice none 0 0) l e) : Below w.heap.size w w' := by
  obtain ⟨v', _, k, _⟩ := h
  refine (((Kept.refl (fun k => w.heap.size ≤ k) w).alloc o).trans k ?_).below (Nat.le_refl _) (fun k hk h => by omega)
  rintro i hi (rfl | hb)
  · exact Nat.le_refl _
  · cases hb
set_option maxHeartbeats 400000 in
theorem done_any (w : World) (bw : Nat) (v : Value) (l : List UInt8) (h : WriterAt w bw v l 0) (hlen : l.length ≤ 70368744177664) :
    Calls Tryd.prog 54 #[.pointer (some ⟨bw, 0, none⟩)] w fun e w' => ∃ r, e = .returned (.tuple #[r, .int .i64 0]) ∧ DnPost w w' bw v r l := by
  have H := Lw.hid h
  clear h
  go_enter Tryd.func54, Tryd.ntmps54
  go_wp2_with fail
  refine (byte_any _ bw v l _ [] H.out (RdB.nil _) (by simp; omega)).mono ?_
  rintro e w1 ⟨rfl, v1, h1, k1, f1⟩
  rw [List.append_nil] at h1
  have H1 := Lw.hid h1
  obtain ⟨⟨T, hh⟩, ho, hd⟩ := h1
  have c0 : w1.cell? ⟨bw, 0, none⟩ = some v1 := heap_cell hh 0
  have c1 : w1.cell? ⟨bw, 1, none⟩ = some (.int .i64 0) := heap_cell hh 1
  have HH := Lw.hid hh
  have HO := Lw.hid ho
  clear hh ho
  go_wp2_with fail
  refine (clone_any _ _ l (Rd.own HO.out) hlen).mono ?_
  rintro e w2 ⟨r, rfl, hr, k2, f2⟩
  go_wp2_with fail
  go_ret2
  refine ⟨r, rfl, v1, WriterAt.kept k2 H1.out (fun h => h) (fun _ _ h => h), k1.trans k2 (fun _ _ h => h.elim), f1, hr, fun k hk => ⟨?_, fun e => ?_, fun e => ?_⟩⟩
  · exact Nat.le_trans k1.size (f2 k hk)
  · have := own_lt HO.out k e
    have := f2 k hk
    omega
  · have := heap_lt HH.out
    have := f2 k hk
    omega
end Go.Proofs.YtfmebmaklakckaaDoor
