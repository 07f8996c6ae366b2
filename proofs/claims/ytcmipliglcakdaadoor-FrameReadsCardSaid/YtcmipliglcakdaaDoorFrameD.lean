/- frame.Decode, walked. -/
import Derived.Test.YtcmipliglcakdaaDoorFrameSet
import Derived.Test.YtcmipliglcakdaaDoorReader
import Derived.Test.YtcmipliglcakdaaDoorPlainReader
import Derived.Test.YtcmipliglcakdaaDoorSlice
namespace Go.Proofs.YtcmipliglcakdaaDoor
open Go Go.RowKit Go.Lw
set_option maxRecDepth 100000
/-- What is read of a datagram: the frame, the tag, the sum, the reader behind all. -/
structure DecR where
  f : Frm
  tag : Nat
  sum : Nat
  r : Rdr
def readF (b : List UInt8) : DecR :=
  let r0 : Rdr := ⟨b, false⟩
  let r1 := (r0.num 1).2
  let r2 := (r1.num 4).2
  let r3 := (r2.num 4).2
  let r4 := (r3.num 4).2
  let r5 := (r4.num 4).2
  let r6 := (r5.num 4).2
  let r7 := r6.text.2
  let r8 := (r7.num 8).2
  ⟨⟨(r0.num 1).1, (r1.num 4).1, (r2.num 4).1, (r3.num 4).1, (r4.num 4).1, (r5.num 4).1, r6.text.1⟩, (r7.num 8).1, (r8.num 4).1, (r8.num 4).2⟩
def zeroF : Frm := ⟨0, 0, 0, 0, 0, 0, []⟩
/-- What a datagram is. -/
def decF (b : List UInt8) : Frm × Nat × Nat :=
  let d := readF b
  if d.r.short then (zeroF, 0, 4)
  else if d.r.l ≠ [] then (zeroF, 0, 5)
  else if d.sum ≠ crcN (b.take (b.length - 4)) then (zeroF, 0, 11)
  else if d.f.may = false then (zeroF, 0, 5)
  else (d.f, d.tag, 0)
theorem take_ns {r : Rdr} {n : Nat} (h : (r.take n).2.short = false) : r.short = false ∧ r.l.length = n + (r.take n).2.l.length ∧ (r.take n).1.length = n := by
  unfold Rdr.take at *
  split at h
  · rename_i hs; simp only at h; rw [hs] at h; cases h
  · rename_i hs
    split at h
    · simp at h
    · rename_i hn
      rw [if_neg hs, if_neg hn]
      simp only [List.length_drop, List.length_take]
      exact ⟨by simpa using hs, by omega, by omega⟩
theorem num_ns {r r' : Rdr} {n k : Nat} (h : r.num n = (k, r')) (hs : r'.short = false) : r.short = false ∧ r.l.length = n + r'.l.length := by
  have e : r' = (r.take n).2 := by rw [Rdr.num] at h; exact (Prod.mk.inj h).2.symm
  subst e
  have := take_ns hs
  exact ⟨this.1, this.2.1⟩
theorem text_ns {r r' : Rdr} {p : List UInt8} (h : r.text = (p, r')) (hs : r'.short = false) : r.short = false ∧ r.l.length = 2 + p.length + r'.l.length := by
  unfold Rdr.text at h
  have e : r' = ((r.num 2).2.take (r.num 2).1).2 := by rw [h]
  have e1 : p = ((r.num 2).2.take (r.num 2).1).1 := by rw [h]
  subst e
  obtain ⟨h1, h2, h3⟩ := take_ns hs
  have := num_ns (r := r) (n := 2) (k := (r.num 2).1) (r' := (r.num 2).2) rfl h1
  exact ⟨this.1, by rw [e1, h3]; omega⟩
theorem rdb_cast' {w : World} {ad : Option Addr} {n cap : Nat} {l : List UInt8} (_ : l.length = n) (h : RdB w (.slice ad n cap) l) : RdB w (.slice ad n cap) l := h
structure DS (w wi : World) (br : Nat) (v : Value) (r : Rdr) (bf : Nat) (fb : Obj) : Prop where
  rd : ReaderAt wi br v r
  res : wi.heap[w.heap.size]? = some (.cells #[.int .u8 (0 : Int), .int .u32 (0 : Int), .int .u32 (0 : Int), .int .u32 (0 : Int), .int .u32 (0 : Int), .int .u32 (0 : Int), .slice none 0 0] 46 (0, 0))
  fr : wi.heap[bf]? = some fb
  kept : Kept (fun _ => False) w wi
  n1 : w.heap.size < br
  n2 : br < bf
  v1 : ∀ k, blk v k → w.heap.size < k ∧ k < bf
theorem DS.step {w wi wj : World} {br : Nat} {v : Value} {r r' : Rdr} {bf : Nat} {fb : Obj} (h : DS w wi br v r bf fb) (hp : RdPost wi wj br v r') : ∃ v', DS w wj br v' r' bf fb := by
  obtain ⟨v', h1, h2, h3⟩ := hp
  have q1 := h.n1; have q2 := h.n2
  exact ⟨v', h1, h2.heap h.res (fun e => by omega), h2.heap h.fr (fun e => by omega), h.kept.trans h2 (fun k hk e => by omega), h.n1, h.n2, fun k hk => h.v1 k (h3 k hk)⟩
theorem DS.ext {w wi wj : World} {br : Nat} {v : Value} {r : Rdr} {bf : Nat} {fb : Obj} (h : DS w wi br v r bf fb) (hk : Kept (fun _ => False) wi wj) : DS w wj br v r bf fb :=
  ⟨h.rd.kept hk (fun h => h) (fun _ _ h => h), hk.heap h.res (fun h => h), hk.heap h.fr (fun h => h), h.kept.trans hk (fun _ _ h => h), h.n1, h.n2, h.v1⟩
theorem DS.set {w wi : World} {br : Nat} {v : Value} {r : Rdr} {bf : Nat} {c : Array Value} {T : TypeId} {f : Nat × Nat} (h : DS w wi br v r bf (.cells c T f)) (i : Nat) (u : Value) : DS w (wi.setCell ⟨bf, i, none⟩ u) br v r bf (.cells (c.setIfInBounds i u) T f) := by
  have q1 := h.n1; have q2 := h.n2
  have hk : Kept (fun k => k = bf) wi (wi.setCell ⟨bf, i, none⟩ u) := (Kept.refl (fun k => k = bf) wi).set bf i (fun _ => rfl) u
  exact ⟨h.rd.kept hk (by omega) (fun g hg e => by have := (h.v1 g hg).2; omega), hk.heap h.res (by omega), heap_set h.fr i u, h.kept.trans hk (fun k hk e => by omega), h.n1, h.n2, h.v1⟩
theorem rbyte_as (w : World) (br : Nat) (v : Value) (r r' : Rdr) (k : Nat) (h : ReaderAt w br v r) (hx : r.num 1 = (k, r')) :
    Calls Tryd.prog 34 #[.pointer (some ⟨br, 0, none⟩)] w fun e w' => e = .returned (.int .u8 (k : Int)) ∧ RdPost w w' br v r' := by
  have := rbyte_any w br v r h
  rw [hx] at this; exact this
theorem rfour_as (w : World) (br : Nat) (v : Value) (r r' : Rdr) (k : Nat) (h : ReaderAt w br v r) (hx : r.num 4 = (k, r')) :
    Calls Tryd.prog 37 #[.pointer (some ⟨br, 0, none⟩)] w fun e w' => e = .returned (.int .u32 (k : Int)) ∧ RdPost w w' br v r' := by
  have := rfour_any w br v r h
  rw [hx] at this; exact this
theorem reight_as (w : World) (br : Nat) (v : Value) (r r' : Rdr) (k : Nat) (h : ReaderAt w br v r) (hx : r.num 8 = (k, r')) :
    Calls Tryd.prog 38 #[.pointer (some ⟨br, 0, none⟩)] w fun e w' => e = .returned (.int .u64 (k : Int)) ∧ RdPost w w' br v r' := by
  have := reight_any w br v r h
  rw [hx] at this; exact this
theorem rtext_as (w : World) (br : Nat) (v : Value) (r r' : Rdr) (p : List UInt8) (h : ReaderAt w br v r) (hx : r.text = (p, r')) :
    Calls Tryd.prog 39 #[.pointer (some ⟨br, 0, none⟩)] w fun e w' => e = .returned (.string ⟨p.toArray⟩) ∧ RdPost w w' br v r' := by
  have := rtext_any w br v r h
  rw [hx] at this; exact this
set_option maxHeartbeats 4000000 in
theorem decode_any (w : World) (src : Value) (b : List UInt8) (hs : RdB w src b) (hl : b.length ≤ 70368744177664) (hm : TabM w) (hT : Tab w) :
    Calls Tryd.prog 50 #[src] w fun e w' => ∃ ad cap, e = .returned (.tuple #[(decF b).1.val (.slice ad (decF b).1.p.length cap), .int .u64 ((decF b).2.1 : Int), .int .i64 ((decF b).2.2 : Int)]) ∧ RdB w' (.slice ad (decF b).1.p.length cap) (decF b).1.p ∧ Kept (fun _ => False) w w' ∧ ∀ k, blk (.slice ad (decF b).1.p.length cap) k → w.heap.size ≤ k := by
  obtain ⟨ads, caps, rfl, hs1, hs2, hs3⟩ := hs.open
  unfold maxLen at hs2
  have HS := Lw.hid hs; have HM := Lw.hid hm; have HT := Lw.hid hT
  clear hs hm hT hs3
  obtain ⟨k, r1, h1⟩ : ∃ x r, (⟨b, false⟩ : Rdr).num 1 = (x, r) := ⟨_, _, rfl⟩
  obtain ⟨s, r2, h2⟩ : ∃ x r, r1.num 4 = (x, r) := ⟨_, _, rfl⟩
  obtain ⟨e, r3, h3⟩ : ∃ x r, r2.num 4 = (x, r) := ⟨_, _, rfl⟩
  obtain ⟨n, r4, h4⟩ : ∃ x r, r3.num 4 = (x, r) := ⟨_, _, rfl⟩
  obtain ⟨a, r5, h5⟩ : ∃ x r, r4.num 4 = (x, r) := ⟨_, _, rfl⟩
  obtain ⟨m, r6, h6⟩ : ∃ x r, r5.num 4 = (x, r) := ⟨_, _, rfl⟩
  obtain ⟨p, r7, h7⟩ : ∃ x r, r6.text = (x, r) := ⟨_, _, rfl⟩
  obtain ⟨tag, r8, h8⟩ : ∃ x r, r7.num 8 = (x, r) := ⟨_, _, rfl⟩
  obtain ⟨sum, r9, h9⟩ : ∃ x r, r8.num 4 = (x, r) := ⟨_, _, rfl⟩
  have hd : readF b = ⟨⟨k, s, e, n, a, m, p⟩, tag, sum, r9⟩ := by simp only [readF, h1, h2, h3, h4, h5, h6, h7, h8, h9]
  have hpl : p.length ≤ 65535 := by
    have q1 := Rdr.num_lt r6 2
    have q2 := Rdr.take_len (r6.num 2).2 (r6.num 2).1
    have : r6.text.1.length ≤ (r6.num 2).1 := q2
    rw [h7] at this
    simp only at this
    omega
  have HPL := Lw.hid hpl
  have HD := Lw.hid hd
  have H1 := Lw.hid h1
  have H2 := Lw.hid h2
  have H3 := Lw.hid h3
  have H4 := Lw.hid h4
  have H5 := Lw.hid h5
  have H6 := Lw.hid h6
  have H7 := Lw.hid h7
  have H8 := Lw.hid h8
  have H9 := Lw.hid h9
  clear hd hpl h1 h2 h3 h4 h5 h6 h7 h8 h9
  have i0 : ∀ (bf : Nat) (w : World), (Instr.index 101 (.agg #[.pointer (some ⟨bf, 1, none⟩), .pointer (some ⟨bf, 2, none⟩), .pointer (some ⟨bf, 3, none⟩), .pointer (some ⟨bf, 4, none⟩), .pointer (some ⟨bf, 5, none⟩)]) (.int .i64 0)).run Tryd.prog w = .ok (.pointer (some ⟨bf, 1, none⟩)) w := fun _ _ => rfl
  have i1 : ∀ (bf : Nat) (w : World), (Instr.index 101 (.agg #[.pointer (some ⟨bf, 1, none⟩), .pointer (some ⟨bf, 2, none⟩), .pointer (some ⟨bf, 3, none⟩), .pointer (some ⟨bf, 4, none⟩), .pointer (some ⟨bf, 5, none⟩)]) (.int .i64 1)).run Tryd.prog w = .ok (.pointer (some ⟨bf, 2, none⟩)) w := fun _ _ => rfl
  have i2 : ∀ (bf : Nat) (w : World), (Instr.index 101 (.agg #[.pointer (some ⟨bf, 1, none⟩), .pointer (some ⟨bf, 2, none⟩), .pointer (some ⟨bf, 3, none⟩), .pointer (some ⟨bf, 4, none⟩), .pointer (some ⟨bf, 5, none⟩)]) (.int .i64 2)).run Tryd.prog w = .ok (.pointer (some ⟨bf, 3, none⟩)) w := fun _ _ => rfl
  have i3 : ∀ (bf : Nat) (w : World), (Instr.index 101 (.agg #[.pointer (some ⟨bf, 1, none⟩), .pointer (some ⟨bf, 2, none⟩), .pointer (some ⟨bf, 3, none⟩), .pointer (some ⟨bf, 4, none⟩), .pointer (some ⟨bf, 5, none⟩)]) (.int .i64 3)).run Tryd.prog w = .ok (.pointer (some ⟨bf, 4, none⟩)) w := fun _ _ => rfl
  have i4 : ∀ (bf : Nat) (w : World), (Instr.index 101 (.agg #[.pointer (some ⟨bf, 1, none⟩), .pointer (some ⟨bf, 2, none⟩), .pointer (some ⟨bf, 3, none⟩), .pointer (some ⟨bf, 4, none⟩), .pointer (some ⟨bf, 5, none⟩)]) (.int .i64 4)).run Tryd.prog w = .ok (.pointer (some ⟨bf, 5, none⟩)) w := fun _ _ => rfl
  go_enter Tryd.func50, Tryd.ntmps50
  go_wp2_with fail
  have hb0 := heap_alloc w (.cells #[.int .u8 (0 : Int), .int .u32 (0 : Int), .int .u32 (0 : Int), .int .u32 (0 : Int), .int .u32 (0 : Int), .int .u32 (0 : Int), .slice none 0 0] 46 (0, 0))
  refine (new_any _ _ b (HS.out.alloc _) hl).mono ?_
  rintro e1 w1 ⟨br, v0, rfl, r0, k0, n0, f0⟩
  have hres := k0.heap hb0 (fun h => h)
  have kk := ((Kept.refl (fun _ => False) w).alloc (.cells #[.int .u8 (0 : Int), .int .u32 (0 : Int), .int .u32 (0 : Int), .int .u32 (0 : Int), .int .u32 (0 : Int), .int .u32 (0 : Int), .slice none 0 0] 46 (0, 0))).trans k0 (fun _ _ h => h)
  have hsz0 : ∀ o, (w.alloc o).heap.size = w.heap.size + 1 := fun _ => by simp
  rw [hsz0] at n0
  have f0' : ∀ k, blk v0 k → w.heap.size + 1 ≤ k ∧ k < w1.heap.size := fun k hk => by have := f0 k hk; rwa [hsz0] at this
  clear f0 hsz0
  have f0 := f0'
  clear f0'
  clear hb0 k0
  go_wp2_with fail
  refine (rbyte_as _ br v0 _ r1 k r0 H1.out).mono ?_
  rintro e1 w2 ⟨rfl, hp⟩
  have hds : ∃ v1, DS w (w2.alloc (.cells #[.int .u8 (k : Int), .int .u32 (0 : Int), .int .u32 (0 : Int), .int .u32 (0 : Int), .int .u32 (0 : Int), .int .u32 (0 : Int), .slice none 0 0] 46 (0, 0))) br v1 r1 w2.heap.size (.cells #[.int .u8 (k : Int), .int .u32 (0 : Int), .int .u32 (0 : Int), .int .u32 (0 : Int), .int .u32 (0 : Int), .int .u32 (0 : Int), .slice none 0 0] 46 (0, 0)) := by
    obtain ⟨v1, q1, q2, q3⟩ := hp
    have hlt := q1.lt
    have hsz := q2.size
    refine ⟨v1, q1.kept ((Kept.refl (fun _ => False) w2).alloc _) (fun h => h) (fun _ _ h => h), ((Kept.refl (fun _ => False) w2).alloc _).heap (q2.heap hres (fun e => by omega)) (fun h => h), heap_alloc _ _, (kk.trans q2 (fun k hk e => by omega)).alloc _, by omega, hlt, fun k hk => ?_⟩
    have := f0 k (q3 k hk)
    omega
  obtain ⟨v1, d1⟩ := hds
  have D1 := Lw.hid d1
  clear d1 hp hres kk r0 n0 f0
  go_wp2_with fail
  obtain ⟨bf, hbf⟩ : ∃ bf, bf = w2.heap.size := ⟨_, rfl⟩
  rw [← hbf] at D1 ⊢
  clear hbf
  generalize w2.alloc (.cells #[.int .u8 (k : Int), .int .u32 (0 : Int), .int .u32 (0 : Int), .int .u32 (0 : Int), .int .u32 (0 : Int), .int .u32 (0 : Int), .slice none 0 0] 46 (0, 0)) = w3 at *
  refine wp_loop_rounds 6 ?_
  rw [rounds_succ]
  go_wp2_with fail
  refine (rfour_as _ br _ _ r2 s D1.out.rd H2.out).mono ?_
  rintro e1 w4 ⟨rfl, hp⟩
  obtain ⟨v2, d⟩ := D1.out.step hp
  have c := heap_cell d.fr 1; have ff := heap_free d.fr 1
  have D2 : Hid (DS w (w4.setCell ⟨bf, 1, none⟩ (.int .u32 (s : Int))) br v2 r2 bf (.cells #[.int .u8 (k : Int), .int .u32 (s : Int), .int .u32 (0 : Int), .int .u32 (0 : Int), .int .u32 (0 : Int), .int .u32 (0 : Int), .slice none 0 0] 46 (0, 0))) := Lw.hid (d.set 1 (.int .u32 (s : Int)))
  clear d hp D1
  go_wp2_with fail
  clear c ff
  generalize w4.setCell ⟨bf, 1, none⟩ (.int .u32 (s : Int)) = w4s at *
  rw [rounds_succ]
  go_wp2_with fail
  refine (rfour_as _ br _ _ r3 e D2.out.rd H3.out).mono ?_
  rintro e1 w5 ⟨rfl, hp⟩
  obtain ⟨v3, d⟩ := D2.out.step hp
  have c := heap_cell d.fr 2; have ff := heap_free d.fr 2
  have D3 : Hid (DS w (w5.setCell ⟨bf, 2, none⟩ (.int .u32 (e : Int))) br v3 r3 bf (.cells #[.int .u8 (k : Int), .int .u32 (s : Int), .int .u32 (e : Int), .int .u32 (0 : Int), .int .u32 (0 : Int), .int .u32 (0 : Int), .slice none 0 0] 46 (0, 0))) := Lw.hid (d.set 2 (.int .u32 (e : Int)))
  clear d hp D2
  go_wp2_with fail
  clear c ff
  generalize w5.setCell ⟨bf, 2, none⟩ (.int .u32 (e : Int)) = w5s at *
  rw [rounds_succ]
  go_wp2_with fail
  refine (rfour_as _ br _ _ r4 n D3.out.rd H4.out).mono ?_
  rintro e1 w6 ⟨rfl, hp⟩
  obtain ⟨v4, d⟩ := D3.out.step hp
  have c := heap_cell d.fr 3; have ff := heap_free d.fr 3
  have D4 : Hid (DS w (w6.setCell ⟨bf, 3, none⟩ (.int .u32 (n : Int))) br v4 r4 bf (.cells #[.int .u8 (k : Int), .int .u32 (s : Int), .int .u32 (e : Int), .int .u32 (n : Int), .int .u32 (0 : Int), .int .u32 (0 : Int), .slice none 0 0] 46 (0, 0))) := Lw.hid (d.set 3 (.int .u32 (n : Int)))
  clear d hp D3
  go_wp2_with fail
  clear c ff
  generalize w6.setCell ⟨bf, 3, none⟩ (.int .u32 (n : Int)) = w6s at *
  rw [rounds_succ]
  go_wp2_with fail
  refine (rfour_as _ br _ _ r5 a D4.out.rd H5.out).mono ?_
  rintro e1 w7 ⟨rfl, hp⟩
  obtain ⟨v5, d⟩ := D4.out.step hp
  have c := heap_cell d.fr 4; have ff := heap_free d.fr 4
  have D5 : Hid (DS w (w7.setCell ⟨bf, 4, none⟩ (.int .u32 (a : Int))) br v5 r5 bf (.cells #[.int .u8 (k : Int), .int .u32 (s : Int), .int .u32 (e : Int), .int .u32 (n : Int), .int .u32 (a : Int), .int .u32 (0 : Int), .slice none 0 0] 46 (0, 0))) := Lw.hid (d.set 4 (.int .u32 (a : Int)))
  clear d hp D4
  go_wp2_with fail
  clear c ff
  generalize w7.setCell ⟨bf, 4, none⟩ (.int .u32 (a : Int)) = w7s at *
  rw [rounds_succ]
  go_wp2_with fail
  refine (rfour_as _ br _ _ r6 m D5.out.rd H6.out).mono ?_
  rintro e1 w8 ⟨rfl, hp⟩
  obtain ⟨v6, d⟩ := D5.out.step hp
  have c := heap_cell d.fr 5; have ff := heap_free d.fr 5
  have D6 : Hid (DS w (w8.setCell ⟨bf, 5, none⟩ (.int .u32 (m : Int))) br v6 r6 bf (.cells #[.int .u8 (k : Int), .int .u32 (s : Int), .int .u32 (e : Int), .int .u32 (n : Int), .int .u32 (a : Int), .int .u32 (m : Int), .slice none 0 0] 46 (0, 0))) := Lw.hid (d.set 5 (.int .u32 (m : Int)))
  clear d hp D5
  go_wp2_with fail
  clear c ff
  generalize w8.setCell ⟨bf, 5, none⟩ (.int .u32 (m : Int)) = w8s at *
  rw [rounds_succ]
  go_wp2_with fail
  clear i0 i1 i2 i3 i4
  refine (rtext_as _ br _ r6 r7 p D6.out.rd H7.out).mono ?_
  rintro e1 w9 ⟨rfl, hp⟩
  obtain ⟨v7, d⟩ := D6.out.step hp
  have D7 := Lw.hid d
  clear d hp D6
  have hmx : (ByteArray.mk p.toArray).size ≤ maxLen := by have := HPL.out; unfold maxLen; show p.toArray.size ≤ _; rw [List.size_toArray]; omega
  go_wp2_with (refine wpList_bytes rfl _ _ _ rfl ⟨p.toArray⟩ rfl Tryd.underlying9 Tryd.underlying22 Tryd.underlying5 hmx ?_; intro g capg w10 hg _ hrd hkg hsz)
  have D8 := Lw.hid (D7.out.ext hkg)
  have hrd' : RdB w10 (.slice (some ⟨g, 0, none⟩) p.length capg) p := hrd
  have HRD := Lw.hid hrd'
  clear hrd hrd' hkg hsz hg D7
  refine (clone_any _ _ p HRD.out (by have := HPL.out; omega)).mono ?_
  rintro e1 w11 ⟨vp, rfl, op, k11, bp⟩
  obtain ⟨adp, capp, rfl, _, _, _⟩ := own_slice op
  have d := D8.out.ext k11
  have hbf : bf < w10.heap.size := heap_lt D8.out.fr
  have PV : Hid (RdB w11 (.slice adp p.length capp) p ∧ ∀ k, blk (.slice adp p.length capp) k → bf < k) := Lw.hid ⟨Rd.own op, fun k hk => by have := bp k hk; omega⟩
  have c := heap_cell d.fr 6; have ff := heap_free d.fr 6
  have D9 : Hid (DS w (w11.setCell ⟨bf, 6, none⟩ (.slice adp p.length capp)) br v7 r7 bf (.cells #[.int .u8 (k : Int), .int .u32 (s : Int), .int .u32 (e : Int), .int .u32 (n : Int), .int .u32 (a : Int), .int .u32 (m : Int), .slice adp p.length capp] 46 (0, 0))) := Lw.hid (d.set 6 (.slice adp p.length capp))
  have PV2 : Hid (RdB (w11.setCell ⟨bf, 6, none⟩ (.slice adp p.length capp)) (.slice adp p.length capp) p ∧ ∀ k, blk (.slice adp p.length capp) k → bf < k) := Lw.hid ⟨RdB.of_own (own_setCell op (fun e => absurd (PV.out.2 _ e) (Nat.lt_irrefl _)) _) rfl, PV.out.2⟩
  clear d op k11 bp hbf PV HRD D8
  go_wp2_with fail
  clear c ff
  generalize w11.setCell ⟨bf, 6, none⟩ (.slice adp p.length capp) = w12 at *
  refine (reight_as _ br _ r7 r8 tag D9.out.rd H8.out).mono ?_
  rintro e1 w13 ⟨rfl, hp⟩
  have PV3 : Hid (RdB w13 (.slice adp p.length capp) p ∧ ∀ k, blk (.slice adp p.length capp) k → bf < k) := Lw.hid ⟨by obtain ⟨_, _, hk, _⟩ := hp; exact PV2.out.1.kept hk (fun k hk' e => by have := PV2.out.2 k hk'; have := D9.out.n2; omega), PV2.out.2⟩
  obtain ⟨v8, d⟩ := D9.out.step hp
  have D10 := Lw.hid d
  clear d hp D9 PV2
  go_wp2_with fail
  refine (rfour_as _ br _ r8 r9 sum D10.out.rd H9.out).mono ?_
  rintro e1 w14 ⟨rfl, hp⟩
  have PV4 : Hid (RdB w14 (.slice adp p.length capp) p ∧ ∀ k, blk (.slice adp p.length capp) k → bf < k) := Lw.hid ⟨by obtain ⟨_, _, hk, _⟩ := hp; exact PV3.out.1.kept hk (fun k hk' e => by have := PV3.out.2 k hk'; have := D10.out.n2; omega), PV3.out.2⟩
  obtain ⟨v9, d⟩ := D10.out.step hp
  have D11 := Lw.hid d
  clear d hp D10 PV3
  have HSH : Hid (r9 = ⟨r9.l, r9.short⟩) := Lw.hid rfl
  go_wp2_with fail
  refine (err_any _ br _ r9 D11.out.rd).mono ?_
  rintro e1 _ ⟨rfl, rfl⟩
  -- what a refusal leaves
  have refuse : ∀ (er : Nat), decF b = (zeroF, 0, er) → ∀ wz, wz.heap[w.heap.size]? = some (.cells #[.int .u8 (0 : Int), .int .u32 (0 : Int), .int .u32 (0 : Int), .int .u32 (0 : Int), .int .u32 (0 : Int), .int .u32 (0 : Int), .slice none 0 0] 46 (0, 0)) → Kept (fun _ => False) w wz → (∃ ad cap, Ending.returned (.tuple #[.agg #[.int .u8 0, .int .u32 0, .int .u32 0, .int .u32 0, .int .u32 0, .int .u32 0, .slice none 0 0], .int .u64 0, .int .i64 (er : Int)]) = .returned (.tuple #[(decF b).1.val (.slice ad (decF b).1.p.length cap), .int .u64 ((decF b).2.1 : Int), .int .i64 ((decF b).2.2 : Int)]) ∧ RdB wz (.slice ad (decF b).1.p.length cap) (decF b).1.p ∧ Kept (fun _ => False) w wz ∧ ∀ k, blk (.slice ad (decF b).1.p.length cap) k → w.heap.size ≤ k) := fun er he wz _ hk => by
    rw [he]
    exact ⟨none, 0, rfl, RdB.nil _, hk, fun k hk => (blk_none hk).elim⟩
  have REF := Lw.hid refuse
  clear refuse
  have hres := D11.out.res
  have c0 := heap_cell hres 0
  have cf0 := heap_free hres 0
  have c1 := heap_cell hres 1
  have cf1 := heap_free hres 1
  have c2 := heap_cell hres 2
  have cf2 := heap_free hres 2
  have c3 := heap_cell hres 3
  have cf3 := heap_free hres 3
  have c4 := heap_cell hres 4
  have cf4 := heap_free hres 4
  have c5 := heap_cell hres 5
  have cf5 := heap_free hres 5
  have c6 := heap_cell hres 6
  have cf6 := heap_free hres 6

  have hset : ∀ (G : World → Prop), (∀ wz, wz.heap[w.heap.size]? = some (.cells #[.int .u8 (0 : Int), .int .u32 (0 : Int), .int .u32 (0 : Int), .int .u32 (0 : Int), .int .u32 (0 : Int), .int .u32 (0 : Int), .slice none 0 0] 46 (0, 0)) → Kept (fun _ => False) w wz → G wz) → G (((((((w14.setCell ⟨w.heap.size, 0, none⟩ (.int .u8 0)).setCell ⟨w.heap.size, 1, none⟩ (.int .u32 0)).setCell ⟨w.heap.size, 2, none⟩ (.int .u32 0)).setCell ⟨w.heap.size, 3, none⟩ (.int .u32 0)).setCell ⟨w.heap.size, 4, none⟩ (.int .u32 0)).setCell ⟨w.heap.size, 5, none⟩ (.int .u32 0)).setCell ⟨w.heap.size, 6, none⟩ (.slice none 0 0)) := fun G h => h (fset w14 w.heap.size zeroF (.slice none 0 0)) (fset_same hres) (fset_kept D11.out.kept (fun h => by omega))
  have HSET := Lw.hid hset
  clear hset hres
  obtain ⟨short, hshort⟩ : ∃ sh, r9.short = sh := ⟨_, rfl⟩
  have HS9 := Lw.hid hshort
  rw [hshort]
  clear hshort
  cases short with
  | true =>
    have HQ : Hid (decF b = (zeroF, 0, 4)) := Lw.hid (by unfold decF; rw [HD.out]; simp [HS9.out])
    go_wp2_with fail
    refine HSET.out _ (fun wz hz hkz => ?_)
    have z0 := heap_cell hz 0; have z1 := heap_cell hz 1; have z2 := heap_cell hz 2; have z3 := heap_cell hz 3; have z4 := heap_cell hz 4; have z5 := heap_cell hz 5; have z6 := heap_cell hz 6
    exact bodyPost_ret (v := .tuple #[.agg #[.int .u8 0, .int .u32 0, .int .u32 0, .int .u32 0, .int .u32 0, .int .u32 0, .slice none 0 0], .int .u64 0, .int .i64 4]) (by simp [results, go_sem, z0, z1, z2, z3, z4, z5, z6]) rfl (REF.out 4 HQ.out wz hz hkz)
  | false =>
  go_wp2_with fail
  refine (left_any _ br _ r9 D11.out.rd).mono ?_
  rintro e1 _ ⟨rfl, rfl⟩
  by_cases hleft : r9.l.length = 0
  rotate_left
  · have HQ : Hid (decF b = (zeroF, 0, 5)) := Lw.hid (by unfold decF; rw [HD.out]; simp only [HS9.out]; rw [if_neg (by decide), if_pos (fun h => hleft (by rw [h]; rfl))])
    have hgt : decide ((0 : Int) < (r9.l.length : Int)) = true := by simp; omega
    have hgt2 : (0 : Int) < (r9.l.length : Int) := by omega
    go_wp2_with fail
    refine HSET.out _ (fun wz hz hkz => ?_)
    have z0 := heap_cell hz 0; have z1 := heap_cell hz 1; have z2 := heap_cell hz 2; have z3 := heap_cell hz 3; have z4 := heap_cell hz 4; have z5 := heap_cell hz 5; have z6 := heap_cell hz 6
    exact bodyPost_ret (v := .tuple #[.agg #[.int .u8 0, .int .u32 0, .int .u32 0, .int .u32 0, .int .u32 0, .int .u32 0, .slice none 0 0], .int .u64 0, .int .i64 5]) (by simp [results, go_sem, z0, z1, z2, z3, z4, z5, z6]) rfl (REF.out 5 HQ.out wz hz hkz)
  have HL9 : Hid (r9.l = []) := Lw.hid (List.eq_nil_of_length_eq_zero hleft)
  rw [hleft]
  clear hleft
  have hbl : b.length = 35 + p.length := by
    obtain ⟨s9, l9⟩ := num_ns H9.out HS9.out
    obtain ⟨s8, l8⟩ := num_ns H8.out s9
    obtain ⟨s7, l7⟩ := text_ns H7.out s8
    obtain ⟨s6, l6⟩ := num_ns H6.out s7
    obtain ⟨s5, l5⟩ := num_ns H5.out s6
    obtain ⟨s4, l4⟩ := num_ns H4.out s5
    obtain ⟨s3, l3⟩ := num_ns H3.out s4
    obtain ⟨s2, l2⟩ := num_ns H2.out s3
    obtain ⟨s1, l1⟩ := num_ns H1.out s2
    have l0 := congrArg List.length HL9.out
    simp only [List.length_nil] at l0 l1
    omega
  have hb4 : 4 ≤ b.length := by omega
  have HBL := Lw.hid hbl
  have hsum : sum < 4294967296 := by have := Rdr.num_lt r8 4; rw [H9.out] at this; exact this
  clear hbl
  have HS14 := Lw.hid (HS.out.kept D11.out.kept (fun _ _ h => h))
  go_wp2_with (refine wpList_slice_h rfl _ _ _ rfl EB (.slice ads b.length caps) b.length _ .i64 _ (b.length - 4) rfl rfl HS14.out (by omega) (by omega) ?_; intro adt ct hrt hbt; have HRT := Lw.hid (RdB.of_take (by omega) hrt); clear hrt hbt)
  refine (crc_any _ _ _ (rdb_cast' (by rw [List.length_take]; omega) HRT.out) (HT.out.below (Below.of_kept D11.out.kept))).mono ?_
  rintro e1 _ ⟨rfl, rfl⟩
  obtain ⟨cr, hcr⟩ : ∃ cr, crcN (b.take (b.length - 4)) = cr := ⟨_, rfl⟩
  have HCR := Lw.hid hcr
  have hcr2 : cr < 4294967296 := by rw [← hcr]; exact crcN_lt _
  rw [hcr]
  clear hcr
  by_cases hse : sum = cr
  rotate_left
  · have HQ : Hid (decF b = (zeroF, 0, 11)) := Lw.hid (by unfold decF; rw [HD.out]; simp only [HS9.out, HL9.out]; rw [if_neg (by decide), if_neg (by simp), if_pos (by rw [HCR.out]; exact hse)])
    have hne : ((sum : Int) != (cr : Int)) = true := by rw [bne_iff_ne]; omega
    clear hse
    go_wp2_with fail
    refine HSET.out _ (fun wz hz hkz => ?_)
    have z0 := heap_cell hz 0; have z1 := heap_cell hz 1; have z2 := heap_cell hz 2; have z3 := heap_cell hz 3; have z4 := heap_cell hz 4; have z5 := heap_cell hz 5; have z6 := heap_cell hz 6
    exact bodyPost_ret (v := .tuple #[.agg #[.int .u8 0, .int .u32 0, .int .u32 0, .int .u32 0, .int .u32 0, .int .u32 0, .slice none 0 0], .int .u64 0, .int .i64 11]) (by simp [results, go_sem, z0, z1, z2, z3, z4, z5, z6]) rfl (REF.out 11 HQ.out wz hz hkz)
  have HSE : Hid (sum = crcN (b.take (b.length - 4))) := Lw.hid (by rw [HCR.out]; exact hse)
  subst hse
  have d0 := heap_cell D11.out.fr 0
  have d1 := heap_cell D11.out.fr 1
  have d2 := heap_cell D11.out.fr 2
  have d3 := heap_cell D11.out.fr 3
  have d4 := heap_cell D11.out.fr 4
  have d5 := heap_cell D11.out.fr 5
  have d6 := heap_cell D11.out.fr 6
  go_wp2_with fail
  refine (may_any _ ⟨k, s, e, n, a, m, p⟩ adp capp (HM.out.kept D11.out.kept) _ rfl (by have := HPL.out; simp only; omega)).mono ?_
  rintro e1 w15 ⟨rfl, k15⟩
  clear d0 c0 cf0 d1 c1 cf1 d2 c2 cf2 d3 c3 cf3 d4 c4 cf4 d5 c5 cf5 d6 c6 cf6 HSET
  have D12 := Lw.hid (D11.out.ext k15)
  have PV5 : Hid (RdB w15 (.slice adp p.length capp) p ∧ ∀ k, blk (.slice adp p.length capp) k → bf < k) := Lw.hid ⟨PV4.out.1.kept k15 (fun _ _ h => h), PV4.out.2⟩
  clear D11 PV4 k15
  have hres := D12.out.res
  have c0 := heap_cell hres 0
  have cf0 := heap_free hres 0
  have c1 := heap_cell hres 1
  have cf1 := heap_free hres 1
  have c2 := heap_cell hres 2
  have cf2 := heap_free hres 2
  have c3 := heap_cell hres 3
  have cf3 := heap_free hres 3
  have c4 := heap_cell hres 4
  have cf4 := heap_free hres 4
  have c5 := heap_cell hres 5
  have cf5 := heap_free hres 5
  have c6 := heap_cell hres 6
  have cf6 := heap_free hres 6
  have d0 := heap_cell D12.out.fr 0
  have d1 := heap_cell D12.out.fr 1
  have d2 := heap_cell D12.out.fr 2
  have d3 := heap_cell D12.out.fr 3
  have d4 := heap_cell D12.out.fr 4
  have d5 := heap_cell D12.out.fr 5
  have d6 := heap_cell D12.out.fr 6
  have hneb : bf ≠ w.heap.size := by have := D12.out.n1; have := D12.out.n2; omega
  obtain ⟨my, hmy⟩ : ∃ my, (⟨k, s, e, n, a, m, p⟩ : Frm).may = my := ⟨_, rfl⟩
  have HMY := Lw.hid hmy
  rw [hmy]
  clear hmy
  have HRES := Lw.hid hres
  clear hres
  cases my with
  | false =>
    have hset : ∀ (G : World → Prop), (∀ wz, wz.heap[w.heap.size]? = some (.cells #[.int .u8 (0 : Int), .int .u32 (0 : Int), .int .u32 (0 : Int), .int .u32 (0 : Int), .int .u32 (0 : Int), .int .u32 (0 : Int), .slice none 0 0] 46 (0, 0)) → Kept (fun _ => False) w wz → G wz) → G (((((((w15.setCell ⟨w.heap.size, 0, none⟩ (.int .u8 0)).setCell ⟨w.heap.size, 1, none⟩ (.int .u32 0)).setCell ⟨w.heap.size, 2, none⟩ (.int .u32 0)).setCell ⟨w.heap.size, 3, none⟩ (.int .u32 0)).setCell ⟨w.heap.size, 4, none⟩ (.int .u32 0)).setCell ⟨w.heap.size, 5, none⟩ (.int .u32 0)).setCell ⟨w.heap.size, 6, none⟩ (.slice none 0 0)) := fun G h => h (fset w15 w.heap.size zeroF (.slice none 0 0)) (fset_same HRES.out) (fset_kept D12.out.kept (fun h => by omega))
    have HSET := Lw.hid hset
    clear hset
    have HQ : Hid (decF b = (zeroF, 0, 5)) := Lw.hid (by unfold decF; rw [HD.out]; simp only [HS9.out, HL9.out]; rw [if_neg (by decide), if_neg (by simp), if_neg (by simpa using HSE.out), if_pos HMY.out])
    go_wp2_with fail
    refine HSET.out _ (fun wz hz hkz => ?_)
    have z0 := heap_cell hz 0; have z1 := heap_cell hz 1; have z2 := heap_cell hz 2; have z3 := heap_cell hz 3; have z4 := heap_cell hz 4; have z5 := heap_cell hz 5; have z6 := heap_cell hz 6
    exact bodyPost_ret (v := .tuple #[.agg #[.int .u8 0, .int .u32 0, .int .u32 0, .int .u32 0, .int .u32 0, .int .u32 0, .slice none 0 0], .int .u64 0, .int .i64 5]) (by simp [results, go_sem, z0, z1, z2, z3, z4, z5, z6]) rfl (REF.out 5 HQ.out wz hz hkz)
  | true =>
    have hset : ∀ (G : World → Prop), (∀ wz, wz.heap[w.heap.size]? = some (.cells #[.int .u8 (k : Int), .int .u32 (s : Int), .int .u32 (e : Int), .int .u32 (n : Int), .int .u32 (a : Int), .int .u32 (m : Int), .slice adp p.length capp] 46 (0, 0)) → Kept (fun _ => False) w wz → RdB wz (.slice adp p.length capp) p → G wz) → G (((((((w15.setCell ⟨w.heap.size, 0, none⟩ (.int .u8 (k : Int))).setCell ⟨w.heap.size, 1, none⟩ (.int .u32 (s : Int))).setCell ⟨w.heap.size, 2, none⟩ (.int .u32 (e : Int))).setCell ⟨w.heap.size, 3, none⟩ (.int .u32 (n : Int))).setCell ⟨w.heap.size, 4, none⟩ (.int .u32 (a : Int))).setCell ⟨w.heap.size, 5, none⟩ (.int .u32 (m : Int))).setCell ⟨w.heap.size, 6, none⟩ (.slice adp p.length capp)) := fun G h => h (fset w15 w.heap.size ⟨k, s, e, n, a, m, p⟩ (.slice adp p.length capp)) (fset_same HRES.out) (fset_kept D12.out.kept (fun h => by omega)) (PV5.out.1.kept (fset_kept (S := fun k => k = w.heap.size) (Kept.refl _ w15) (fun _ => rfl)) (fun k hk e => by have := PV5.out.2 k hk; have := D12.out.n1; have := D12.out.n2; omega))
    have HSET := Lw.hid hset
    clear hset
    have HQ : Hid (decF b = (⟨k, s, e, n, a, m, p⟩, tag, 0)) := Lw.hid (by unfold decF; rw [HD.out]; simp only [HS9.out, HL9.out]; rw [if_neg (by decide), if_neg (by simp), if_neg (by simpa using HSE.out), if_neg (by rw [HMY.out]; decide)])
    go_wp2_with fail
    refine HSET.out _ (fun wz hz hkz hpz => ?_)
    have z0 := heap_cell hz 0; have z1 := heap_cell hz 1; have z2 := heap_cell hz 2; have z3 := heap_cell hz 3; have z4 := heap_cell hz 4; have z5 := heap_cell hz 5; have z6 := heap_cell hz 6
    refine bodyPost_ret (v := .tuple #[.agg #[.int .u8 (k : Int), .int .u32 (s : Int), .int .u32 (e : Int), .int .u32 (n : Int), .int .u32 (a : Int), .int .u32 (m : Int), .slice adp p.length capp], .int .u64 (tag : Int), .int .i64 0]) (by simp [results, go_sem, z0, z1, z2, z3, z4, z5, z6]) rfl ?_
    rw [HQ.out]
    exact ⟨adp, capp, rfl, hpz, hkz, fun k hk => by have := PV5.out.2 k hk; have := D12.out.n1; have := D12.out.n2; omega⟩
end Go.Proofs.YtcmipliglcakdaaDoor
