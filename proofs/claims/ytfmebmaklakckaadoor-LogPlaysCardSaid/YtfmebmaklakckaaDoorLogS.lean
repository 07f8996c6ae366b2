/- A log and its disk, in memory of one's own: what each call leaves. -/
import Derived.Test.YtfmebmaklakckaaDoorLogQ
namespace Go.Proofs.YtfmebmaklakckaaDoor
open Go Go.RowKit Go.Lw
set_option maxRecDepth 100000
set_option linter.unusedVariables false
/-- A disk that has been called at most n times. -/
structure Okn (n : Nat) (D : Dsk) : Prop where
  len : D.b.length ≤ D.cap
  cap : D.cap ≤ 1048576
  puts : D.puts ≤ n
  lo : -(n : Int) ≤ D.np
  hi : D.np ≤ 9223372036854775807
  plan : D.is = true → 0 ≤ D.np ∧ 0 ≤ D.nb
  nb : -1 < D.nb ∧ D.nb ≤ 9223372036854775807
theorem Okn.ok {n : Nat} {D : Dsk} (h : Okn n D) (hn : n ≤ 1000000) : D.ok :=
  ⟨h.len, h.cap, by have := h.puts; omega, by have := h.lo; omega, h.hi, h.plan, h.nb⟩
theorem Okn.mono {n m : Nat} {D : Dsk} (h : Okn n D) (hn : n ≤ m) : Okn m D :=
  ⟨h.len, h.cap, by have := h.puts; omega, by have := h.lo; omega, h.hi, h.plan, h.nb⟩
theorem Okn.put {n : Nat} {D : Dsk} (h : Okn n D) (a : Int) (l : List UInt8) : Okn (n + 1) (D.put a l).1 := by
  have h1 := h.len; have h2 := h.puts; have h3 := h.lo; have h4 := h.hi; have h5 := h.plan; have h6 := h.nb
  unfold Dsk.put
  split
  · exact h.mono (Nat.le_succ _)
  split
  · exact h.mono (Nat.le_succ _)
  split
  · exact h.mono (Nat.le_succ _)
  rename_i e1 e2 e3
  obtain ⟨k, rfl⟩ : ∃ k : Nat, a = (k : Int) := ⟨a.toNat, by omega⟩
  simp only [Int.toNat_natCast] at *
  split
  · refine ⟨?_, h.cap, (by show D.puts ≤ n + 1; omega), by show -((n + 1 : Nat) : Int) ≤ 0; omega, (by decide : (0 : Int) ≤ 9223372036854775807), (fun h => by cases h), (by decide : (-1 : Int) < 0 ∧ (0 : Int) ≤ 9223372036854775807)⟩
    show (lay D.b k _).length ≤ D.cap
    rw [lay_len (by omega), List.length_take]; omega
  · rename_i e4
    refine ⟨?_, h.cap, by show D.puts + 1 ≤ n + 1; omega, by show -((n + 1 : Nat) : Int) ≤ D.np - 1; omega, by show D.np - 1 ≤ 9223372036854775807; omega, fun hi => ?_, h6⟩
    · show (lay D.b k l).length ≤ D.cap
      rw [lay_len (by omega)]; omega
    · have := h5 hi
      refine ⟨?_, this.2⟩
      show 0 ≤ D.np - 1
      have : D.np ≠ 0 := fun hz => e4 ⟨hi, hz⟩
      omega
theorem Okn.planned {n : Nat} {D : Dsk} (h : Okn n D) (p q : Int) (hp : p ≤ 9223372036854775807) (hq : q ≤ 9223372036854775807) : Okn n (D.plan p q).1 := by
  unfold Dsk.plan
  split
  · exact h
  split
  · exact h
  · rename_i e1 e2
    exact ⟨h.len, h.cap, h.puts, by show -(n : Int) ≤ p; omega, hp, fun _ => by show 0 ≤ p ∧ 0 ≤ q; omega, by show -1 < q ∧ q ≤ 9223372036854775807; omega⟩
theorem Okn.revived {n : Nat} {D : Dsk} (h : Okn n D) : Okn n D.revive.1 := by
  unfold Dsk.revive
  split
  · exact ⟨h.len, h.cap, h.puts, h.lo, h.hi, h.plan, h.nb⟩
  · exact h
theorem Okn.recd {n : Nat} {D : Dsk} (h : Okn n D) : Okn (n + 1) (recF D).1 := by
  unfold recF
  split
  · exact h.mono (Nat.le_succ _)
  split
  · exact h.put _ _
  · exact h.mono (Nat.le_succ _)
theorem Okn.app {n : Nat} {D : Dsk} (h : Okn n D) (s : Fd) (p : List UInt8) : Okn (n + 1) (appF D s p).1 := by
  unfold appF
  split
  · exact h.mono (Nat.le_succ _)
  split
  · exact h.put _ _
  · exact h.put _ _
theorem Okn.new {cap : Nat} (h : cap ≤ 1048576) : Okn 0 ⟨cap, [], 0, false, false, 0, 0⟩ :=
  ⟨Nat.zero_le _, h, Nat.le_refl _, (by decide : -((0 : Nat) : Int) ≤ 0), (by decide : (0 : Int) ≤ 9223372036854775807), (fun h => by cases h), (by decide : (-1 : Int) < 0 ∧ (0 : Int) ≤ 9223372036854775807)⟩
/-- A disk in memory of one's own. -/
structure DsW (w0 w : World) (g : Nat) (v : Value) (D : Dsk) (n : Nat) : Prop where
  d : DiskAt w g v D
  lo : w0.heap.size ≤ g
  lv : ∀ k, blk v k → w0.heap.size ≤ k
  k : Kept (fun _ => False) w0 w
  ok : Okn n D
  t : Tab w0
/-- A log's own block. -/
structure Bx (w0 w : World) (g : Nat) (v : Value) (BL : Nat) (s : Fd) : Prop where
  box : w.heap[BL]? = some (logB g s)
  ne : BL ≠ g
  ap : ¬ blk v BL
  lo : w0.heap.size ≤ BL
theorem DsW.log {w0 w : World} {g : Nat} {v : Value} {D : Dsk} {n BL : Nat} {s : Fd} (h : DsW w0 w g v D n) (b : Bx w0 w g v BL s) : LogAt w BL g v D s := ⟨b.box, h.d, b.ne, b.ap⟩
theorem DsW.tab {w0 w : World} {g : Nat} {v : Value} {D : Dsk} {n : Nat} (h : DsW w0 w g v D n) : Tab w := h.t.below (h.k.below (Nat.le_refl _) (fun _ _ h => h))
theorem DsW.keptF {w0 w w' : World} {g : Nat} {v : Value} {D : Dsk} {n : Nat} (h : DsW w0 w g v D n) (k : Kept (fun _ => False) w w') : DsW w0 w' g v D n :=
  ⟨h.d.kept k (fun h => h) (fun _ _ h => h), h.lo, h.lv, h.k.trans k (fun _ _ h => h), h.ok, h.t⟩
theorem Bx.keptF {w0 w w' : World} {g : Nat} {v : Value} {BL : Nat} {s : Fd} (h : Bx w0 w g v BL s) (k : Kept (fun _ => False) w w') : Bx w0 w' g v BL s :=
  ⟨k.heap h.box (fun h => h), h.ne, h.ap, h.lo⟩
/-- Blocks of one's own that are no disk's. -/
theorem DsW.kept {w0 w w' : World} {g : Nat} {v : Value} {D : Dsk} {n : Nat} {S : Nat → Prop} (h : DsW w0 w g v D n) (k : Kept S w w') (h1 : ¬ S g) (h2 : ∀ b, blk v b → ¬ S b) (h3 : ∀ b, S b → w0.heap.size ≤ b) : DsW w0 w' g v D n :=
  ⟨h.d.kept k h1 h2, h.lo, h.lv, h.k.trans k (fun i hi hs => by have := h3 i hs; omega), h.ok, h.t⟩
theorem DsW.start {w0 w : World} {g cap : Nat} (d : DiskAt w g (.slice none 0 0) ⟨cap, [], 0, false, false, 0, 0⟩) (k : Kept (fun _ => False) w0 w) (hg : w0.heap.size ≤ g) (hc : cap ≤ 1048576) (t : Tab w0) : DsW w0 w g (.slice none 0 0) ⟨cap, [], 0, false, false, 0, 0⟩ 0 :=
  ⟨d, hg, fun k hk => (blk_none hk).elim, k, .new hc, t⟩
theorem DsW.post {w0 w w' : World} {g : Nat} {v : Value} {D D' : Dsk} {n n' : Nat} (h : DsW w0 w g v D n) (hp : DPost w w' g v D') (ok : Okn n' D') :
    ∃ v', DsW w0 w' g v' D' n' ∧ (∀ BL s, Bx w0 w g v BL s → Bx w0 w' g v' BL s) ∧ Kept (fun k => k = g ∨ blk v k) w w' ∧ ∀ k, blk v' k → blk v k ∨ w.heap.size ≤ k := by
  obtain ⟨v', d, k, f⟩ := hp
  have hs := h.k.size
  refine ⟨v', ⟨d, h.lo, fun i hi => ?_, h.k.trans k (fun i hi e => ?_), ok, h.t⟩, fun BL s b => ?_, k, f⟩
  · rcases f i hi with e | e
    · exact h.lv i e
    · omega
  · rcases e with e | e
    · have := h.lo; omega
    · have := h.lv i e; omega
  · have hb := heap_lt b.box
    refine ⟨k.heap b.box (fun e => e.elim b.ne b.ap), b.ne, fun e => ?_, b.lo⟩
    rcases f _ e with e | e
    · exact b.ap e
    · omega
theorem DsW.recovered {w0 w w' : World} {g : Nat} {v : Value} {D : Dsk} {n : Nat} {e : Ending} (h : DsW w0 w g v D n) (hp : RcPost w g v D e w') :
    ∃ v', DsW w0 w' g v' (recF D).1 (n + 1) ∧ (∀ BL s, Bx w0 w g v BL s → Bx w0 w' g v' BL s) ∧
      (((recF D).2 ≠ 0 ∧ e = .returned (.tuple #[.pointer none, .int .i64 ((recF D).2 : Int)])) ∨ ((recF D).2 = 0 ∧ ∃ BL, e = .returned (.tuple #[.pointer (some ⟨BL, 0, none⟩), .int .i64 0]) ∧ Bx w0 w' g v' BL (lastF D.b) ∧ w.heap.size ≤ BL)) ∧ Kept (fun k => k = g ∨ blk v k) w w' ∧ ∀ k, blk v' k → blk v k ∨ w.heap.size ≤ k := by
  obtain ⟨v', d, k, f, hr⟩ := hp
  have hs := h.k.size
  have hgl := heap_lt h.d.box
  refine ⟨v', ⟨d, h.lo, fun i hi => ?_, h.k.trans k (fun i hi e => ?_), h.ok.recd, h.t⟩, fun BL s b => ?_, ?_, k, f⟩
  · rcases f i hi with e | e
    · exact h.lv i e
    · omega
  · rcases e with e | e
    · have := h.lo; omega
    · have := h.lv i e; omega
  · have hb := heap_lt b.box
    refine ⟨k.heap b.box (fun e => e.elim b.ne b.ap), b.ne, fun e => ?_, b.lo⟩
    rcases f _ e with e | e
    · exact b.ap e
    · omega
  · rcases hr with hr | ⟨h1, BL, h2, h3, h4, h5⟩
    · exact .inl hr
    · exact .inr ⟨h1, BL, h2, ⟨h3, by omega, h5, by omega⟩, h4⟩
theorem DsW.appended {w0 w w' : World} {g : Nat} {v : Value} {D : Dsk} {n BL : Nat} {s : Fd} {p : List UInt8} {e : Ending} (h : DsW w0 w g v D n) (b : Bx w0 w g v BL s) (hp : ApPost w BL g v D s p e w') :
    e = .returned (.tuple #[.int .u32 ((appF D s p).2.2.1 : Int), .int .i64 ((appF D s p).2.2.2 : Int)]) ∧ ∃ v', DsW w0 w' g v' (appF D s p).1 (n + 1) ∧ Bx w0 w' g v' BL (appF D s p).2.1 ∧ (∀ BL' s', BL' ≠ BL → Bx w0 w g v BL' s' → Bx w0 w' g v' BL' s') ∧ Kept (fun k => k = BL ∨ k = g ∨ blk v k) w w' ∧ ∀ k, blk v' k → blk v k ∨ w.heap.size ≤ k := by
  obtain ⟨he, v', l, k, f⟩ := hp
  have hs := h.k.size
  refine ⟨he, v', ⟨l.d, h.lo, fun i hi => ?_, h.k.trans k (fun i hi e => ?_), h.ok.app s p, h.t⟩, ⟨l.box, l.ne, l.ap, b.lo⟩, fun BL' s' hne b' => ?_, k, f⟩
  · rcases f i hi with e | e
    · exact h.lv i e
    · omega
  · rcases e with e | e | e
    · have := b.lo; omega
    · have := h.lo; omega
    · have := h.lv i e; omega
  · have hb := heap_lt b'.box
    refine ⟨k.heap b'.box (fun e => by rcases e with e | e | e; exact hne e; exact b'.ne e; exact b'.ap e), b'.ne, fun e => ?_, b'.lo⟩
    rcases f _ e with e | e
    · exact b'.ap e
    · omega
theorem app_w {w0 w : World} {g : Nat} {v : Value} {D : Dsk} {n BL : Nat} {s : Fd} (h : DsW w0 w g v D n) (hn : n ≤ 1000000) (b : Bx w0 w g v BL s) (hs : s.fin ≤ 1048576) (hsum : s.sum < 4294967296) (src : Value) (p : List UInt8) (hp : RdB w src p) :
    Calls Tryd.prog 7 #[.pointer (some ⟨BL, 0, none⟩), src] w fun e w' => e = .returned (.tuple #[.int .u32 ((appF D s p).2.2.1 : Int), .int .i64 ((appF D s p).2.2.2 : Int)]) ∧ ∃ v', DsW w0 w' g v' (appF D s p).1 (n + 1) ∧ Bx w0 w' g v' BL (appF D s p).2.1 ∧ (∀ BL' s', BL' ≠ BL → Bx w0 w g v BL' s' → Bx w0 w' g v' BL' s') ∧ Kept (fun k => k = BL ∨ k = g ∨ blk v k) w w' ∧ ∀ k, blk v' k → blk v k ∨ w.heap.size ≤ k :=
  (append_any w BL g v D s (h.log b) (h.ok.ok hn) h.tab hs hsum src p hp).mono fun e w' hp => h.appended b hp
theorem rec_w {w0 w : World} {g : Nat} {v : Value} {D : Dsk} {n : Nat} (h : DsW w0 w g v D n) (hn : n ≤ 1000000) :
    Calls Tryd.prog 8 #[.pointer (some ⟨g, 0, none⟩)] w fun e w' => ∃ v', DsW w0 w' g v' (recF D).1 (n + 1) ∧ (∀ BL s, Bx w0 w g v BL s → Bx w0 w' g v' BL s) ∧
      (((recF D).2 ≠ 0 ∧ e = .returned (.tuple #[.pointer none, .int .i64 ((recF D).2 : Int)])) ∨ ((recF D).2 = 0 ∧ ∃ BL, e = .returned (.tuple #[.pointer (some ⟨BL, 0, none⟩), .int .i64 0]) ∧ Bx w0 w' g v' BL (lastF D.b) ∧ w.heap.size ≤ BL)) ∧ Kept (fun k => k = g ∨ blk v k) w w' ∧ ∀ k, blk v' k → blk v k ∨ w.heap.size ≤ k :=
  (recover_any w g v D h.d (h.ok.ok hn) h.tab).mono fun e w' hp => h.recovered hp
/-- Recover, where it is known to be well. -/
theorem rec_ok {w0 w : World} {g : Nat} {v : Value} {D D1 : Dsk} {n : Nat} {s : Fd} (h : DsW w0 w g v D n) (hn : n ≤ 1000000) (hr : recF D = (D1, 0)) (hl : lastF D.b = s) :
    Calls Tryd.prog 8 #[.pointer (some ⟨g, 0, none⟩)] w fun e w' => ∃ v' BL, e = .returned (.tuple #[.pointer (some ⟨BL, 0, none⟩), .int .i64 0]) ∧ DsW w0 w' g v' D1 (n + 1) ∧ (∀ BL s, Bx w0 w g v BL s → Bx w0 w' g v' BL s) ∧ Bx w0 w' g v' BL s ∧ w.heap.size ≤ BL ∧ Kept (fun k => k = g ∨ blk v k) w w' ∧ ∀ k, blk v' k → blk v k ∨ w.heap.size ≤ k :=
  (rec_w h hn).mono fun e w' hp => by
    obtain ⟨v', h1, h2, h3, h9⟩ := hp
    rw [hr] at h1 h3
    rcases h3 with ⟨h3, _⟩ | ⟨_, BL, h3, h4, h5⟩
    · exact absurd rfl h3
    · exact ⟨v', BL, h3, h1, h2, hl ▸ h4, h5, h9⟩
/-- .. and where it is not. -/
theorem rec_no {w0 w : World} {g : Nat} {v : Value} {D D1 : Dsk} {n er : Nat} (h : DsW w0 w g v D n) (hn : n ≤ 1000000) (hr : recF D = (D1, er)) (he : er ≠ 0) :
    Calls Tryd.prog 8 #[.pointer (some ⟨g, 0, none⟩)] w fun e w' => ∃ v', e = .returned (.tuple #[.pointer none, .int .i64 (er : Int)]) ∧ DsW w0 w' g v' D1 (n + 1) ∧ (∀ BL s, Bx w0 w g v BL s → Bx w0 w' g v' BL s) ∧ Kept (fun k => k = g ∨ blk v k) w w' ∧ ∀ k, blk v' k → blk v k ∨ w.heap.size ≤ k :=
  (rec_w h hn).mono fun e w' hp => by
    obtain ⟨v', h1, h2, h3, h9⟩ := hp
    rw [hr] at h1 h3
    rcases h3 with ⟨_, h3⟩ | ⟨h3, _⟩
    · exact ⟨v', h3, h1, h2, h9⟩
    · exact absurd h3 he
theorem plan_w {w0 w : World} {g : Nat} {v : Value} {D : Dsk} {n : Nat} (h : DsW w0 w g v D n) (p q : Int) (hp : -9223372036854775808 ≤ p ∧ p ≤ 9223372036854775807) (hq : -9223372036854775808 ≤ q ∧ q ≤ 9223372036854775807) :
    Calls Tryd.prog 15 #[.pointer (some ⟨g, 0, none⟩), .int .i64 p, .int .i64 q] w fun e w' => e = .returned (.int .i64 ((D.plan p q).2 : Int)) ∧ ∃ v', DsW w0 w' g v' (D.plan p q).1 n ∧ (∀ BL s, Bx w0 w g v BL s → Bx w0 w' g v' BL s) ∧ Kept (fun k => k = g ∨ blk v k) w w' ∧ ∀ k, blk v' k → blk v k ∨ w.heap.size ≤ k :=
  (dplan_any w g v D h.d p q).mono fun e w' hpp => ⟨hpp.1, h.post hpp.2 (h.ok.planned p q hp.2 hq.2)⟩
theorem rev_w {w0 w : World} {g : Nat} {v : Value} {D : Dsk} {n : Nat} (h : DsW w0 w g v D n) :
    Calls Tryd.prog 16 #[.pointer (some ⟨g, 0, none⟩)] w fun e w' => e = .returned (.int .i64 (D.revive.2 : Int)) ∧ ∃ v', DsW w0 w' g v' D.revive.1 n ∧ (∀ BL s, Bx w0 w g v BL s → Bx w0 w' g v' BL s) ∧ Kept (fun k => k = g ∨ blk v k) w w' ∧ ∀ k, blk v' k → blk v k ∨ w.heap.size ≤ k :=
  (drevive_any w g v D h.d).mono fun e w' hpp => ⟨hpp.1, h.post hpp.2 h.ok.revived⟩
theorem rows_w {w0 w : World} {g : Nat} {v : Value} {D : Dsk} {n BL : Nat} {s : Fd} {L : List (List UInt8)} (h : DsW w0 w g v D n) (b : Bx w0 w g v BL s) (hs : s.fin ≤ 1048576) (hL : logP D s = L) :
    Calls Tryd.prog 11 #[.pointer (some ⟨BL, 0, none⟩)] w (RwPost w L) := by
  subst hL
  exact rows_any w BL g v D s (h.log b) h.tab (Nat.le_trans h.ok.len h.ok.cap) hs
end Go.Proofs.YtfmebmaklakckaaDoor
