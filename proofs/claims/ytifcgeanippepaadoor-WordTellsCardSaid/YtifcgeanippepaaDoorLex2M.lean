/- package lex: Lex. -/
import Derived.Test.YtifcgeanippepaaDoorM07
namespace Go.Proofs.YtifcgeanippepaaDoor
open Go Go.RowKit Go.Lw
set_option maxRecDepth 100000
set_option linter.unusedVariables false
set_option linter.unusedSimpArgs false
attribute [local go_sem] BA_toList
/-- What the package variables hold. -/
structure LEnv (w : World) : Prop where
  ops : Opers w
  max : ∃ m, w.cell? ⟨2, 0, none⟩ = some (.int .i64 m)
theorem LEnv.kept {w w' : World} (h : LEnv w) (k : Kept (fun _ => False) w w') : LEnv w' :=
  ⟨h.ops.kept k (fun h => h), by obtain ⟨m, hm⟩ := h.max; exact ⟨m, k.cell hm (fun h => h)⟩⟩
theorem ETk : ElemT Tryd.prog 22 28 3 32 := ElemT.of (z := .agg #[.int .i64 0, .string ⟨#[]⟩, .int .i64 0]) Tryd.underlying22 (by kernel_rfl) rfl (by decide)
theorem tk_one (t : Tk) : ∀ u ∈ t.cells, u.oneCell' = true := by
  intro u hu
  simp only [Tk.cells, List.mem_cons, List.not_mem_nil, or_false] at hu
  rcases hu with rfl | rfl | rfl <;> rfl
/-- The tokens that are out. -/
def TOut (w wx : World) (g : Nat) (v : Value) (acc : List Tk) : Prop := wx.ownsRow 0 28 3 v acc.length (acc.flatMap Tk.cells) ∧ ∀ k, blk v k → w.heap.size ≤ k ∧ k ≠ g
theorem TOut.kept {w wx wy : World} {g : Nat} {v : Value} {acc : List Tk} (h : TOut w wx g v acc) (k : K1 g wx wy) : TOut w wy g v acc :=
  ⟨own_kept k h.1 (fun b hb e => (h.2 b hb).2 e), h.2⟩
theorem TOut.kept0 {w wx wy : World} {g : Nat} {v : Value} {acc : List Tk} (h : TOut w wx g v acc) (k : Kept (fun _ => False) wx wy) : TOut w wy g v acc :=
  ⟨own_kept k h.1 (fun b hb e => e), h.2⟩
theorem TOut.add {w wx w9 : World} {g : Nat} {v : Value} {acc : List Tk} (h : TOut w wx g v acc) (hk : Kept (fun _ => False) w wx) {s : List UInt8} {a d e : Nat} (hsc : ScAt wx g s a d e) {ob : Obj} {v' : Value} {t : Tk}
    (ho : w9.ownsRow 0 28 3 v' (acc.length + 1) (acc.flatMap Tk.cells ++ t.cells)) (hg : (wx.alloc ob).grownBy w9 v.ownBlock) (hf : Fresh (wx.alloc ob) v v') :
    TOut w w9 g v' (acc ++ [t]) ∧ Kept (fun _ => False) w w9 ∧ ScAt w9 g s a d e := by
  have hgl := hsc.lt
  have hsz := hk.size
  refine ⟨⟨by rw [List.length_append, List.flatMap_append]; simpa using ho, fun k hb => ?_⟩, ?_, ?_⟩
  · rcases hf k hb with h' | h'
    · exact h.2 k h'
    · rw [World.size_alloc] at h'
      exact ⟨by omega, by omega⟩
  · exact (hk.alloc ob).grown hg (fun k hb hl => by have := (h.2 k hb).1; omega)
  · have h1 : (wx.alloc ob).heap[g]? = wx.heap[g]? := Below.heap_alloc _ _ _ hgl
    exact grown_heap hg (h1.trans hsc) (fun e => (h.2 g e).2 rfl)
/-- Where Lex stands. -/
def LxRel (w : World) (g : Nat) (s : List UInt8) (N : Nat) (R0 : Except Nat (List Tk)) (gk : Nat) (v : Value) (wx : World) : Prop :=
  ∃ (a m : Nat) (r : List UInt8) (acc : List Tk), gk = r.length ∧ r.length < m ∧ a + r.length = N ∧ s.drop a = r ∧ ScAt wx g s a 0 0 ∧ TOut w wx g v acc ∧ (lexF m N r).map (acc ++ ·) = R0 ∧ Kept (fun _ => False) w wx ∧ acc.length ≤ a
/-- Where a word stands. -/
def WdRel (w0 : World) (g : Nat) (s : List UInt8) (N : Nat) (R0 : Rs) (gk : Nat) (wx : World) : Prop :=
  (∃ (a m : Nat) (r : List UInt8), gk = N - a + 1 ∧ a + r.length = N ∧ s.drop a = r ∧ ScAt wx g s a 0 0 ∧ r.length < m ∧ wordF m r = R0 ∧ K1 g w0 wx) ∨
  (∃ e, gk = 0 ∧ ScBad wx g s 0 e ∧ R0 = .error e ∧ K1 g w0 wx)
theorem k1_keep {w wx wy : World} {g : Nat} (h : Kept (fun _ => False) w wx) (hg : w.heap.size ≤ g) (k : K1 g wx wy) : Kept (fun _ => False) w wy := h.trans k (fun i hi e => by omega)
def blankL : List UInt8 := [32, 9]
theorem blankL_has (c : UInt8) : blankL.contains c = true ↔ c = 32 ∨ c = 9 := by simp [blankL]
def endL : List UInt8 := [32, 9, 10, 59, 38, 124, 60, 62]
theorem endL_has (c : UInt8) : endL.contains c = endB c := by
  rw [Bool.eq_iff_iff]
  simp [endL, endB, or_assoc]
theorem cut_any (r : List UInt8) (w : World) (hE : LEnv w) (hr : r.length ≤ 1000000) : Calls Tryd.prog 44 #[.string (BA r), .string ⟨#[10]⟩] w fun e w' => ∃ y z, e = .returned (.tuple #[.string (BA (r.takeWhile (· != 10))), .string y, .bool z]) ∧ ∃ n, w' = w.drewN n := by
  obtain ⟨m, hm⟩ := hE.max
  refine (Tryd.strings_Cut (BA r) ⟨#[10]⟩ m w (by rw [BA_size]; omega) hm).mono ?_
  rintro e w' ⟨rfl, hw⟩
  rw [BA_list, show (⟨#[10]⟩ : ByteArray).data.toList = [10] from rfl, cut10]
  exact ⟨⟨(Lib.cut r [10]).2.1.toArray⟩, (Lib.cut r [10]).2.2, rfl, hw⟩
theorem map_map_ok {l : List Tk} {t : Tk} {x : Except Nat (List Tk)} : (x.map (t :: ·)).map (l ++ ·) = x.map ((l ++ [t]) ++ ·) := by
  cases x with
  | error e => rfl
  | ok y => show Except.ok _ = Except.ok _; simp
/-- How Lex answers. -/
def LexPost (w : World) (s : List UInt8) (x : Ending) (w' : World) : Prop := match lexT s with
  | .error e => x = .returned (.tuple #[.slice none 0 0, .int .i64 (e : Int)])
  | .ok l => ∃ v, x = .returned (.tuple #[v, .int .i64 0]) ∧ w'.ownsRow 0 28 3 v l.length (l.flatMap Tk.cells) ∧ (∀ k, blk v k → w.heap.size ≤ k) ∧ l.length ≤ 2048
theorem lp_error {w w' : World} {s : List UInt8} {x : Ending} {e : Nat} (h : lexT s = .error e) (hx : x = .returned (.tuple #[.slice none 0 0, .int .i64 (e : Int)])) : LexPost w s x w' := by
  unfold LexPost; rw [h]; exact hx
theorem lp_ok {w w' : World} {s : List UInt8} {x : Ending} {l : List Tk} {v : Value} (h : lexT s = .ok l) (hx : x = .returned (.tuple #[v, .int .i64 0])) (ho : w'.ownsRow 0 28 3 v l.length (l.flatMap Tk.cells)) (hb : ∀ k, blk v k → w.heap.size ≤ k) (hl : l.length ≤ 2048) : LexPost w s x w' := by
  unfold LexPost; rw [h]; exact ⟨v, hx, ho, hb, hl⟩
theorem word_step {c : UInt8} {r r' : List UInt8} {n : Nat} (h : endB c = false) (h1 : pieceR false 0 (c :: r) = .ok r') : wordF (n + 1) (c :: r) = wordF n r' := by
  conv => lhs; unfold wordF
  rw [h, h1]; rfl
theorem word_err {c : UInt8} {r : List UInt8} {n e : Nat} (h : endB c = false) (h1 : pieceR false 0 (c :: r) = .error e) : wordF (n + 1) (c :: r) = .error e := by
  conv => lhs; unfold wordF
  rw [h, h1]; rfl
theorem word_end {c : UInt8} {r : List UInt8} {n : Nat} (h : endB c = true) : wordF (n + 1) (c :: r) = .ok (c :: r) := by
  conv => lhs; unfold wordF
  rw [h]; rfl
theorem lex_blank {c : UInt8} {r : List UInt8} {m N : Nat} (h : c = 32 ∨ c = 9) : lexF (m + 1) N (c :: r) = lexF m N r := by
  conv => lhs; unfold lexF
  rw [if_pos h]
theorem lex_hash {c : UInt8} {r : List UInt8} {m N : Nat} (h : ¬ (c = 32 ∨ c = 9)) (h1 : c = 35) : lexF (m + 1) N (c :: r) = lexF m N ((c :: r).dropWhile (· != 10)) := by
  conv => lhs; unfold lexF
  rw [if_neg h, if_pos h1]
theorem lex_some {c : UInt8} {r : List UInt8} {m N k : Nat} {t : List UInt8} (h : ¬ (c = 32 ∨ c = 9)) (h1 : ¬ c = 35) (h2 : operF (c :: r) = some (k, t)) : lexF (m + 1) N (c :: r) = if k = 0 then .error 5 else (lexF m N ((c :: r).drop t.length)).map (⟨k, t, N - (r.length + 1)⟩ :: ·) := by
  conv => lhs; unfold lexF
  rw [if_neg h, if_neg h1, h2]
theorem lex_word {c : UInt8} {r r' : List UInt8} {m N : Nat} (h : ¬ (c = 32 ∨ c = 9)) (h1 : ¬ c = 35) (h2 : operF (c :: r) = none) (h3 : wordF (r.length + 2) (c :: r) = .ok r') : lexF (m + 1) N (c :: r) = (lexF m N r').map (⟨1, (c :: r).take (r.length + 1 - r'.length), N - (r.length + 1)⟩ :: ·) := by
  conv => lhs; unfold lexF
  rw [if_neg h, if_neg h1, h2]
  dsimp only
  rw [h3]
theorem lex_bad {c : UInt8} {r : List UInt8} {m N e : Nat} (h : ¬ (c = 32 ∨ c = 9)) (h1 : ¬ c = 35) (h2 : operF (c :: r) = none) (h3 : wordF (r.length + 2) (c :: r) = .error e) : lexF (m + 1) N (c :: r) = .error e := by
  conv => lhs; unfold lexF
  rw [if_neg h, if_neg h1, h2]
  dsimp only
  rw [h3]
set_option maxHeartbeats 400000000 in
theorem lex_any (w : World) (s : List UInt8) (hE : LEnv w) (hs9 : s.length ≤ 1000000) :
    Calls Tryd.prog 12 #[.string (BA s)] w fun x w' => LexPost w s x w' ∧ Kept (fun _ => False) w w' := by
  have HE := Lw.hid hE
  have hs := BA_size s
  obtain ⟨N, hN⟩ : ∃ N, s.length = N := ⟨_, rfl⟩
  have HN := Lw.hid hN
  rw [hN] at hs hs9
  clear hE hN
  by_cases hlong : 2048 < N
  · have HL : Hid (lexT s = .error 3) := Lw.hid (by unfold lexT; rw [if_pos (by rw [HN.out]; exact hlong)])
    go_enter Tryd.func12, Tryd.ntmps12
    go_wp2_with fail
    go_step3
    go_wp2_with fail
    rw [Exit.noGoto_ret]
    go_ret2
    exact ⟨lp_error HL.out rfl, Kept.refl _ _⟩
  · have hshort : N ≤ 2048 := by omega
    cases hok : s.all okB with
    | false =>
      have HL : Hid (lexT s = .error 5) := Lw.hid (by unfold lexT; rw [if_neg (by rw [HN.out]; exact hlong), if_pos hok])
      have HOK := Lw.hid hok
      clear hok hlong
      go_enter Tryd.func12, Tryd.ntmps12
      go_wp2_with fail
      go_step3
      go_wp2_with fail
      refine (bytes_any _ s (by rw [HN.out]; exact hs9)).mono ?_
      rw [HOK.out]
      rintro x w1 ⟨rfl, k1⟩
      go_wp2_with fail
      rw [Exit.noGoto_ret]
      go_ret2
      exact ⟨lp_error HL.out rfl, k1⟩
    | true =>
      have HL : Hid (lexT s = lexF (N + 1) N s) := Lw.hid (by unfold lexT; rw [if_neg (by rw [HN.out]; exact hlong), if_neg (by rw [hok]; decide), HN.out])
      have HOK := Lw.hid hok
      clear hok hlong
      have lbl : (⟨#[32, 9]⟩ : ByteArray) = BA blankL := rfl
      have lend : (⟨#[32, 9, 10, 59, 38, 124, 60, 62]⟩ : ByteArray) = BA endL := rfl
      go_enter Tryd.func12, Tryd.ntmps12
      go_wp2_with fail
      go_step3
      go_wp2_with fail
      refine (bytes_any _ s (by rw [HN.out]; exact hs9)).mono ?_
      rw [HOK.out]
      rintro x w1 ⟨rfl, k1⟩
      have HB0 : Hid (ScAt (w1.alloc (.cells #[.string (BA s), .int .i64 0, .int .i64 0, .int .i64 0] 74)) w1.heap.size s 0 0 0) := Lw.hid (heap_alloc w1 _)
      have HK0 : Hid (Kept (fun _ => False) w (w1.alloc (.cells #[.string (BA s), .int .i64 0, .int .i64 0, .int .i64 0] 74))) := Lw.hid (k1.alloc _)
      have hgw : w.heap.size ≤ w1.heap.size := k1.size
      clear k1
      go_wp2_with fail
      go_step3
      go_wp2_with fail
      obtain ⟨g, hg⟩ : ∃ g, w1.heap.size = g := ⟨_, rfl⟩
      obtain ⟨w2, hw2⟩ : ∃ w2, w1.alloc (.cells #[.string (BA s), .int .i64 0, .int .i64 0, .int .i64 0] 74) = w2 := ⟨_, rfl⟩
      rw [hg, hw2] at HB0
      rw [hw2] at HK0
      rw [hg] at hgw
      rw [hg, hw2]
      obtain ⟨R0, hR0⟩ : ∃ R0, lexF (N + 1) N s = R0 := ⟨_, rfl⟩
      rw [hR0] at HL
      have HR0 : Hid ((lexF (N + 1) N s).map ([] ++ ·) = R0) := Lw.hid (by rw [hR0]; cases R0 <;> rfl)
      clear hg hw2 hR0
      go_loopg [5] N (fun gk s5 wx => LxRel w g s N R0 gk s5 wx)
      case atStart => exact ⟨0, N + 1, s, [], HN.out.symm, by rw [HN.out]; omega, by rw [HN.out]; omega, rfl, HB0.out, ⟨World.ownsRow_nil _ _ _ _, fun k hb => by cases hb⟩, HR0.out, HK0.out, Nat.le_refl _⟩
      case round =>
        obtain ⟨a, m, r, acc, rfl, hm, hr, hdr, hsc, hto, hlx, hk, hacc⟩ := hrel
        obtain ⟨⟨c0, c1, c2, c3⟩, f1, f2, f3⟩ := hsc.cells
        have HM := Lw.hid hm; have HRL := Lw.hid hr; have HDR := Lw.hid hdr; have HSC := Lw.hid hsc; have HTO := Lw.hid hto; have HLX := Lw.hid hlx; have HK := Lw.hid hk
        have haN : a ≤ N := by omega
        clear hm hr hdr hsc hto hlx hk HR0 HB0 HK0
        obtain ⟨m, rfl⟩ : ∃ m', m = m' + 1 := ⟨m - 1, by have := HM.out; omega⟩
        cases r with
        | nil =>
          have hb : (decide ((0 : Nat) = 0) && decide (a < s.length)) = false := by rw [HN.out]; have := HRL.out; simp at this; simp; omega
          have HB9 := Lw.hid hb
          have HRE : Hid (lexT s = .ok acc) := Lw.hid (by rw [HL.out, ← HLX.out]; show Except.ok (acc ++ []) = _; rw [List.append_nil])
          have hacc9 : acc.length ≤ 2048 := by omega
          clear hb
          go_wp2_with fail
          refine (more_any _ g s a 0 0 HSC.out false HB9.out).mono ?_
          rintro x _ ⟨rfl, n1, rfl⟩
          go_wp2_with fail
          rw [Exit.noGoto_ret]
          go_ret2
          exact ⟨lp_ok HRE.out rfl (HTO.out.kept0 (kept_drewN' _ n1)).1 (fun k hb => (HTO.out.2 k hb).1) hacc9, HK.out.trans (kept_drewN' _ n1) (fun _ _ h => h)⟩
        | cons c r =>
          obtain ⟨hc0, hd1, hl1⟩ := drop_cons HDR.out
          have g0 := BA_get hc0
          have HD1 := Lw.hid hd1
          have hlt : a + 1 ≤ N := by rw [HN.out] at hl1; omega
          have HL1 : Hid (a + 1 + r.length = N) := Lw.hid (by rw [HN.out] at hl1; omega)
          have hb : (decide ((0 : Nat) = 0) && decide (a < s.length)) = true := by rw [HN.out]; simp; omega
          have HB9 := Lw.hid hb
          have ht := BA_tail s a N HN.out.symm
          rw [HDR.out] at ht
          have HCR : Hid ((c :: r).length = r.length + 1) := Lw.hid rfl
          have gr0 := BA_get (l := c :: r) (k := 0) (c := c) rfl
          have hzr : (BA (c :: r)).size = r.length + 1 := BA_size _
          clear hb hc0 hd1 hl1
          go_wp2_with fail
          refine (more_any _ g s a 0 0 HSC.out true HB9.out).mono ?_
          rintro x _ ⟨rfl, n1, rfl⟩
          go_wp2_with fail
          by_cases hbl : c = 32 ∨ c = 9
          · have HI := Lw.hid ((idx_in blankL c).1 ((blankL_has c).2 hbl))
            obtain ⟨i, hi⟩ := HI.out
            have HI := Lw.hid hi
            have HLX2 : Hid ((lexF m N r).map (acc ++ ·) = R0) := Lw.hid (by rw [← HLX.out, lex_blank hbl])
            clear hi hbl
            refine (idx_any blankL c (i : Int) HI.out _).mono ?_
            rintro x _ ⟨rfl, rfl⟩
            go_wp2_with fail
            go_roundg r.length
            case measure => have := HCR.out; omega
            case rel => exact ⟨a + 1, m, r, acc, rfl, by have := HM.out; have := HCR.out; omega, HL1.out, HD1.out, HSC.out.stepAt (a + 1) (by omega), HTO.out.kept ((K1.drewN g _ _).set _), HLX2.out, k1_keep HK.out hgw ((K1.drewN g _ _).set _), by omega⟩
          · have HI := Lw.hid ((idx_in blankL c).2 (by cases h : blankL.contains c with
              | false => rfl
              | true => exact absurd ((blankL_has c).1 h) hbl))
            refine (idx_any blankL c (-1) HI.out _).mono ?_
            rintro x _ ⟨rfl, rfl⟩
            by_cases h35 : c = 35
            · have b35 : ((c.toNat : Int) == 35) = true := u8eq (k := 35) rfl h35
              obtain ⟨L, hL⟩ : ∃ L, (c :: r).takeWhile (· != 10) = L := ⟨_, rfl⟩
              have HLL : Hid (L.length + ((c :: r).dropWhile (· != 10)).length = r.length + 1 ∧ 1 ≤ L.length) := Lw.hid (by
                rw [← hL]
                refine ⟨takeWhile_len _ _, ?_⟩
                rw [List.takeWhile_cons, h35]; simp)
              have HLD : Hid (s.drop (a + L.length) = (c :: r).dropWhile (· != 10)) := Lw.hid (by rw [← hL, ← List.drop_drop, HDR.out, drop_takeWhile])
              have HLX2 : Hid ((lexF m N ((c :: r).dropWhile (· != 10))).map (acc ++ ·) = R0) := Lw.hid (by rw [← HLX.out, lex_hash hbl h35])
              have HLT := Lw.hid hL
              have hLz := BA_size L
              obtain ⟨nL, hnL⟩ : ∃ nL, L.length = nL := ⟨_, rfl⟩
              rw [hnL] at hLz HLL HLD
              have haL : a + nL ≤ N := by have h1 := HLL.out.1; have h2 := HL1.out; omega
              clear hbl h35 hL hnL
              go_wp2_with fail
              refine (cut_any (c :: r) _ (HE.out.kept (HK.out.trans (kept_drewN' _ n1) (fun _ _ h => h))) (by rw [HCR.out]; have := HL1.out; omega)).mono ?_
              rw [HLT.out]
              rintro x w3 ⟨y, z, rfl, n2, rfl⟩
              go_wp2_with fail
              go_roundg ((c :: r).dropWhile (· != 10)).length
              case measure => have h1 := HLL.out; have h2 := HCR.out; omega
              case rel => exact ⟨a + nL, m, (c :: r).dropWhile (· != 10), acc, rfl, by have h1 := HLL.out; have h2 := HM.out; have h3 := HCR.out; omega, by have h1 := HLL.out.1; have h2 := HL1.out; omega, HLD.out, HSC.out.stepAt (a + nL) (by omega), HTO.out.kept ((K1.drewN g _ _).set _), HLX2.out, k1_keep HK.out hgw ((K1.drewN g _ _).set _), by omega⟩
            · have b35 : ((c.toNat : Int) == 35) = false := u8ne (k := 35) rfl h35
              go_wp2_with fail
              refine (operates_any _ (c :: r) ((HE.out.kept (HK.out.trans (kept_drewN' _ n1) (fun _ _ h => h))).ops) (by rw [HCR.out]; have := HL1.out; omega)).mono ?_
              cases hop : operF (c :: r) with
              | some o =>
                obtain ⟨ok, ot⟩ := o
                have hol := operF_len hop
                have HV : Hid (operV (c :: r) = .tuple #[.agg #[.int .i64 (ok : Int), .string (BA ot)], .bool true]) := Lw.hid (by unfold operV; rw [hop])
                rw [HV.out]
                rintro x w3 ⟨rfl, k3⟩
                have k3' : Kept (fun _ => False) wr w3 := (kept_drewN' _ n1).trans k3 (fun _ _ h => h)
                have HK3 := Lw.hid (HK.out.trans k3' (fun _ _ h => h))
                have HSC3 := Lw.hid (HSC.out.kept k3' (fun h => h)); have HTO3 := Lw.hid (HTO.out.kept0 k3')
                obtain ⟨⟨c0, c1, c2, c3⟩, f1, f2, f3⟩ := HSC3.out.cells
                have HOL := Lw.hid hol
                have HLS := Lw.hid (lex_some (m := m) (N := N) hbl h35 hop)
                have hg3 := HSC3.out.lt
                clear k3 k3' hol
                by_cases hk0 : ok = 0
                · have bk0 : ((ok : Int) == 0) = true := by rw [hk0]; rfl
                  have HRE : Hid (lexT s = .error 5) := Lw.hid (by rw [HL.out, ← HLX.out, HLS.out, if_pos hk0]; rfl)
                  clear hk0 hop hbl h35
                  go_wp2_with fail
                  rw [Exit.noGoto_ret]
                  go_ret2
                  exact ⟨lp_error HRE.out rfl, HK3.out.alloc _⟩
                · have bk0 : ((ok : Int) == 0) = false := by simp; omega
                  have HLX2 : Hid ((lexF m N ((c :: r).drop ot.length)).map ((acc ++ [⟨ok, ot, N - (r.length + 1)⟩]) ++ ·) = R0) := Lw.hid (by rw [← HLX.out, HLS.out, if_neg hk0, map_map_ok])
                  have hoz := BA_size ot
                  have HOT : Hid ((BA s).extract a (a + ot.length) = BA ot) := Lw.hid (by
                    rw [BA_extract]
                    congr 1
                    have h2 := (operF_in hop).2
                    rw [List.drop_take, HDR.out, Nat.add_sub_cancel_left]
                    exact h2)
                  have HDL : Hid (s.drop (a + ot.length) = (c :: r).drop ot.length) := Lw.hid (by rw [← List.drop_drop, HDR.out])
                  have HLL : Hid (ot.length ≤ r.length + 1 ∧ 1 ≤ ot.length) := Lw.hid (by have h := HOL.out; rw [HCR.out] at h; exact ⟨h.2.1, h.1⟩)
                  have HDR2 : Hid (((c :: r).drop ot.length).length = r.length + 1 - ot.length) := Lw.hid (by rw [List.length_drop, HCR.out])
                  obtain ⟨L, hL⟩ : ∃ L, ot.length = L := ⟨_, rfl⟩
                  rw [hL] at hoz HOT HDL HLL HDR2
                  rw [hL] at HLX2
                  have haL : a + L ≤ N := by have h1 := HLL.out.1; have h2 := HL1.out; omega
                  have eT := HOT.out
                  clear hk0 hop hbl h35 hL
                  go_wp2_with fail
                  go_region
                  all_goals
                    have HSC4 : Hid (ScAt (((w3.setCell ⟨g, 1, none⟩ (.int .i64 ((a : Int) + (L : Int)))).alloc (.cells #[.int .i64 (ok : Int), .string (BA ot)] 78)).drew) g s (a + L) 0 0) := Lw.hid ((HSC3.out.step0 (a + L) (by omega)).kept (((Kept.refl (fun _ => False) _).alloc _).drew) (fun h => h))
                    have HTO4 := Lw.hid ((HTO3.out.kept ((K1.refl g w3).set (i := 1) (.int .i64 ((a : Int) + (L : Int))))).kept0 (((Kept.refl (fun _ => False) _).alloc (.cells #[.int .i64 (ok : Int), .string (BA ot)] 78)).drew))
                    have HK4 := Lw.hid (((k1_keep HK3.out hgw ((K1.refl g w3).set (i := 1) (.int .i64 ((a : Int) + (L : Int))))).alloc (.cells #[.int .i64 (ok : Int), .string (BA ot)] 78)).drew)
                    generalize ((w3.setCell ⟨g, 1, none⟩ (.int .i64 ((a : Int) + (L : Int)))).alloc (.cells #[.int .i64 (ok : Int), .string (BA ot)] 78)).drew = w4 at *
                    have HPOS : Hid (N - (r.length + 1) = a) := Lw.hid (by have := HL1.out; omega)
                    rw [HPOS.out] at HLX2
                    clear c0 c1 c2 c3 f1 f2 f3
                    obtain ⟨⟨c0, c1, c2, c3⟩, f1, f2, f3⟩ := HSC4.out.cells
                    go_wp2_with (at_builtin; refine wpList_app rfl _ _ _ rfl ETk _ acc.length (acc.flatMap Tk.cells) rfl (HTO4.out.1.alloc _) _ 1 [.int .i64 (ok : Int), .string (BA ot), .int .i64 (a : Int)] rfl (Rd.lit w4 [.int .i64 (ok : Int), .string (BA ot), .int .i64 (a : Int)] _ 3 _ 1 rfl rfl (by unfold maxLen; omega)) (tk_one ⟨ok, ot, a⟩) (by unfold maxLen; omega) (by omega) ?_; intro ad9 cap9 w9 ho hg9 hf9)
                    have hadd := HTO4.out.add HK4.out HSC4.out (t := ⟨ok, ot, a⟩) ho hg9 hf9
                    have HADD := Lw.hid hadd
                    clear hadd ho hg9 hf9
                    go_wp2_with fail
                    go_roundg ((c :: r).drop L).length
                    case measure => have h1 := HDR2.out; have h2 := HCR.out; have h3 := HLL.out; omega
                    case rel => exact ⟨a + L, m, (c :: r).drop L, acc ++ [⟨ok, ot, a⟩], rfl, by have h1 := HDR2.out; have h2 := HCR.out; have h3 := HLL.out; have h4 := HM.out; omega, by have h1 := HDR2.out; have h2 := HL1.out; have h3 := HLL.out; omega, HDL.out, HADD.out.2.2, by have := HADD.out.1; simpa [List.length_append] using this, HLX2.out, HADD.out.2.1, by rw [List.length_append]; have h3 := HLL.out; simp; omega⟩
              | none =>
                have HV : Hid (operV (c :: r) = .tuple #[.agg #[.int .i64 0, .string (BA [])], .bool false]) := Lw.hid (by unfold operV; rw [hop])
                rw [HV.out]
                rintro x w3 ⟨rfl, k3⟩
                have k3' : Kept (fun _ => False) wr w3 := (kept_drewN' _ n1).trans k3 (fun _ _ h => h)
                have hce : endB c = false := by
                  cases h : endB c with
                  | false => rfl
                  | true => exact absurd hop (oper_end h hbl)
                have HCE := Lw.hid hce; have HOP := Lw.hid hop; have HBL := Lw.hid hbl; have H35 := Lw.hid h35
                have hkA : Kept (fun _ => False) w (w3.alloc (.cells #[.int .i64 0, .string (BA [])] 78)) := (HK.out.trans k3' (fun _ _ h => h)).alloc _
                have hscA : ScAt (w3.alloc (.cells #[.int .i64 0, .string (BA [])] 78)) g s a 0 0 := (HSC.out.kept k3' (fun h => h)).kept ((Kept.refl (fun _ => False) _).alloc _) (fun h => h)
                have htoA : TOut w (w3.alloc (.cells #[.int .i64 0, .string (BA [])] 78)) g u5 acc := (HTO.out.kept0 k3').kept0 ((Kept.refl (fun _ => False) _).alloc _)
                have HK3 := Lw.hid hkA; have HSC3 := Lw.hid hscA; have HTO3 := Lw.hid htoA
                clear hkA hscA htoA k3 k3' hce hop hbl h35 c0 c1 c2 c3 f1 f2 f3 g0 gr0 ht hzr
                go_wp2_with fail
                generalize w3.alloc (.cells #[.int .i64 0, .string (BA [])] 78) = wa at *
                obtain ⟨R1, hR1⟩ : ∃ R1, wordF (r.length + 2) (c :: r) = R1 := ⟨_, rfl⟩
                have HWD := Lw.hid hR1
                clear hR1
                obtain ⟨wo, rfl⟩ : ∃ wo : World, wo = wr := ⟨_, rfl⟩
                go_loopg [] (N - a + 1) (fun gk wx => WdRel wa g s N R1 gk wx)
                case atStart => exact .inl ⟨a, r.length + 2, c :: r, rfl, HRL.out, HDR.out, HSC3.out, by rw [HCR.out]; omega, HWD.out, K1.refl g wa⟩
                case round =>
                  rcases hrel with ⟨a', m', r', rfl, hr', hdr', hsc', hm', hwd', hk'⟩ | ⟨e, rfl, hbad, hR1e, hk'⟩
                  · obtain ⟨⟨c0, c1, c2, c3⟩, f1, f2, f3⟩ := hsc'.cells
                    have HSX := Lw.hid hsc'; have HKX := Lw.hid hk'; have HDX := Lw.hid hdr'; have HWX := Lw.hid hwd'; have HRX := Lw.hid hr'; have HMX := Lw.hid hm'
                    have haX : a' ≤ N := by omega
                    clear hsc' hk' hdr' hwd' hr' hm'
                    obtain ⟨m', rfl⟩ : ∃ m'', m' = m'' + 1 := ⟨m' - 1, by have := HMX.out; omega⟩
                    cases r' with
                    | nil =>
                      have haE : a' = N := by have := HRX.out; simpa using this
                      have hb : (decide ((0 : Nat) = 0) && decide (a' < s.length)) = false := by rw [HN.out, haE]; simp
                      have HB9 := Lw.hid hb
                      have HAE := Lw.hid haE
                      clear hb haE
                      go_wp2_with fail
                      refine (more_any _ g s a' 0 0 HSX.out false HB9.out).mono ?_
                      rintro x w4 ⟨rfl, n2, hw4⟩
                      have HSX4 : Hid (ScAt w4 g s a' 0 0) := Lw.hid (by rw [hw4]; exact HSX.out.drewN n2)
                      have HKX4 : Hid (K1 g wa w4) := Lw.hid (by rw [hw4]; exact HKX.out.then (K1.drewN g _ n2))
                      clear hw4 c0 c1 c2 c3 f1 f2 f3
                      obtain ⟨⟨c0, c1, c2, c3⟩, f1, f2, f3⟩ := HSX4.out.cells
                      have HR1 : Hid (R1 = .ok ([] : List UInt8)) := Lw.hid (by rw [← HWX.out]; rfl)
                      have HRR : Hid (wordF (r.length + 2) (c :: r) = .ok ([] : List UInt8)) := Lw.hid (by rw [HWD.out, HR1.out])
                      have htl := wordF_tl _ HRR.out
                      have hless := (wordF_less HRR.out HCE.out).len
                      have hol := ok_len HDR.out (by rw [HRL.out, HN.out]) htl
                      rw [HN.out, HCR.out] at hol
                      have hRRl : ([] : List UInt8).length = 0 := rfl
                      have ha' : a' + (([] : List UInt8)).length = N := HRX.out
                      obtain ⟨tx, htx⟩ : ∃ tx, (c :: r).take (r.length + 1 - (([] : List UInt8)).length) = tx := ⟨_, rfl⟩
                      have eT : (BA s).extract a a' = BA tx := by
                        rw [BA_extract, ← htx]
                        congr 1
                        rw [List.drop_take, HDR.out]
                        congr 1
                        have := HL1.out
                        omega
                      have HLX2 : Hid ((lexF m N (([] : List UInt8))).map ((acc ++ [⟨1, tx, a⟩]) ++ ·) = R0) := Lw.hid (by rw [← HLX.out, lex_word HBL.out H35.out HOP.out HRR.out, map_map_ok, htx, show N - (r.length + 1) = a by have := HL1.out; omega])
                      have HSC4 := HSX4
                      have HK4 := Lw.hid (k1_keep HK3.out hgw HKX4.out)
                      have HTO4 := Lw.hid (HTO3.out.kept HKX4.out)
                      have HDR2 : Hid ((([] : List UInt8)).length = r.length + 1 - (a' - a)) := Lw.hid (by have := HL1.out; omega)
                      have HLL : Hid (a' - a ≤ r.length + 1 ∧ 1 ≤ a' - a ∧ a ≤ a' ∧ a' + (([] : List UInt8)).length = N) := Lw.hid (by have := HL1.out; omega)
                      have HDL : Hid (s.drop a' = ([] : List UInt8)) := Lw.hid (by rw [HAE.out, ← HN.out]; exact List.drop_eq_nil_of_le (Nat.le_refl _))
                      have haA : a ≤ a' := HLL.out.2.2.1
                      have haB : a' ≤ N := by have := HLL.out; omega
                      clear htl hless hol hRRl htx ha'
                      go_wp2_with (at_builtin; refine wpList_app rfl _ _ _ rfl ETk _ acc.length (acc.flatMap Tk.cells) rfl (HTO4.out.1.alloc _) _ 1 [.int .i64 1, .string (BA tx), .int .i64 (a : Int)] rfl (Rd.lit w4 [.int .i64 1, .string (BA tx), .int .i64 (a : Int)] _ 3 _ 1 rfl rfl (by unfold maxLen; omega)) (tk_one ⟨1, tx, a⟩) (by unfold maxLen; omega) (by omega) ?_; intro ad9 cap9 w9 ho hg9 hf9)
                      have hadd := HTO4.out.add HK4.out HSC4.out (t := ⟨1, tx, a⟩) ho hg9 hf9
                      have HADD := Lw.hid hadd
                      clear hadd ho hg9 hf9
                      go_wp2_with fail
                      go_roundg (([] : List UInt8)).length
                      case measure => have h1 := HDR2.out; have h2 := HCR.out; have h3 := HLL.out; omega
                      case rel => exact ⟨a', m, ([] : List UInt8), acc ++ [⟨1, tx, a⟩], rfl, by have h1 := HDR2.out; have h2 := HCR.out; have h3 := HLL.out; have h4 := HM.out; omega, HLL.out.2.2.2, HDL.out, HADD.out.2.2, by have := HADD.out.1; simpa [List.length_append] using this, HLX2.out, HADD.out.2.1, by rw [List.length_append]; have h3 := HLL.out; simp; omega⟩
                    | cons c' r' =>
                      obtain ⟨hc0, hd1, hl1⟩ := drop_cons HDX.out
                      have g0 := BA_get hc0
                      have HXL : Hid (a' + 1 + r'.length = N) := Lw.hid (by rw [HN.out] at hl1; omega)
                      have hlt' : a' + 1 ≤ N := by rw [HN.out] at hl1; omega
                      have hb : (decide ((0 : Nat) = 0) && decide (a' < s.length)) = true := by rw [HN.out]; simp; omega
                      have HB9 := Lw.hid hb
                      have HA8 : Hid (a' < s.length) := Lw.hid (by rw [HN.out]; exact hlt')
                      clear hb hc0 hd1 hl1
                      go_wp2_with fail
                      refine (more_any _ g s a' 0 0 HSX.out true HB9.out).mono ?_
                      rintro x w4 ⟨rfl, n2, hw4⟩
                      have HSX4 : Hid (ScAt w4 g s a' 0 0) := Lw.hid (by rw [hw4]; exact HSX.out.drewN n2)
                      have HKX4 : Hid (K1 g wa w4) := Lw.hid (by rw [hw4]; exact HKX.out.then (K1.drewN g _ n2))
                      clear hw4 c0 c1 c2 c3 f1 f2 f3
                      obtain ⟨⟨c0, c1, c2, c3⟩, f1, f2, f3⟩ := HSX4.out.cells
                      go_wp2_with fail
                      cases hec : endB c' with
                      | true =>
                        have HI := Lw.hid ((idx_in endL c').1 (by rw [endL_has]; exact hec))
                        obtain ⟨i, hi⟩ := HI.out
                        have HI := Lw.hid hi
                        clear hi
                        refine (idx_any endL c' (i : Int) HI.out _).mono ?_
                        rintro x w4 ⟨rfl, rfl⟩
                        have HR1 : Hid (R1 = .ok (c' :: r')) := Lw.hid (by rw [← HWX.out, word_end hec])
                        have HRR : Hid (wordF (r.length + 2) (c :: r) = .ok (c' :: r')) := Lw.hid (by rw [HWD.out, HR1.out])
                        have htl := wordF_tl _ HRR.out
                        have hless := (wordF_less HRR.out HCE.out).len
                        have hol := ok_len HDR.out (by rw [HRL.out, HN.out]) htl
                        rw [HN.out, HCR.out] at hol
                        have hRRl : (c' :: r').length = r'.length + 1 := rfl
                        have ha' : a' + ((c' :: r')).length = N := HRX.out
                        obtain ⟨tx, htx⟩ : ∃ tx, (c :: r).take (r.length + 1 - ((c' :: r')).length) = tx := ⟨_, rfl⟩
                        have eT : (BA s).extract a a' = BA tx := by
                          rw [BA_extract, ← htx]
                          congr 1
                          rw [List.drop_take, HDR.out]
                          congr 1
                          have := HL1.out
                          omega
                        have HLX2 : Hid ((lexF m N ((c' :: r'))).map ((acc ++ [⟨1, tx, a⟩]) ++ ·) = R0) := Lw.hid (by rw [← HLX.out, lex_word HBL.out H35.out HOP.out HRR.out, map_map_ok, htx, show N - (r.length + 1) = a by have := HL1.out; omega])
                        have HSC4 := HSX4
                        have HK4 := Lw.hid (k1_keep HK3.out hgw HKX4.out)
                        have HTO4 := Lw.hid (HTO3.out.kept HKX4.out)
                        have HDR2 : Hid (((c' :: r')).length = r.length + 1 - (a' - a)) := Lw.hid (by have := HL1.out; omega)
                        have HLL : Hid (a' - a ≤ r.length + 1 ∧ 1 ≤ a' - a ∧ a ≤ a' ∧ a' + ((c' :: r')).length = N) := Lw.hid (by have := HL1.out; omega)
                        have HDL : Hid (s.drop a' = (c' :: r')) := Lw.hid (HDX.out)
                        have haA : a ≤ a' := HLL.out.2.2.1
                        have haB : a' ≤ N := by have := HLL.out; omega
                        clear htl hless hol hRRl htx ha'
                        go_wp2_with (at_builtin; refine wpList_app rfl _ _ _ rfl ETk _ acc.length (acc.flatMap Tk.cells) rfl (HTO4.out.1.alloc _) _ 1 [.int .i64 1, .string (BA tx), .int .i64 (a : Int)] rfl (Rd.lit w4 [.int .i64 1, .string (BA tx), .int .i64 (a : Int)] _ 3 _ 1 rfl rfl (by unfold maxLen; omega)) (tk_one ⟨1, tx, a⟩) (by unfold maxLen; omega) (by omega) ?_; intro ad9 cap9 w9 ho hg9 hf9)
                        have hadd := HTO4.out.add HK4.out HSC4.out (t := ⟨1, tx, a⟩) ho hg9 hf9
                        have HADD := Lw.hid hadd
                        clear hadd ho hg9 hf9
                        go_wp2_with fail
                        go_roundg ((c' :: r')).length
                        case measure => have h1 := HDR2.out; have h2 := HCR.out; have h3 := HLL.out; omega
                        case rel => exact ⟨a', m, (c' :: r'), acc ++ [⟨1, tx, a⟩], rfl, by have h1 := HDR2.out; have h2 := HCR.out; have h3 := HLL.out; have h4 := HM.out; omega, HLL.out.2.2.2, HDL.out, HADD.out.2.2, by have := HADD.out.1; simpa [List.length_append] using this, HLX2.out, HADD.out.2.1, by rw [List.length_append]; have h3 := HLL.out; simp; omega⟩
                      | false =>
                        have HI := Lw.hid ((idx_in endL c').2 (by rw [endL_has]; exact hec))
                        refine (idx_any endL c' (-1) HI.out _).mono ?_
                        rintro x w4 ⟨rfl, rfl⟩
                        go_wp2_with fail
                        refine (piece_any false _ g s a' 0 HSX4.out HA8.out (by rw [HN.out]; exact hs9) (by omega)).mono ?_
                        rintro x w5 ⟨rfl, h', k'⟩
                        rw [HDX.out] at h'
                        have K5 := Lw.hid (HKX4.out.then k')
                        cases hres : pieceR false 0 (c' :: r') with
                        | error e =>
                          rw [hres] at h'
                          have HBD : Hid (ScBad w5 g s 0 e) := Lw.hid h'
                          have HRE : Hid (R1 = .error e) := Lw.hid (by rw [← HWX.out, word_err hec hres])
                          clear hres h' k' hec
                          go_wp2_with fail
                          go_roundg 0
                          case measure => omega
                          case rel => exact .inr ⟨e, rfl, HBD.out, HRE.out, K5.out⟩
                        | ok r3 =>
                          rw [hres] at h'
                          have HS2 : Hid (ScAt w5 g s (s.length - r3.length) 0 0) := Lw.hid h'
                          have hlen := (piece_less hres).len
                          have hol := ok_len HDX.out (by rw [HRX.out, HN.out]) (scan_tl _ _ _ hres)
                          rw [HN.out] at hol HS2
                          have HOL := Lw.hid hol
                          have HW2 : Hid (wordF m' r3 = R1) := Lw.hid (by rw [← HWX.out, word_step hec hres])
                          have HM3 : Hid (r3.length < m') := Lw.hid (by have h1 := HMX.out; rw [List.length_cons] at h1; omega)
                          have HLEN := Lw.hid hlen
                          clear hres h' k' hol hlen hec
                          go_wp2_with fail
                          go_roundg (N - (N - r3.length) + 1)
                          case measure => have h1 := HLEN.out; have h2 := HXL.out; omega
                          case rel => exact .inl ⟨N - r3.length, m', r3, rfl, HOL.out.2.1, HOL.out.1, HS2.out, HM3.out, HW2.out, K5.out⟩
                  · obtain ⟨a', d', ha', hd1, hd2, hsc', he⟩ := hbad
                    have HSX := Lw.hid hsc'; have HKX := Lw.hid hk'
                    obtain ⟨⟨c0, c1, c2, c3⟩, f1, f2, f3⟩ := hsc'.cells
                    have hb : (decide (e = 0) && decide (a' < s.length)) = false := by simp [he]
                    have HB9 := Lw.hid hb
                    have hen : ((e : Int) != 0) = true := by simp [bne]; omega
                    have HRE : Hid (lexT s = .error e) := Lw.hid (by
                      rw [HL.out, ← HLX.out, lex_bad HBL.out H35.out HOP.out (by rw [HWD.out, hR1e])]; rfl)
                    clear hb hsc' hk' he ha' hR1e
                    go_wp2_with fail
                    refine (more_any _ g s a' d' e HSX.out false HB9.out).mono ?_
                    rintro x _ ⟨rfl, n2, rfl⟩
                    go_wp2_with fail
                    go_quiet (fail)
                    go_wp2_with fail
                    rw [Exit.noGoto_ret]
                    go_ret2
                    exact ⟨lp_error HRE.out rfl, k1_keep HK3.out hgw ((HKX.out.then (K1.drewN g _ _)).then (K1.drewN g _ _))⟩
end Go.Proofs.YtifcgeanippepaaDoor
