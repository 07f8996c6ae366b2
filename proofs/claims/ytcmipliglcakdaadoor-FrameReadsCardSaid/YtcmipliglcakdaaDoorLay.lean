/- A piece is laid ('lay'); its form by the document ('form'). -/
import Derived.Test.YtcmipliglcakdaaDoorWakes
import Derived.Test.YtcmipliglcakdaaDoorPieces
namespace Go.Proofs.YtcmipliglcakdaaDoor
open Go Go.RowKit Go.Lw
set_option maxRecDepth 100000
def Piece.form (p : Piece) : List UInt8 :=
  if p.what = 1 then be 1 p.n else if p.what = 2 then be 2 p.n else if p.what = 3 then be 4 p.n else if p.what = 4 then be 8 p.n
  else if p.what = 5 then be 2 p.text.size ++ p.text.data.toList else p.text.data.toList
theorem Piece.form_len (p : Piece) (h : p.text.size ≤ 100) : p.form.length ≤ 102 := by
  unfold Piece.form
  have : p.text.data.size = p.text.size := rfl
  split
  · simp [be_length]
  split
  · simp [be_length]
  split
  · simp [be_length]
  split
  · simp [be_length]
  split
  · simp [be_length]; omega
  · simp; omega
theorem bv1 (n : Nat) : #[Value.int .u8 ((n : Int) % 256)] = ((be 1 n).map bv).toArray := by
  simp only [be, List.nil_append, List.map_cons, List.map_nil, bv_lo]; rfl
abbrev Piece.val (p : Piece) : Value := .agg #[.int .i64 p.what, .int .u64 (p.n : Int), .string p.text]
theorem ne_false {a b : Int} (h : ¬ a = b) : (a == b) = false := beq_eq_false_iff_ne.2 h
set_option maxHeartbeats 1000000 in
theorem lay_any (w : World) (bw : Nat) (v : Value) (l : List UInt8) (p : Piece) (hp : p.ok) (ht : p.text.size ≤ 100) (h : WriterAt w bw v l 0) (hlen : l.length + 70000 ≤ 70368744177664) :
    Calls Tryd.prog 18 #[.pointer (some ⟨bw, 0, none⟩), p.val] w fun e w' => e = .returned (.pointer (some ⟨bw, 0, none⟩)) ∧ WrPost w w' bw v (l ++ p.form) 0 := by
  obtain ⟨what, n, text⟩ := p
  obtain ⟨_, _, hn, hts⟩ := hp
  simp only at hn hts ht
  have hk := fun o => (Kept.refl (fun _ => False) w).alloc o
  have HK := Lw.hid hk
  have H := Lw.hid h
  clear h hk
  by_cases h1 : what = 1
  · subst h1
    have HF : Hid (Piece.form ⟨1, n, text⟩ = be 1 n) := Lw.hid (by simp [Piece.form])
    go_enter Tryd.func18, Tryd.ntmps18
    go_wp2_with fail
    refine (byte_any _ bw v l _ (be 1 n) ((H.out.alloc _).alloc _) ?_ ?_).mono ?_
    · rw [bv1]
      exact RdB.mark _ (be 1 n) _ (0, 0) _ 1 (by simp) (be_length 1 n).symm (by decide)
    · rw [be_length]; omega
    rintro e w1 ⟨rfl, hp1⟩
    go_wp2_with fail
    go_ret
    exact ⟨rfl, by rw [HF.out]; exact hp1.of_alloc.of_alloc⟩
  by_cases h2 : what = 2
  · subst h2
    have HF : Hid (Piece.form ⟨2, n, text⟩ = be 2 (n % 65536)) := Lw.hid (by simp only [Piece.form]; simp; rw [show n % 65536 = n % 256 ^ 2 from rfl, be_mod])
    go_enter Tryd.func18, Tryd.ntmps18
    go_wp2_with fail
    refine (two_any _ bw v l _ (n % 65536) (by first | omega | (rw [IntKind.wrap_u16]; omega)) (by omega) (H.out.alloc _) (by omega)).mono ?_
    rintro e w1 ⟨rfl, hp1⟩
    go_wp2_with fail
    go_ret
    exact ⟨rfl, by rw [HF.out]; exact hp1.of_alloc⟩
  by_cases h3 : what = 3
  · subst h3
    have HF : Hid (Piece.form ⟨3, n, text⟩ = be 4 (n % 4294967296)) := Lw.hid (by simp only [Piece.form]; simp; rw [show n % 4294967296 = n % 256 ^ 4 from rfl, be_mod])
    go_enter Tryd.func18, Tryd.ntmps18
    go_wp2_with fail
    refine (four_any _ bw v l _ (n % 4294967296) (by first | omega | (rw [IntKind.wrap_u32]; omega)) (by omega) (H.out.alloc _) (by omega)).mono ?_
    rintro e w1 ⟨rfl, hp1⟩
    go_wp2_with fail
    go_ret
    exact ⟨rfl, by rw [HF.out]; exact hp1.of_alloc⟩
  by_cases h4 : what = 4
  · subst h4
    have HF : Hid (Piece.form ⟨4, n, text⟩ = be 8 (n % 18446744073709551616)) := Lw.hid (by simp only [Piece.form]; simp; rw [show n % 18446744073709551616 = n % 256 ^ 8 from rfl, be_mod])
    go_enter Tryd.func18, Tryd.ntmps18
    go_wp2_with fail
    refine (eight_any _ bw v l _ (n % 18446744073709551616) (by first | omega | (rw [IntKind.wrap_u64]; omega)) (by omega) (H.out.alloc _) (by omega)).mono ?_
    rintro e w1 ⟨rfl, hp1⟩
    go_wp2_with fail
    go_ret
    exact ⟨rfl, by rw [HF.out]; exact hp1.of_alloc⟩
  by_cases h5 : what = 5
  · subst h5
    have HF : Hid (Piece.form ⟨5, n, text⟩ = be 2 text.size ++ text.data.toList) := Lw.hid (by simp [Piece.form])
    go_enter Tryd.func18, Tryd.ntmps18
    go_wp2_with fail
    refine (text_any _ bw v l text (by omega) (H.out.alloc _) (by omega)).mono ?_
    rintro e w1 ⟨rfl, hp1⟩
    go_wp2_with fail
    go_ret
    exact ⟨rfl, by rw [HF.out]; exact hp1.of_alloc⟩
  have HF : Hid (Piece.form ⟨what, n, text⟩ = text.data.toList) := Lw.hid (by simp [Piece.form, h1, h2, h3, h4, h5])
  replace h1 := ne_false h1
  replace h2 := ne_false h2
  replace h3 := ne_false h3
  replace h4 := ne_false h4
  replace h5 := ne_false h5
  go_enter Tryd.func18, Tryd.ntmps18
  go_wp2_with (refine wpList_bytes rfl _ _ _ rfl text rfl Tryd.underlying9 Tryd.underlying22 Tryd.underlying5 hts ?_; intro g cap w3 hg hrow hrd hk3 hz)
  refine (byte_any _ bw v l _ text.data.toList (WriterAt.kept hk3 (H.out.alloc _) (fun h => h) (fun _ _ h => h)) hrd (by have : text.data.size = text.size := rfl; simp; omega)).mono ?_
  rintro e w1 ⟨rfl, hp1⟩
  have hp := (hp1.of_kept hk3).of_alloc
  have HP := Lw.hid hp
  clear hp hp1 hrow hrd hk3 hz
  go_wp2_with fail
  go_ret
  exact ⟨rfl, by rw [HF.out]; exact HP.out⟩
theorem infoB : ∃ i, Tryd.prog.info? 5 = some i ∧ i.zero = some (.int .u8 0) ∧ i.size = 1 ∧ i.bytes = 1 := by
  obtain ⟨i, h1, h2, h3, h4⟩ := info_parts (P := Tryd.prog) (e := 5) (z := .int .u8 0) (size := 1) (bytes := 1) (by kernel_rfl)
  exact ⟨i, h1, h2, h3, h4⟩
theorem made_bytes (n : Nat) : (madeCells (Value.cells (.int .u8 0)) (n * 1)).toList = (List.replicate n 0).map bv := by
  rw [Nat.mul_one, show Value.cells (.int .u8 0) = #[.int .u8 0] from rfl, toList_madeCells_one]
  simp [bv]
def numRow (many j n : Nat) : List UInt8 := List.replicate (many - j) 0 ++ be j n
theorem numRow_step (many j n : Nat) (hj : j < many) : (numRow many j n).set (many - 1 - j) (lo (n / 256 ^ j)) = numRow many (j + 1) n := by
  unfold numRow
  rw [Nat.add_comm j 1, be_add 1 j]
  have e : many - j = (many - (1 + j)) + 1 := by omega
  rw [e, List.replicate_succ']
  rw [List.append_assoc, List.set_append]
  simp only [List.length_replicate]
  rw [if_neg (by omega), show many - 1 - j - (many - (1 + j)) = 0 by omega]
  simp [be]
theorem numRow_len (many j n : Nat) (hj : j ≤ many) : (numRow many j n).length = many := by
  unfold numRow; simp [be_length]; omega
set_option maxHeartbeats 1000000 in
theorem number_any (w : World) (n many : Nat) (hn : n < 18446744073709551616) (hm : many ≤ 1000) :
    Calls Tryd.prog 60 #[.int .u64 (n : Int), .int .i64 (many : Int)] w fun e w' => ∃ v, e = .returned v ∧ w'.ownsRow 0 5 1 v many ((be many n).map bv) ∧ Kept (fun _ => False) w w' ∧ ∀ k, blk v k → w.heap.size ≤ k := by
  obtain ⟨i, hi, hz0, hz1, hz2⟩ := infoB
  go_enter Tryd.func60, Tryd.ntmps60
  go_wp2_with (refine wpList_mk rfl _ _ _ rfl Tryd.underlying22 hi hz0 hz1 hz2 _ _ _ _ many rfl rfl rfl rfl (by omega) (by unfold maxLen; omega) ?_; intro g w1 hg ho hk hs)
  rw [made_bytes] at ho
  go_loopw [0, 6] (fun x i wr => ∃ j : Nat, j ≤ many ∧ i = .int .i64 ((many : Int) - 1 - j) ∧ x = .int .u64 ((n / 256 ^ j : Nat) : Int) ∧ wr.ownsRow 0 5 1 (.slice (some ⟨g, 0, none⟩) many many) many ((numRow many j n).map bv) ∧ Kept (fun _ => False) w wr) (fun _ i _ => (intOf i + 1).toNat)
  case atStart => exact ⟨0, Nat.zero_le _, by go_num, by simp, by simpa [numRow, be] using ho, hk⟩
  case round =>
    obtain ⟨j, hj, rfl, rfl, ho, hk⟩ := hrel
    have HO := Lw.hid ho; have HK := Lw.hid hk
    clear ho hk
    by_cases hlt : j < many
    · have hl : (numRow many j n).length = many := numRow_len _ _ _ hj
      obtain ⟨old, hc⟩ : ∃ old, wr.cell? ⟨g, many - 1 - j, none⟩ = some (.int .u8 old) := by
        have hget : ((numRow many j n).map bv)[many - 1 - j]? = some (bv ((numRow many j n)[many - 1 - j]'(by omega))) := by
          rw [List.getElem?_map, List.getElem?_eq_getElem (by omega)]; rfl
        exact ⟨_, own_cell HO.out (many - 1 - j) _ hget (by omega)⟩
      have hfz := HO.out.frozenAt (many - 1 - j)
      have HS : Hid ((wr.setCell ⟨g, many - 1 - j, none⟩ (bv (lo (n / 256 ^ j)))).ownsRow 0 5 1 (.slice (some ⟨g, 0, none⟩) many many) many ((numRow many (j + 1) n).map bv)) := by
        have := (HO.out.stored (many - 1 - j) (bv (lo (n / 256 ^ j)))).1
        rw [← List.map_set, numRow_step _ _ _ hlt] at this
        exact this
      rw [bv_lo] at HS
      have hy : n / 256 ^ j < 18446744073709551616 := Nat.lt_of_le_of_lt (Nat.div_le_self _ _) hn
      have HD : Hid (n / 256 ^ (j + 1) = n / 256 ^ j / 256) := Lw.hid (by rw [Nat.div_div_eq_div_mul, Nat.pow_succ])
      have hkk : Kept (fun _ => False) w (wr.setCell ⟨g, many - 1 - j, none⟩ (.int .u8 ((n / 256 ^ j % 256 : Nat) : Int))) := HK.out.setCell (fun h => by have := hg.out; simp at h; omega) _
      have HK' := Lw.hid hkk
      clear hkk HK hl
      have hq : many - 1 - j < many := by omega
      have hqi : ((many - 1 - j : Nat) : Int) = (many : Int) - 1 - j := by omega
      generalize hyy : n / 256 ^ j = y at *
      clear hyy
      rw [show ((y % 256 : Nat) : Int) = (y : Int) % 256 by omega] at HS HK'
      go_wp2_with fail
      go_roundw
      case rel => exact ⟨j + 1, by omega, by congr 1; omega, by rw [HD.out]; rfl, HS.out, HK'.out⟩
      case measure => simp [intOf]; omega
    · obtain rfl : j = many := by omega
      have e0 : numRow j j n = be j n := by simp [numRow]
      rw [e0] at HO
      go_wp2_with fail
      go_ret
      exact ⟨_, rfl, HO.out, HK.out, fun k hk => by have e : k = g := blk_some hk; have := hg.out; omega⟩
set_option maxHeartbeats 1000000 in
theorem refText_any (w : World) (s : ByteArray) (hs : s.size ≤ 65535) :
    Calls Tryd.prog 61 #[.string s] w fun e w' => ∃ v, e = .returned (.tuple #[v, .int .i64 0]) ∧ w'.ownsRow 0 5 1 v (be 2 s.size ++ s.data.toList).length ((be 2 s.size ++ s.data.toList).map bv) ∧ Kept (fun _ => False) w w' ∧ ∀ k, blk v k → w.heap.size ≤ k := by
  obtain ⟨i, hi, hz0, hz1, hz2⟩ := infoB
  go_enter Tryd.func61, Tryd.ntmps61
  go_wp2_with fail
  refine (number_any w s.size 2 (by omega) (by omega)).mono ?_
  rintro e w1 ⟨v, rfl, ho, hk, hb⟩
  have HO := Lw.hid ho; have HK := Lw.hid hk; have HB := Lw.hid hb
  clear ho hk hb
  go_wp2_with (at_builtin; refine wpList_apps rfl _ _ _ _ rfl Tryd.underlying22 Tryd.underlying9 hi hz0 hz1 hz2 v 2 _ rfl HO.out s rfl (by omega) ?_; intro ad cap w2 ho2 hg2 hf2)
  go_ret2
  have hl : (be 2 s.size ++ s.data.toList).length = 2 + s.size := by simp [be_length]
  rw [hl, List.map_append]
  refine ⟨.slice ad (2 + s.size) cap, rfl, ho2, HK.out.grown hg2 (fun k hk hl => ?_), fun k hk => ?_⟩
  · have := HB.out k hk; omega
  · rcases hf2 k hk with h | h
    · exact HB.out k h
    · exact Nat.le_trans HK.out.size h
end Go.Proofs.YtcmipliglcakdaaDoor
