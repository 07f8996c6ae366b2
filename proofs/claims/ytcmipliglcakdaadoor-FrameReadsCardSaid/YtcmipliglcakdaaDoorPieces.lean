/- Rows of pieces: how they read; the first so many of them ('few'). -/
import Derived.Test.YtcmipliglcakdaaDoorChecked
import Derived.Test.YtcmipliglcakdaaDoorLib
namespace Go.Proofs.YtcmipliglcakdaaDoor
open Go Go.RowKit Go.Lw
set_option maxRecDepth 100000
structure Piece where
  what : Int
  n : Nat
  text : ByteArray
def Piece.cells (p : Piece) : List Value := [.int .i64 p.what, .int .u64 (p.n : Int), .string p.text]
def Piece.ok (p : Piece) : Prop := -9223372036854775808 ≤ p.what ∧ p.what ≤ 9223372036854775807 ∧ p.n < 18446744073709551616 ∧ p.text.size ≤ maxLen
def Piece.short (p : Piece) : Piece := { p with text := p.text.extract 0 (min p.text.size 100) }
def fewL (most : Nat) (l : List Piece) : List Piece := (l.take most).map Piece.short
def RdP (w : World) (v : Value) (l : List Piece) : Prop := Rd w 3 v l.length (l.flatMap Piece.cells) ∧ ∀ p ∈ l, p.ok
theorem EP : ElemT Tryd.prog 27 35 3 32 := by
  refine ElemT.of (z := .agg #[.int .i64 0, .int .u64 0, .string ByteArray.empty]) Tryd.underlying27 ?_ rfl (by decide)
  kernel_rfl
theorem fewL_snoc (most : Nat) (l : List Piece) (k : Nat) (hk : k < l.length) : fewL most (l.take (k + 1)) = if k < most then fewL most (l.take k) ++ [l[k].short] else fewL most (l.take k) := by
  unfold fewL
  rw [take_snoc l k hk, List.take_append, List.map_append]
  have hl : (l.take k).length = k := by rw [List.length_take]; omega
  rw [hl]
  split
  · rw [List.take_of_length_le (show [l[k]].length ≤ most - k by simp; omega)]; rfl
  · rw [show most - k = 0 by omega]; simp
theorem fewL_len (most : Nat) (l : List Piece) : (fewL most l).length ≤ most := by unfold fewL; simp; omega
theorem few_rel {w wr w1 : World} {A B : Obj} {a ad : Option Addr} {n c cap : Nat} (hb : Below w.heap.size w wr) (hf : ∀ b, blk (.slice a n c) b → w.heap.size ≤ b)
    (hg : ((wr.alloc A).alloc B).grownBy w1 (Value.slice a n c).ownBlock) (hfr : Fresh ((wr.alloc A).alloc B) (.slice a n c) (.slice ad (n + 1) cap)) :
    Below w.heap.size w w1 ∧ ∀ b, blk (.slice ad (n + 1) cap) b → w.heap.size ≤ b := by
  have hz := hb.size
  refine ⟨((hb.alloc hz A).alloc (by simp; omega) B).grown hg (by simp; omega) (fun k hk => hf k hk), fun b hb' => ?_⟩
  rcases hfr b hb' with h | h
  · exact hf b h
  · simp at h; omega
set_option maxHeartbeats 1000000 in
theorem few_any (w : World) (x : Value) (l : List Piece) (most : Nat) (hm : most ≤ 1000) (hx : RdP w x l) :
    Calls Tryd.prog 17 #[x, .int .i64 (most : Int)] w fun e w' => ∃ v, e = .returned v ∧ w'.ownsRow 0 35 3 v (fewL most l).length ((fewL most l).flatMap Piece.cells) ∧ Below w.heap.size w w' ∧ ∀ b, blk v b → w.heap.size ≤ b := by
  obtain ⟨hr, hok⟩ := hx
  obtain ⟨hlx, ad, cap, rfl, h1, h2, hc⟩ := id hr
  have HR := Lw.hid hr
  have HOK := Lw.hid hok
  clear hlx hc hok hr
  unfold maxLen at h2
  go_enter Tryd.func17, Tryd.ntmps17
  go_wp2
  go_loopw [5, 10] (fun v i wr => ∃ (k : Nat) (a : Option Addr) (c : Nat), k ≤ l.length ∧ i = .int .i64 k ∧ v = .slice a (fewL most (l.take k)).length c ∧ wr.ownsRow 0 35 3 v (fewL most (l.take k)).length ((fewL most (l.take k)).flatMap Piece.cells) ∧ Below w.heap.size w wr ∧ ∀ b, blk v b → w.heap.size ≤ b) (fun _ i _ => l.length - (intOf i).toNat)
  case atStart => exact ⟨0, none, 0, Nat.zero_le _, rfl, by simp [fewL], by simp [fewL]; exact World.ownsRow_nil _ _ _ _, Below.refl _ _, fun b h => by cases h⟩
  case round =>
    obtain ⟨k, a, c, hk, rfl, rfl, ho, hb, hf⟩ := hrel
    have HO := Lw.hid ho; have HB := Lw.hid hb; have HF := Lw.hid hf
    clear ho hb hf
    by_cases hlt : k < l.length
    · obtain ⟨g, off, rfl, c0, cj⟩ := HR.out.elem (fun _ _ => rfl) (by decide) k hlt
      have c1 := cj 1 (by decide)
      have c2 := cj 2 (by decide)
      clear cj
      simp only [Piece.cells, List.getElem?_cons_zero, List.getElem?_cons_succ] at c0 c1 c2
      have b0 := cell_below HB.out c0
      have b1 := cell_below HB.out c1
      have b2 := cell_below HB.out c2
      clear c0 c1 c2
      have HS := Lw.hid (fewL_snoc most l k hlt)
      have hfl := fewL_len most (l.take k)
      generalize fewL most (l.take k) = f at *
      by_cases hm : k < most
      · have HS' := Lw.hid (HS.out.trans (if_pos hm))
        clear HS
        by_cases ht : 100 < l[k].text.size
        · have HC : Hid (l[k].short.cells = [.int .i64 l[k].what, .int .u64 (l[k].n : Int), .string (l[k].text.extract 0 100)]) := by
            simp only [Hid, Piece.short, Piece.cells, show min l[k].text.size 100 = 100 by omega]
          go_wp2_with (at_builtin; refine wpList_app rfl _ _ _ rfl EP (.slice a f.length c) f.length _ rfl ((HO.out.alloc _).alloc _) _ 1 _ rfl (Rd.lit _ [.int .i64 l[k].what, .int .u64 (l[k].n : Int), .string (l[k].text.extract 0 100)] _ 3 _ 1 (by simp) rfl (by decide)) (oneCell3 rfl rfl rfl) (by unfold maxLen; omega) (by omega) ?_; intro ad' cap' w1 ho' hg' hf'; obtain ⟨hb1, hf1⟩ := few_rel HB.out HF.out hg' hf'; have HO' := Lw.hid ho'; have HB' := Lw.hid hb1; have HF' := Lw.hid hf1; clear ho' hb1 hf1 hg' hf')
          go_roundw
          case rel => exact ⟨k + 1, ad', cap', by omega, by go_num, by rw [HS'.out, List.length_append]; rfl, by rw [HS'.out, List.length_append, List.flatMap_append, List.flatMap_singleton, HC.out]; exact HO'.out, HB'.out, HF'.out⟩
          case measure => simp [intOf]; omega
        · have HC : Hid (l[k].short.cells = [.int .i64 l[k].what, .int .u64 (l[k].n : Int), .string l[k].text]) := by
            simp only [Hid, Piece.short, Piece.cells, show min l[k].text.size 100 = l[k].text.size by omega, ByteArray.extract_zero_size]
          go_wp2_with (at_builtin; refine wpList_app rfl _ _ _ rfl EP (.slice a f.length c) f.length _ rfl ((HO.out.alloc _).alloc _) _ 1 _ rfl (Rd.lit _ [.int .i64 l[k].what, .int .u64 (l[k].n : Int), .string l[k].text] _ 3 _ 1 (by simp) rfl (by decide)) (oneCell3 rfl rfl rfl) (by unfold maxLen; omega) (by omega) ?_; intro ad' cap' w1 ho' hg' hf'; obtain ⟨hb1, hf1⟩ := few_rel HB.out HF.out hg' hf'; have HO' := Lw.hid ho'; have HB' := Lw.hid hb1; have HF' := Lw.hid hf1; clear ho' hb1 hf1 hg' hf')
          go_roundw
          case rel => exact ⟨k + 1, ad', cap', by omega, by go_num, by rw [HS'.out, List.length_append]; rfl, by rw [HS'.out, List.length_append, List.flatMap_append, List.flatMap_singleton, HC.out]; exact HO'.out, HB'.out, HF'.out⟩
          case measure => simp [intOf]; omega
      · have HS' := Lw.hid (HS.out.trans (if_neg hm))
        clear HS
        go_wp2_with fail
        go_roundw
        case rel => exact ⟨k + 1, a, c, by omega, by go_num, by rw [HS'.out], by rw [HS'.out]; exact HO.out.alloc _, HB.out.alloc HB.out.size _, HF.out⟩
        case measure => simp [intOf]; omega
    · have hq : l.take k = l := List.take_of_length_le (by omega)
      rw [hq] at HO HF
      rw [hq]
      clear hq
      go_wp2_with fail
      go_ret
      exact ⟨_, rfl, HO.out, HB.out, HF.out⟩
end Go.Proofs.YtcmipliglcakdaaDoor
