/- bytes.Equal, and the examples that every statement of scribe's asks. -/
import Derived.Test.YtcmipliglcakdaaDoorWriter
import Derived.Test.YtcmipliglcakdaaDoorCrc
namespace Go.Proofs.YtcmipliglcakdaaDoor
open Go Go.RowKit Go.Lw
set_option maxRecDepth 100000
theorem toList_mk (l : List UInt8) : (⟨l.toArray⟩ : ByteArray).toList = l := by
  rw [ByteArray.toList_eq]
set_option maxHeartbeats 400000 in
theorem equal_any (w : World) (x y : Value) (l m : List UInt8) (hx : RdB w x l) (hy : RdB w y m) (b : Bool) (hb : (l == m) = b) :
    Calls Tryd.prog 21 #[x, y] w fun e w' => e = .returned (.bool b) ∧ w = w' := by
  have HX := Lw.hid hx
  have HY := Lw.hid hy
  have HB := Lw.hid hb
  clear hx hy hb
  go_enter Tryd.func21, Tryd.ntmps21
  go_wp2_with (first | (refine wpList_str rfl _ _ _ rfl _ l rfl HX.out Tryd.underlying22 Tryd.underlying5 Tryd.underlying9 ?_) | (refine wpList_str rfl _ _ _ rfl _ m rfl HY.out Tryd.underlying22 Tryd.underlying5 Tryd.underlying9 ?_))
  go_ret
  exact ⟨by rw [← HB.out]; rfl, rfl⟩
theorem WriterAt.new (w : World) : WriterAt (w.alloc (.cells #[.slice none 0 0, .int .i64 0] 30)) w.heap.size (.slice none 0 0) [] 0 :=
  ⟨⟨_, heap_alloc _ _⟩, World.ownsRow_nil _ 0 _ 1, fun h => by cases h⟩
set_option maxHeartbeats 800000 in
theorem wakes_any (w : World) (ht : Tab w) : Calls Tryd.prog 16 #[] w fun e w' => e = .returned (.bool true) ∧ Below w.heap.size w w' := by
  have HT := Lw.hid ht
  clear ht
  go_enter Tryd.func16, Tryd.ntmps16
  go_wp2_with fail
  refine (two_any _ _ _ [] _ 513 rfl (by decide) (WriterAt.new w) (by decide)).mono ?_
  rintro e w1 ⟨rfl, hp1⟩
  obtain ⟨v1, h1, k1⟩ := two_then hp1
  have H1 := Lw.hid h1; have K1 := Lw.hid k1
  clear h1 k1 hp1
  go_wp2_with fail
  refine (text_any _ _ _ _ _ (by decide) H1.out (by decide)).mono ?_
  rintro e w2 ⟨rfl, hp2⟩
  obtain ⟨v2, h2, k2⟩ := two_then (K1.out _ _ _ hp2)
  have H2 := Lw.hid h2; have K2 := Lw.hid k2
  clear h2 k2 hp2 H1 K1
  go_wp2_with fail
  refine (done_any _ _ _ _ H2.out (by decide)).mono ?_
  rintro e w3 ⟨r, rfl, hp3⟩
  have hb := (K2.out _ _ _ hp3.wr).below
  obtain ⟨v3, _, _, _, hr, fr⟩ := hp3
  have HB := Lw.hid hb; have HR := Lw.hid hr
  have HT3 := Lw.hid (HT.out.below hb)
  clear hr fr hb H2 K2 HT
  go_wp2_with fail
  refine (equal_any _ _ _ _ [2, 1, 0, 2, 97, 98] ((Rd.own HR.out).alloc _) (RdB.lit w3 [2, 1, 0, 2, 97, 98] _ 6 rfl (by decide)) true (by decide)).mono ?_
  rintro e w4 ⟨rfl, rfl⟩
  go_wp2_with (refine wpList_const rfl _ _ rfl _ _ _ _ rfl (by simp) Tryd.underlying22 Tryd.underlying5 ?_)
  refine (crc_any _ [49, 50, 51, 52, 53, 54, 55, 56, 57] _ (RdB.mark _ [49, 50, 51, 52, 53, 54, 55, 56, 57] _ _ _ 9 (by simp) rfl (by decide)) ?_).mono ?_
  · exact (HT3.out.below ((Below.refl _ w3).alloc (Nat.le_refl _) _)).below ((Below.refl _ _).alloc (Nat.le_refl _) _)
  rintro e w4 ⟨rfl, rfl⟩
  have ec : crcN [49, 50, 51, 52, 53, 54, 55, 56, 57] = 3421780262 := by decide
  rw [ec]
  clear ec
  go_wp2_with fail
  go_ret
  exact ⟨rfl, (HB.out.alloc HB.out.size _).alloc (Nat.le_trans HB.out.size (by simp)) _⟩
end Go.Proofs.YtcmipliglcakdaaDoor
