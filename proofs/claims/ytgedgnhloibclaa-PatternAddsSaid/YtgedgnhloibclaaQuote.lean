/- pattern.Quote, longwireref21.Quote. -/
import Derived.Test.YtgedgnhloibclaaRefTop
import Derived.Test.YtgedgnhloibclaaBuild
import Derived.Test.YtgedgnhloibclaaShelf
namespace Go.Proofs.Ytgedgnhloibclaa
open Go Go.RowKit Go.Lw
set_option maxRecDepth 100000
set_option linter.unusedVariables false
attribute [local go_sem] BA_toList
/-- The bytes that have a meaning. -/
def spec (c : UInt8) : Bool := decide (c.toNat = 42) || decide (c.toNat = 63) || decide (c.toNat = 91) || decide (c.toNat = 92)
def quoteF : List UInt8 → List UInt8
  | [] => []
  | c :: l => (if spec c then [92, c] else [c]) ++ quoteF l
theorem quoteF_append (a b : List UInt8) : quoteF (a ++ b) = quoteF a ++ quoteF b := by
  induction a with
  | nil => rfl
  | cons c l ih => simp [quoteF, ih]
theorem quoteF_snoc {l : List UInt8} {k : Nat} {c : UInt8} (h : l[k]? = some c) : quoteF (l.take (k + 1)) = quoteF (l.take k) ++ (if spec c then [92, c] else [c]) := by
  have hk : k < l.length := by
    rcases Nat.lt_or_ge k l.length with h' | h'
    · exact h'
    · rw [List.getElem?_eq_none h'] at h; cases h
  rw [take_snoc l k hk, quoteF_append]
  rw [List.getElem?_eq_getElem hk] at h
  rw [Option.some.inj h]
  simp [quoteF]
theorem quoteF_len (l : List UInt8) : (quoteF l).length ≤ 2 * l.length := by
  induction l with
  | nil => simp [quoteF]
  | cons c l ih => rw [quoteF, List.length_append]; split <;> simp <;> omega
theorem spec_index : ∀ c : UInt8, (spec c = true → ∃ i : Nat, Lib.indexByte [42, 63, 91, 92] c = (i : Int)) ∧ (spec c = false → Lib.indexByte [42, 63, 91, 92] c = -1) := by
  intro c
  have h : ∀ (n : Nat), c.toNat = n → c = UInt8.ofNat n := fun n hn => by rw [← hn]; simp
  by_cases h1 : c.toNat = 42
  · obtain rfl := h _ h1; exact ⟨fun _ => ⟨0, rfl⟩, fun h => by revert h; decide⟩
  · by_cases h2 : c.toNat = 63
    · obtain rfl := h _ h2; exact ⟨fun _ => ⟨1, rfl⟩, fun h => by revert h; decide⟩
    · by_cases h3 : c.toNat = 91
      · obtain rfl := h _ h3; exact ⟨fun _ => ⟨2, rfl⟩, fun h => by revert h; decide⟩
      · by_cases h4 : c.toNat = 92
        · obtain rfl := h _ h4; exact ⟨fun _ => ⟨3, rfl⟩, fun h => by revert h; decide⟩
        · refine ⟨fun h => by simp [spec, h1, h2, h3, h4] at h, fun _ => ?_⟩
          have e : ∀ d : UInt8, d.toNat = 42 ∨ d.toNat = 63 ∨ d.toNat = 91 ∨ d.toNat = 92 → (d == c) = false := fun d hd => by
            apply beq_eq_false_iff_ne.2
            rintro rfl
            omega
          simp [Lib.indexByte, e 42 (by decide), e 63 (by decide), e 91 (by decide), e 92 (by decide)]
theorem special_yes (c : UInt8) (h : spec c = true) (w : World) : Calls Try.prog 31 #[.string ⟨#[42, 63, 91, 92]⟩, .int .u8 (c.toNat : Int)] w fun e w' => ∃ i : Nat, e = .returned (.int .i64 (i : Int)) ∧ w = w' := by
  refine (Try.strings_IndexByte _ _ w).mono ?_
  rintro e w' ⟨rfl, rfl⟩
  obtain ⟨i, hi⟩ := (spec_index c).1 h
  refine ⟨i, ?_, rfl⟩
  have : ((c.toNat : Int).toNat).toUInt8 = c := by simp
  rw [this]
  rw [show (⟨#[42, 63, 91, 92]⟩ : ByteArray).data.toList = [42, 63, 91, 92] from rfl, hi]
theorem special_no (c : UInt8) (h : spec c = false) (w : World) : Calls Try.prog 31 #[.string ⟨#[42, 63, 91, 92]⟩, .int .u8 (c.toNat : Int)] w fun e w' => e = .returned (.int .i64 (-1)) ∧ w = w' := by
  refine (Try.strings_IndexByte _ _ w).mono ?_
  rintro e w' ⟨rfl, rfl⟩
  refine ⟨?_, rfl⟩
  have : ((c.toNat : Int).toNat).toUInt8 = c := by simp
  rw [this]
  rw [show (⟨#[42, 63, 91, 92]⟩ : ByteArray).data.toList = [42, 63, 91, 92] from rfl, (spec_index c).2 h]
set_option maxHeartbeats 4000000 in
theorem quote_any (w : World) (l : List UInt8) (hl : l.length ≤ 100000) :
    Calls Try.prog 20 #[.string (BA l)] w fun e w' => e = .returned (.string (BA (quoteF l))) ∧ Kept (fun _ => False) w w' := by
  have hs := BA_size l
  obtain ⟨n, hn⟩ : ∃ n, l.length = n := ⟨_, rfl⟩
  have HN := Lw.hid hn
  rw [hn] at hs hl
  clear hn
  have hz1 : w.heap.size + 1 ≤ w.heap.size + 1 := Nat.le_refl _
  go_enter Try.func20, Try.ntmps20
  go_wp2_with fail
  go_loopg [7] n (fun gk s7 wx => ∃ k : Nat, gk = n - k ∧ k ≤ n ∧ s7 = .int .i64 (k : Int) ∧ IsB w.heap.size w.heap.size (quoteF (l.take k)) wx ∧ Below w.heap.size w wx)
  case atStart => exact ⟨0, rfl, Nat.zero_le _, rfl, Lib.fresh_isBuilder _ _ w, (Below.refl _ w).alloc (Nat.le_refl _) _⟩
  case round =>
    obtain ⟨k, rfl, hk, rfl, hb, hbl⟩ := hrel
    have HB := Lw.hid hb; have HBL := Lw.hid hbl
    have hsz := hbl.size
    clear hb hbl
    by_cases hlt : k < n
    · obtain ⟨c, hc⟩ : ∃ c, l[k]? = some c := ⟨_, List.getElem?_eq_getElem (by rw [HN.out]; exact hlt)⟩
      have g0 := BA_get hc
      have HQ := Lw.hid (quoteF_snoc hc)
      have HLQ : Hid ((quoteF (l.take k)).length + 4 ≤ 1000000) := Lw.hid (by
        have h1 := quoteF_len (l.take k)
        have h2 : (l.take k).length ≤ k := List.length_take_le _ _
        omega)
      clear hc
      cases hsp : spec c with
      | true =>
        rw [hsp] at HQ
        have HSP := Lw.hid hsp
        clear hsp
        go_wp2_with fail
        refine (special_yes c HSP.out _).mono ?_
        rintro e _ ⟨i, rfl, rfl⟩
        go_wp2_with fail
        refine (writeByte_any w.heap.size w.heap.size (quoteF (l.take k)) 92 _ HB.out (by have := HLQ.out; omega) hsz).mono ?_
        rintro e w1 ⟨rfl, hb1, hk1⟩
        have HB1 := Lw.hid hb1; have HK1 := Lw.hid (HBL.out.trans hk1)
        have hsz1 := (HBL.out.trans hk1).size
        clear hb1 hk1
        go_wp2_with fail
        refine (writeByte_any w.heap.size w.heap.size (quoteF (l.take k) ++ [92]) c _ HB1.out (by have := HLQ.out; rw [List.length_append]; simp; omega) hsz1).mono ?_
        rintro e w2 ⟨rfl, hb2, hk2⟩
        have HB2 := Lw.hid hb2; have HK2 := Lw.hid (HK1.out.trans hk2)
        clear hb2 hk2
        go_wp2_with fail
        go_roundg (n - (k + 1))
        case measure => omega
        case rel => exact ⟨k + 1, rfl, by omega, by go_num, by rw [HQ.out]; have := HB2.out; simpa using this, HK2.out⟩
      | false =>
        rw [hsp] at HQ
        have HSP := Lw.hid hsp
        clear hsp
        go_wp2_with fail
        refine (special_no c HSP.out _).mono ?_
        rintro e _ ⟨rfl, rfl⟩
        go_wp2_with fail
        refine (writeByte_any w.heap.size w.heap.size (quoteF (l.take k)) c _ HB.out (by have := HLQ.out; omega) hsz).mono ?_
        rintro e w1 ⟨rfl, hb1, hk1⟩
        have HB1 := Lw.hid hb1; have HK1 := Lw.hid (HBL.out.trans hk1)
        clear hb1 hk1
        go_wp2_with fail
        go_roundg (n - (k + 1))
        case measure => omega
        case rel => exact ⟨k + 1, rfl, by omega, by go_num, by rw [HQ.out]; have := HB1.out; simpa using this, HK1.out⟩
    · obtain rfl : k = n := by omega
      have HT : Hid (l.take k = l) := Lw.hid (List.take_of_length_le (by rw [HN.out]; exact Nat.le_refl _))
      rw [HT.out] at HB
      go_wp2_with fail
      refine (Try.Builder_String_any _ _ (quoteF l) _ HB.out hsz).mono ?_
      rintro e w1 ⟨rfl, hk1⟩
      have HK1 := Lw.hid (HBL.out.trans hk1)
      clear hk1
      go_wp2_with fail
      go_ret
      exact ⟨rfl, (Kept.of_below HK1.out).mono (fun k hk h => by omega)⟩
end Go.Proofs.Ytgedgnhloibclaa
