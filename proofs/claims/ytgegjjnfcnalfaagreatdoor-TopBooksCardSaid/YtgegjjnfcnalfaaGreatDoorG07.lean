/- Of the proof of TopBooks: Reader. -/
import Derived.Test.YtgegjjnfcnalfaaGreatDoorG01
import Derived.Test.YtgegjjnfcnalfaaGreatDoorG02
import Derived.Test.YtgegjjnfcnalfaaGreatDoorG06
namespace Go.Proofs.YtgegjjnfcnalfaaGreatDoor
open Go Go.RowKit Go.Lw
set_option maxRecDepth 100000
def ReaderAt (w : World) (br : Nat) (v : Value) (r : Rdr) : Prop :=
  (∃ T, w.heap[br]? = some (.cells #[v, .bool r.short] T (0, 0))) ∧ RdB w v r.l ∧ ¬ blk v br ∧ r.l.length ≤ 70368744177664 ∧ r.ok
def RdPost (w w' : World) (br : Nat) (v : Value) (r : Rdr) : Prop :=
  ∃ v', ReaderAt w' br v' r ∧ Kept (fun k => k = br) w w' ∧ ∀ k, blk v' k → blk v k
theorem ReaderAt.refl {w : World} {br : Nat} {v : Value} {r : Rdr} (h : ReaderAt w br v r) : RdPost w w br v r := ⟨v, h, Kept.refl _ _, fun _ h => h⟩
theorem ReaderAt.lt {w : World} {br : Nat} {v : Value} {r : Rdr} (h : ReaderAt w br v r) : br < w.heap.size := by
  obtain ⟨⟨T, hh⟩, _⟩ := h; exact heap_lt hh
theorem ReaderAt.kept {S : Nat → Prop} {w w' : World} (hk : Kept S w w') {br : Nat} {v : Value} {r : Rdr} (h : ReaderAt w br v r) (h1 : ¬ S br) (h2 : ∀ g, blk v g → ¬ S g) : ReaderAt w' br v r := by
  obtain ⟨⟨T, hh⟩, ho, hd, hl⟩ := h
  exact ⟨⟨T, hk.heap hh h1⟩, ho.kept hk h2, hd, hl⟩
theorem RdPost.trans {a b c : World} {br : Nat} {v v1 : Value} {r : Rdr} (h1 : Kept (fun k => k = br) a b) (h2 : ∀ k, blk v1 k → blk v k) (h : RdPost b c br v1 r) : RdPost a c br v r := by
  obtain ⟨v', k1, k2, k3⟩ := h
  exact ⟨v', k1, h1.trans k2 (fun _ _ h => h), fun k hk => h2 k (k3 k hk)⟩
theorem rd_then {w w' : World} {br : Nat} {v : Value} {r : Rdr} (h : RdPost w w' br v r) : ∃ v1, ReaderAt w' br v1 r ∧ (∀ r' w'', RdPost w' w'' br v1 r' → RdPost w w'' br v r') := by
  obtain ⟨v1, h1, h2, h3⟩ := h
  exact ⟨v1, h1, fun r' w'' hp => RdPost.trans h2 h3 hp⟩
set_option maxHeartbeats 400000 in
theorem new_any (w : World) (src : Value) (l : List UInt8) (hs : RdB w src l) (hlen : l.length ≤ 70368744177664) :
    Calls Tryz.prog 58 #[src] w fun e w' => ∃ br v, e = .returned (.pointer (some ⟨br, 0, none⟩)) ∧ ReaderAt w' br v ⟨l, false⟩ ∧ Kept (fun _ => False) w w' ∧ w.heap.size ≤ br ∧ ∀ k, blk v k → w.heap.size ≤ k ∧ k < w'.heap.size := by
  have HS := Lw.hid hs
  clear hs
  go_enter Tryz.func58, Tryz.ntmps58
  go_wp2_with fail
  refine (clone_any w src l HS.out hlen).mono ?_
  rintro e w1 ⟨v, rfl, ho, hk, hf⟩
  obtain ⟨ad, cap, rfl, _⟩ := own_slice ho
  have HO := Lw.hid ho
  have HK := Lw.hid hk
  have HF := Lw.hid hf
  clear ho hk hf
  go_wp2_with fail
  go_ret
  refine ⟨w1.heap.size, .slice ad l.length cap, rfl, ⟨⟨_, heap_alloc _ _⟩, Rd.alloc (Rd.own HO.out) _, fun e => ?_, hlen, fun h => by cases h⟩, HK.out.alloc _, HK.out.size, fun k hk => ⟨HF.out k hk, by have := own_lt HO.out k hk; simp; omega⟩⟩
  have := own_lt HO.out _ e
  omega
theorem take_short {r : Rdr} (n : Nat) (h : r.short = true) : r.take n = ([], r) := by unfold Rdr.take; rw [if_pos h]
theorem take_out {r : Rdr} (n : Nat) (h : r.short = false) (hn : r.l.length < n) : r.take n = ([], ⟨[], true⟩) := by unfold Rdr.take; rw [if_neg (by simp [h]), if_pos hn]
theorem take_in {r : Rdr} (n : Nat) (h : r.short = false) (hn : n ≤ r.l.length) : r.take n = (r.l.take n, ⟨r.l.drop n, false⟩) := by unfold Rdr.take; rw [if_neg (by simp [h]), if_neg (by omega)]
set_option maxHeartbeats 1000000 in
theorem take_any (w : World) (br : Nat) (v : Value) (r : Rdr) (x : Int) (n : Nat) (hx : x = n) (hn : n ≤ 9223372036854775807) (h : ReaderAt w br v r) :
    Calls Tryz.prog 91 #[.pointer (some ⟨br, 0, none⟩), .int .i64 x] w fun e w' => ∃ out, e = .returned out ∧ RdB w' out (r.take n).1 ∧ RdPost w w' br v (r.take n).2 ∧ ∀ k, blk out k → w.heap.size ≤ k := by
  subst hx
  obtain ⟨l, s⟩ := r
  have H := Lw.hid h
  obtain ⟨⟨T, hh⟩, hr, hd, hl, hok⟩ := h
  simp only at hh hr hl
  obtain ⟨ad, cap, rfl, hc1, hc2, _⟩ := hr.open
  unfold maxLen at hc2
  have c0 : w.cell? ⟨br, 0, none⟩ = some (.slice ad l.length cap) := heap_cell hh 0
  have c1 : w.cell? ⟨br, 1, none⟩ = some (.bool s) := heap_cell hh 1
  have f0 := heap_free hh 0
  have f1 := heap_free hh 1
  have HH := Lw.hid hh
  have HR := Lw.hid hr
  have HOK := Lw.hid hok
  clear hh hr hok
  have hn0 : (0 : Int) ≤ (n : Int) := by omega
  cases s with
  | true =>
    have HT := Lw.hid (take_short (r := ⟨l, true⟩) n rfl)
    go_enter Tryz.func91, Tryz.ntmps91
    go_wp2_with fail
    all_goals (go_ret; exact ⟨_, rfl, by rw [HT.out]; exact RdB.nil _, by rw [HT.out]; exact H.out.refl, fun k h => (blk_none h).elim⟩)
  | false =>
    by_cases hlt : l.length < n
    · have HT := Lw.hid (take_out (r := ⟨l, false⟩) n rfl hlt)
      have hw2 : ((w.setCell ⟨br, 0, none⟩ (.slice none 0 0)).setCell ⟨br, 1, none⟩ (.bool true)).heap[br]? = some (.cells #[.slice none 0 0, .bool true] T (0, 0)) :=
        heap_set (heap_set HH.out 0 (.slice none 0 0)) 1 (.bool true)
      have HW := Lw.hid hw2
      clear hw2
      go_enter Tryz.func91, Tryz.ntmps91
      go_wp2_with fail
      all_goals (go_ret; refine ⟨_, rfl, by rw [HT.out]; exact RdB.nil _, by rw [HT.out]; exact ⟨_, ⟨⟨T, HW.out⟩, RdB.nil _, fun h => blk_none h, by simp, fun _ => rfl⟩, ((Kept.refl (fun k => k = br) w).set br 0 (fun _ => rfl) _).set br 1 (fun _ => rfl) _, fun k h => (blk_none h).elim⟩, fun k h => (blk_none h).elim⟩)
    · have HT := Lw.hid (take_in (r := ⟨l, false⟩) n rfl (by simpa using hlt))
      have hle : n ≤ l.length := by omega
      go_enter Tryz.func91, Tryz.ntmps91
      go_wp2_with (refine wpList_slice_h rfl _ _ _ rfl EB _ l.length _ _ _ n rfl rfl HR.out rfl hle ?_; intro ad1 cap1 hr1 hb1)
      refine (clone_any w _ (l.take n) (RdB.of_take hle hr1) (by rw [List.length_take]; omega)).mono ?_
      rintro e w1 ⟨out, rfl, ho, hk, hf⟩
      have HO := Lw.hid ho; have HK := Lw.hid hk; have HF := Lw.hid hf
      have hh1 := hk.heap HH.out (fun h => h)
      have HH1 := Lw.hid hh1
      have d0 : w1.cell? ⟨br, 0, none⟩ = some (.slice ad l.length cap) := heap_cell hh1 0
      have d1 : w1.cell? ⟨br, 1, none⟩ = some (.bool false) := heap_cell hh1 1
      have e0 := heap_free hh1 0
      have HR1 := Lw.hid (HR.out.kept hk (fun _ _ h => h))
      clear ho hk hf hh1 c0 c1 f0 f1 hr1 hb1
      go_wp2_with (refine wpList_slice_l rfl _ _ _ rfl EB _ l.length _ _ _ n rfl rfl HR1.out rfl hle ?_; intro ad2 cap2 hr2 hb2; have HR2 := Lw.hid hr2; have HB2 := Lw.hid hb2; clear hr2 hb2)
      go_ret
      have hb : RdB w1 (.slice ad2 (l.length - n) cap2) (l.drop n) := RdB.of_drop HR2.out
      refine ⟨out, rfl, ?_, ?_, HF.out⟩
      · rw [HT.out]
        have ho' : RdB w1 out (l.take n) := RdB.of_own HO.out rfl
        refine Rd.kept (S := fun k => k = br) ((Kept.refl (fun k => k = br) w1).set br 0 (fun _ => rfl) _) ho' (fun k hk e => ?_)
        have h1 := HF.out k hk
        have h2 := heap_lt HH.out
        omega
      · rw [HT.out]
        refine ⟨.slice ad2 (l.length - n) cap2, ⟨⟨T, heap_set HH1.out 0 _⟩, Rd.kept (S := fun k => k = br) ((Kept.refl (fun k => k = br) w1).set br 0 (fun _ => rfl) _) hb (fun k hk e => hd (e ▸ HB2.out k hk)), fun e => hd (HB2.out _ e), by rw [List.length_drop]; omega, fun h => by cases h⟩, (HK.out.mono (S' := fun k => k = br) (fun _ _ h => h.elim)).set br 0 (fun _ => rfl) _, fun k hk => HB2.out k hk⟩
theorem or_byte (n c : Nat) (hn : n * 256 < 18446744073709551616) (hc : c < 256) : bits .or .u64 ((n : Int) * 256) (c : Int) = ((n * 256 + c : Nat) : Int) := by
  have e : ((n : Int) * 256) = ((n * 256 : Nat) : Int) := by omega
  rw [e, u64_or_nat _ _ hn (by omega), nat_join 8 _ _ (by omega) (by omega)]
set_option maxHeartbeats 1000000 in
theorem num_any (w : World) (br : Nat) (v : Value) (r : Rdr) (many : Nat) (hm : many ≤ 8) (h : ReaderAt w br v r) :
    Calls Tryz.prog 93 #[.pointer (some ⟨br, 0, none⟩), .int .i64 (many : Int)] w fun e w' => e = .returned (.int .u64 (((r.num many).1 : Nat) : Int)) ∧ RdPost w w' br v (r.num many).2 := by
  have H := Lw.hid h
  clear h
  go_enter Tryz.func93, Tryz.ntmps93
  go_wp2_with fail
  refine (take_any w br v r _ many rfl (by omega) H.out).mono ?_
  rintro e w1 ⟨out, rfl, ho, hp, hf⟩
  have hl := r.take_len many
  have HP : Hid (RdPost w w1 br v (r.num many).2) := hp
  have HN : Hid ((r.num many).1 = beVal (r.take many).1) := Lw.hid rfl
  generalize (r.take many).1 = l at *
  obtain ⟨ad, cap, rfl, hc1, hc2, hc⟩ := ho.open
  have HC := Lw.hid hc
  clear ho hp hf hc H
  unfold maxLen at hc2
  go_wp2_with fail
  go_loop [5, 12] (fun x i => ∃ k : Nat, k ≤ l.length ∧ i = .int .i64 k ∧ x = .int .u64 ((beVal (l.take k) : Nat) : Int)) (fun _ i => l.length - (intOf i).toNat)
  case atStart => exact ⟨0, Nat.zero_le _, rfl, rfl⟩
  case round =>
    obtain ⟨k, hk, rfl, rfl⟩ := hrel
    by_cases hlt : k < l.length
    · have HS : Hid (beVal (l.take (k + 1)) = beVal (l.take k) * 256 + l[k].toNat) := Lw.hid (by rw [take_snoc _ _ hlt]; exact beVal_snoc _ _)
      obtain ⟨g, off, rfl, hcell⟩ := HC.out k hlt
      have hcb := l[k].toNat_lt
      have hb : beVal (l.take k) * 256 < 18446744073709551616 := by
        have h1 := beVal_lt (l.take k)
        have h2 : (l.take k).length ≤ 7 := by rw [List.length_take]; omega
        have h3 : 256 ^ (l.take k).length ≤ 256 ^ 7 := Nat.pow_le_pow_right (by decide) h2
        have : (256 : Nat) ^ 7 = 72057594037927936 := by decide
        omega
      have ho := or_byte (beVal (l.take k)) l[k].toNat hb hcb
      generalize beVal (l.take k) = n at *
      generalize l[k].toNat = c at *
      go_wp2_with fail
      go_round
      case rel => exact ⟨k + 1, by omega, by go_num, by rw [HS.out]; rfl⟩
      case measure => simp [intOf]; omega
    · have hq : l.take k = l := List.take_of_length_le (by omega)
      rw [hq]
      clear hq
      go_wp2_with fail
      go_ret
      exact ⟨by rw [HN.out]; rfl, HP.out⟩
set_option maxHeartbeats 400000 in
theorem rbyte_any (w : World) (br : Nat) (v : Value) (r : Rdr) (h : ReaderAt w br v r) :
    Calls Tryz.prog 59 #[.pointer (some ⟨br, 0, none⟩)] w fun e w' => e = .returned (.int .u8 (((r.num 1).1 : Nat) : Int)) ∧ RdPost w w' br v (r.num 1).2 := by
  have H := Lw.hid h
  clear h
  go_enter Tryz.func59, Tryz.ntmps59
  go_wp2_with fail
  refine (num_any w br v r 1 (by omega) H.out).mono ?_
  rintro e w1 ⟨rfl, hp⟩
  have HP := Lw.hid hp
  have hb := r.num_lt 1
  simp only [Nat.reducePow] at hb
  generalize hgn : (r.num 1).1 = n at *
  have HN := Lw.hid hgn
  clear hgn
  clear hp
  go_wp2_with fail
  go_ret
  exact ⟨by rw [HN.out]; rfl, HP.out⟩
set_option maxHeartbeats 400000 in
theorem rtwo_any (w : World) (br : Nat) (v : Value) (r : Rdr) (h : ReaderAt w br v r) :
    Calls Tryz.prog 90 #[.pointer (some ⟨br, 0, none⟩)] w fun e w' => e = .returned (.int .u16 (((r.num 2).1 : Nat) : Int)) ∧ RdPost w w' br v (r.num 2).2 := by
  have H := Lw.hid h
  clear h
  go_enter Tryz.func90, Tryz.ntmps90
  go_wp2_with fail
  refine (num_any w br v r 2 (by omega) H.out).mono ?_
  rintro e w1 ⟨rfl, hp⟩
  have HP := Lw.hid hp
  have hb := r.num_lt 2
  simp only [Nat.reducePow] at hb
  have hw : IntKind.u16.wrap (((r.num 2).1 : Nat) : Int) = (((r.num 2).1 : Nat) : Int) := by rw [IntKind.wrap_u16]; omega
  generalize hgn : (r.num 2).1 = n at *
  have HN := Lw.hid hgn
  clear hgn
  clear hp
  go_wp2_with fail
  go_ret
  exact ⟨by rw [HN.out]; rfl, HP.out⟩
set_option maxHeartbeats 400000 in
theorem rfour_any (w : World) (br : Nat) (v : Value) (r : Rdr) (h : ReaderAt w br v r) :
    Calls Tryz.prog 60 #[.pointer (some ⟨br, 0, none⟩)] w fun e w' => e = .returned (.int .u32 (((r.num 4).1 : Nat) : Int)) ∧ RdPost w w' br v (r.num 4).2 := by
  have H := Lw.hid h
  clear h
  go_enter Tryz.func60, Tryz.ntmps60
  go_wp2_with fail
  refine (num_any w br v r 4 (by omega) H.out).mono ?_
  rintro e w1 ⟨rfl, hp⟩
  have HP := Lw.hid hp
  have hb := r.num_lt 4
  simp only [Nat.reducePow] at hb
  have hw : IntKind.u32.wrap (((r.num 4).1 : Nat) : Int) = (((r.num 4).1 : Nat) : Int) := by rw [IntKind.wrap_u32]; omega
  generalize hgn : (r.num 4).1 = n at *
  have HN := Lw.hid hgn
  clear hgn
  clear hp
  go_wp2_with fail
  go_ret
  exact ⟨by rw [HN.out]; rfl, HP.out⟩
set_option maxHeartbeats 400000 in
theorem rtext_any (w : World) (br : Nat) (v : Value) (r : Rdr) (h : ReaderAt w br v r) :
    Calls Tryz.prog 61 #[.pointer (some ⟨br, 0, none⟩)] w fun e w' => e = .returned (.string ⟨(r.text).1.toArray⟩) ∧ RdPost w w' br v (r.text).2 := by
  have H := Lw.hid h
  clear h
  go_enter Tryz.func61, Tryz.ntmps61
  go_wp2_with fail
  refine (rtwo_any w br v r H.out).mono ?_
  rintro e w1 ⟨rfl, hp⟩
  obtain ⟨v1, h1, k1⟩ := rd_then hp
  have H1 := Lw.hid h1
  have K1 := Lw.hid k1
  have hb := r.num_lt 2
  simp only [Nat.reducePow] at hb
  have HT : Hid (r.text = (r.num 2).2.take (r.num 2).1) := Lw.hid rfl
  generalize (r.num 2).1 = n at *
  generalize (r.num 2).2 = r1 at *
  clear hp h1 k1
  go_wp2_with fail
  refine (take_any w1 br v1 r1 _ n rfl (by omega) H1.out).mono ?_
  rintro e w2 ⟨out, rfl, ho, hp2, hf⟩
  have HO := Lw.hid ho
  have HP := Lw.hid (K1.out _ _ hp2)
  clear ho hp2 hf
  go_wp2_with (refine wpList_str rfl _ _ _ rfl _ _ rfl HO.out Tryz.underlying36 Tryz.underlying5 Tryz.underlying9 ?_)
  go_ret
  exact ⟨by rw [HT.out]; rfl, by rw [HT.out]; exact HP.out⟩
set_option maxHeartbeats 400000 in
theorem left_any (w : World) (br : Nat) (v : Value) (r : Rdr) (h : ReaderAt w br v r) :
    Calls Tryz.prog 65 #[.pointer (some ⟨br, 0, none⟩)] w fun e w' => e = .returned (.int .i64 (r.l.length : Int)) ∧ w = w' := by
  obtain ⟨⟨T, hh⟩, hr, hd, hl, hok⟩ := h
  obtain ⟨ad, cap, rfl, hc1, hc2, _⟩ := hr.open
  have c0 : w.cell? ⟨br, 0, none⟩ = some (.slice ad r.l.length cap) := heap_cell hh 0
  clear hh hr hok
  go_enter Tryz.func65, Tryz.ntmps65
  go_wp2_with fail
  go_ret
  exact ⟨rfl, rfl⟩
set_option maxHeartbeats 400000 in
theorem rest_any (w : World) (br : Nat) (v : Value) (r : Rdr) (h : ReaderAt w br v r) :
    Calls Tryz.prog 63 #[.pointer (some ⟨br, 0, none⟩)] w fun e w' => ∃ out, e = .returned out ∧ RdB w' out (r.take r.l.length).1 ∧ RdPost w w' br v (r.take r.l.length).2 ∧ ∀ k, blk out k → w.heap.size ≤ k := by
  have H := Lw.hid h
  have hl := h.2.2.2.1
  clear h
  go_enter Tryz.func63, Tryz.ntmps63
  go_wp2_with fail
  refine (left_any w br v r H.out).mono ?_
  rintro e w1 ⟨rfl, rfl⟩
  go_wp2_with fail
  refine (take_any w br v r _ r.l.length rfl (by omega) H.out).mono ?_
  rintro e w2 ⟨out, rfl, ho, hp2, hf⟩
  have HO := Lw.hid ho; have HP := Lw.hid hp2; have HF := Lw.hid hf
  clear ho hp2 hf
  go_wp2_with fail
  go_ret
  exact ⟨_, rfl, HO.out, HP.out, HF.out⟩
set_option maxHeartbeats 400000 in
theorem err_any (w : World) (br : Nat) (v : Value) (r : Rdr) (h : ReaderAt w br v r) :
    Calls Tryz.prog 64 #[.pointer (some ⟨br, 0, none⟩)] w fun e w' => e = .returned (.int .i64 (if r.short then 4 else 0)) ∧ w = w' := by
  obtain ⟨l, s⟩ := r
  obtain ⟨⟨T, hh⟩, hr, hd, hl, hok⟩ := h
  have c1 : w.cell? ⟨br, 1, none⟩ = some (.bool s) := heap_cell hh 1
  clear hh hr hok
  cases s with
  | true =>
    go_enter Tryz.func64, Tryz.ntmps64
    go_wp2_with fail
    go_ret
    exact ⟨rfl, rfl⟩
  | false =>
    go_enter Tryz.func64, Tryz.ntmps64
    go_wp2_with fail
    go_ret
    exact ⟨rfl, rfl⟩
end Go.Proofs.YtgegjjnfcnalfaaGreatDoor
