/- package disk: lay, Put, Copy. -/
import Derived.Test.YtfmebmaklakckaaDoorDisk2
namespace Go.Proofs.YtfmebmaklakckaaDoor
open Go Go.RowKit Go.Lw
set_option maxRecDepth 100000
theorem lay_map_in {b : List UInt8} {a : Nat} {l : List UInt8} : (b.map bv).take a ++ (l.map bv ++ (b.map bv).drop (a + l.length)) = (lay b a l).map bv := by
  simp [lay]
theorem lay_map_out {b : List UInt8} {a : Nat} {l : List UInt8} {z : Nat} (h : a ≤ b.length) (hz : b.length + z = a + l.length) :
    (b.map bv ++ List.replicate z (Value.int .u8 0)).take a ++ (l.map bv ++ (b.map bv ++ List.replicate z (Value.int .u8 0)).drop (a + l.length)) = (lay b a l).map bv := by
  rw [List.take_append_of_le_length (by simpa using h), List.drop_eq_nil_of_le (by simp; omega)]
  simp [lay]
  omega
set_option maxHeartbeats 4000000 in
theorem dlay_any (w : World) (g : Nat) (v : Value) (D : Dsk) (h : DiskAt w g v D) (a : Nat) (src : Value) (l : List UInt8) (hs : RdB w src l) (hd : l.length ≠ 0 → ∀ k, blk src k → k ≠ g ∧ ¬ blk v k) (ha : a ≤ D.b.length) (hbig : a + l.length ≤ 1048576) (hD : D.b.length ≤ 1048576) :
    Calls Tryd.prog 55 #[.pointer (some ⟨g, 0, none⟩), .int .i64 (a : Int), src] w fun e w' => e = .returned (.tuple #[]) ∧ DPost w w' g v { D with b := lay D.b a l } := by
  obtain ⟨ad, cap, rfl, hc1, hc2, _⟩ := own_slice h.own
  obtain ⟨ads, caps, rfl, hs1, hs2, _⟩ := hs.open
  have c2 := heap_cell h.box 2
  have f2 := heap_free h.box 2
  have H := Lw.hid h; have HS := Lw.hid hs; have HD := Lw.hid hd
  clear h hs hd
  obtain ⟨L, hL⟩ : ∃ L, D.b.length = L := ⟨_, rfl⟩
  obtain ⟨m, hm⟩ : ∃ m, l.length = m := ⟨_, rfl⟩
  have HL := Lw.hid hL; have HM := Lw.hid hm
  rw [hL] at c2 ha hD hc1 H HD ⊢
  rw [hm] at hs1 hbig HS HD ⊢
  clear hL hm
  have HO : Hid (w.ownsRow 0 5 1 (.slice ad L cap) L (D.b.map bv)) := Lw.hid (own_cast HL.out H.out.own)
  go_enter Tryd.func55, Tryd.ntmps55
  by_cases hz : L < a + m
  · obtain ⟨z, hz'⟩ : ∃ z, L + z = a + m := ⟨a + m - L, by omega⟩
    have HZ := Lw.hid hz'
    clear hz'
    have hpos : decide ((0 : Int) < (a : Int) + (m : Int) - (L : Int)) = true := by simp; omega
    have hpos2 : (0 : Int) < (a : Int) + (m : Int) - (L : Int) := by omega
    have hgl : g < w.heap.size := heap_lt H.out.box
    go_wp2_with first
      | (at_builtin; refine wpList_appz rfl _ _ _ _ rfl Tryd.underlying38 Tryd.underlying9 Tryd.underlying3 rfl rfl rfl rfl (.slice ad L cap) L _ rfl HO.out z (congrArg (Value.int .i64) (by have := HZ.out; omega)) (by have := HZ.out; omega) ?_; intro ad1 cap1 w1 ho hg hf; have O1 := Lw.hid ho; have G1 := Lw.hid hg; have F1 := Lw.hid hf; clear ho hg hf; have kb : Kept (blk (.slice ad L cap)) w w1 := (Kept.refl _ w).grown G1.out (fun k hk _ => hk); have b1 := kb.heap H.out.box H.out.apart; have c2b := heap_cell b1 2; have f2b := heap_free b1 2; have B1 := Lw.hid b1; have KB := Lw.hid kb; clear b1 kb; have hap1 : ¬ blk (.slice ad1 (L + z) cap1) g := fun h => by rcases F1.out g h with h | h; exact H.out.apart h; omega)
      | (refine wpList_slice_own rfl _ _ _ rfl EB (.slice ad1 (L + z) cap1) (L + z) _ .i64 _ a rfl rfl (own_setCell (p := ⟨g, 2, none⟩) O1.out hap1 _) rfl (by have := HZ.out; omega) ?_; intro ad2 c2' hp; have HP := Lw.hid hp; clear hp)
      | (refine wpList_copy rfl _ _ _ _ rfl EB (.slice ad1 (L + z) cap1) (L + z) _ (own_setCell (p := ⟨g, 2, none⟩) O1.out hap1 _) a _ _ rfl HP.out _ m _ rfl (rd_cast HM.out ((HS.out.keptE KB.out (fun hn k hk h => (HD.out (HM.out ▸ hn) k hk).2 h)).keptE ((Kept.refl (fun k => k = g) w1).set g 2 (fun _ => rfl) _) (fun hn k hk h => (HD.out (HM.out ▸ hn) k hk).1 h))) (bytes_oneCell _) (by have := HZ.out; omega) ?_; intro w3 ho hg)
    refine bodyPost_end (v := .tuple #[]) (by simp [results, go_sem]) rfl ?_
    exact ⟨rfl, .slice ad1 (L + z) cap1, ⟨by
      have hb := heap_set B1.out 2 (.slice ad1 (L + z) cap1)
      exact (hg.block g (by simpa using heap_lt hb) (fun h => hap1 h.symm)).trans hb, by
      have h1 := lay_map_out (b := D.b) (a := a) (l := l) (z := z) (by rw [HL.out]; exact ha) (by rw [HL.out, HM.out]; exact HZ.out)
      rw [HM.out] at h1
      rw [h1] at ho
      have h2 : (lay D.b a l).length = L + z := by rw [lay_len (by rw [HL.out]; exact ha), HL.out, HM.out]; have := HZ.out; omega
      rw [h2]; exact ho, hap1⟩, by
      refine (((Kept.refl _ w).grown G1.out (fun k hk _ => .inr hk)).set g 2 (fun _ => .inl rfl) _).grown hg (fun k hk hlt => ?_)
      rcases F1.out k hk with h | h
      · exact .inr h
      · omega, F1.out⟩
  · have hpos : decide ((0 : Int) < (a : Int) + (m : Int) - (L : Int)) = false := by simp; omega
    have hpos2 : ¬ (0 : Int) < (a : Int) + (m : Int) - (L : Int) := by omega
    go_wp2_with first
      | (refine wpList_slice_own rfl _ _ _ rfl EB (.slice ad L cap) L _ .i64 _ a rfl rfl HO.out rfl ha ?_; intro ad2 c2' hp; have HP := Lw.hid hp; clear hp)
      | (refine wpList_copy rfl _ _ _ _ rfl EB (.slice ad L cap) L _ HO.out a _ _ rfl HP.out _ m _ rfl (rd_cast HM.out HS.out) (bytes_oneCell _) (by omega) ?_; intro w2 ho hg)
    refine bodyPost_end (v := .tuple #[]) (by simp [results, go_sem]) rfl ?_
    exact ⟨rfl, .slice ad L cap, ⟨(hg.block g (heap_lt H.out.box) (fun h => H.out.apart h.symm)).trans H.out.box, by
      have h1 := lay_map_in (b := D.b) (a := a) (l := l)
      rw [HM.out] at h1
      rw [h1] at ho
      have h2 : (lay D.b a l).length = L := by rw [lay_len (by rw [HL.out]; exact ha), HL.out, HM.out]; omega
      rw [h2]; exact ho, H.out.apart⟩, (Kept.refl _ w).grown hg (fun k hk _ => .inr hk), fun _ h => .inl h⟩
end Go.Proofs.YtfmebmaklakckaaDoor
