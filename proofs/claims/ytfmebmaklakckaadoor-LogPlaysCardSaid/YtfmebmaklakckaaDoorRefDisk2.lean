/- longwireref14.Disk: Put. -/
import Derived.Test.YtfmebmaklakckaaDoorRefDisk
import Derived.RegionTactic
import Derived.Laws.OwnMore
namespace Go.Proofs.YtfmebmaklakckaaDoor
open Go Go.RowKit Go.Lw
set_option maxRecDepth 100000
theorem lay_take_in {b : List UInt8} {p k : Nat} {l : List UInt8} (hp : p ≤ b.length) (hk : k < l.length) (hlt : p + k < b.length) : (lay b p (l.take k)).set (p + k) l[k] = lay b p (l.take (k + 1)) := by
  have e1 : (l.take k).length = k := by rw [List.length_take]; omega
  have e2 : (l.take (k + 1)).length = k + 1 := by rw [List.length_take]; omega
  unfold lay
  rw [e1, e2, List.set_append_right _ _ (by rw [List.length_take]; omega), List.length_take, Nat.min_eq_left hp, show p + k - p = k by omega,
    List.set_append_right _ _ (by omega), e1, Nat.sub_self, List.drop_eq_getElem_cons hlt, List.set_cons_zero, take_snoc l k hk, List.append_assoc]
  simp [Nat.add_assoc]
theorem lay_take_out {b : List UInt8} {p k : Nat} {l : List UInt8} (hp : p ≤ b.length) (hk : k < l.length) (hlt : b.length ≤ p + k) : ((lay b p (l.take k)) ++ [0]).set (p + k) l[k] = lay b p (l.take (k + 1)) := by
  have e1 : (l.take k).length = k := by rw [List.length_take]; omega
  have e2 : (l.take (k + 1)).length = k + 1 := by rw [List.length_take]; omega
  unfold lay
  rw [e1, e2, List.drop_eq_nil_of_le hlt, List.drop_eq_nil_of_le (by omega), List.append_nil, List.append_nil, take_snoc l k hk, List.append_assoc,
    List.set_append_right _ _ (by rw [List.length_take]; omega), List.length_take, Nat.min_eq_left hp, show p + k - p = k by omega, List.set_append_right _ _ (by omega), e1, Nat.sub_self]
  simp
theorem set_map {l : List UInt8} {k : Nat} {c : UInt8} : (l.map bv).set k (bv c) = (l.set k c).map bv := by rw [List.map_set]
theorem map_snoc0 {l : List UInt8} : l.map bv ++ [Value.int .u8 0] = (l ++ [0]).map bv := by rw [List.map_append]; rfl
theorem ref_grown {w : World} {g : Nat} {R R' : Rsk} {v v' : Value} (hb : w.heap[g]? = some (rbox R v)) (hr : R' = { R with b := R'.b }) : (w.setCell ⟨g, 1, none⟩ v').heap[g]? = some (rbox R' v') := by
  rw [hr]; exact heap_set hb 1 v'
/-- An own row in a box, stored into. -/
theorem ref_byte {w : World} {g g1 c n : Nat} {R R' : Rsk} (h : RefAt w g (.slice (some ⟨g1, 0, none⟩) n c) R) (hn : R.b.length = n) (j : Nat) (u : UInt8) (hb : R'.b = R.b.set j u) (hr : R' = { R with b := R'.b }) :
    RefAt (w.setCell ⟨g1, j, none⟩ (bv u)) g (.slice (some ⟨g1, 0, none⟩) n c) R' ∧ Kept (fun k => k = g1) w (w.setCell ⟨g1, j, none⟩ (bv u)) := by
  have hk : Kept (fun k => k = g1) w (w.setCell ⟨g1, j, none⟩ (bv u)) := (Kept.refl (fun k => k = g1) w).set g1 j (fun _ => rfl) _
  have hne : g ≠ g1 := fun e => h.apart (by rw [e]; rfl)
  subst hn
  refine ⟨⟨?_, ?_, h.apart⟩, hk⟩
  · rw [hr]; exact hk.heap h.box hne
  · rw [hb, List.length_set, ← set_map]
    exact (h.own.stored j (bv u)).1
set_option maxHeartbeats 4000000 in
theorem rput_any (w : World) (g : Nat) (v : Value) (R : Rsk) (h : RefAt w g v R) (ok : R.ok) (a : Int) (ha : -9223372036854775808 ≤ a ∧ a ≤ 9223372036854775807) (src : Value) (l : List UInt8) (hs : RdB w src l) (hl9 : l.length ≤ 1048576) (hd : l.length ≠ 0 → ∀ k, blk src k → k ≠ g ∧ ¬ blk v k) :
    Calls Tryd.prog 45 #[.pointer (some ⟨g, 0, none⟩), .int .i64 a, src] w fun e w' => e = .returned (.int .i64 ((R.put a l).2 : Int)) ∧ RPost w w' g v (R.put a l).1 := by
  obtain ⟨ad, cap, rfl, hc1, hc2, _⟩ := own_slice h.own
  obtain ⟨ads, caps, rfl, hs1, hs2, _⟩ := hs.open
  unfold maxLen at hc2 hs2
  have c0 := heap_cell h.box 0; have c1 := heap_cell h.box 1; have c2 := heap_cell h.box 2; have c3 := heap_cell h.box 3; have c4 := heap_cell h.box 4; have c5 := heap_cell h.box 5
  have H := Lw.hid h; have HS := Lw.hid hs; have HD := Lw.hid hd
  have hgl : g < w.heap.size := heap_lt h.box
  have HLT := Lw.hid (fun hn => hs.lt (w := w) hn)
  clear h hs hd
  have o1 := ok.len; have o2 := ok.cap; have o3 := ok.puts; have o4 := ok.left; have o5 := ok.bytes
  clear ok
  obtain ⟨cp, b, puts, st, left, nb⟩ := R
  simp only at c0 c1 c2 c3 c4 c5 o1 o2 o3 o4 o5 hc1
  obtain ⟨L, hL⟩ : ∃ L, b.length = L := ⟨_, rfl⟩
  obtain ⟨m, hm⟩ : ∃ m, l.length = m := ⟨_, rfl⟩
  have HL := Lw.hid hL; have HM := Lw.hid hm
  have hDB : (⟨cp, b, puts, st, left, nb⟩ : Rsk).b.length = L := hL
  rw [hDB] at H HD ⊢
  rw [hL] at c1 hc1 o1
  rw [hm] at hs1 HS HD HLT hl9 ⊢
  clear hDB hL hm
  cases st with
  | true =>
    have HP : Hid ((⟨cp, b, puts, true, left, nb⟩ : Rsk).put a l = (⟨cp, b, puts, true, left, nb⟩, 10)) := Lw.hid (by unfold Rsk.put; rw [if_pos rfl])
    go_enter Tryd.func45, Tryd.ntmps45
    go_wp2_with fail
    go_ret
    rw [HP.out]
    exact ⟨rfl, RPost.same H.out⟩
  | false =>
  by_cases h1 : a < 0
  · have HP : Hid ((⟨cp, b, puts, false, left, nb⟩ : Rsk).put a l = (⟨cp, b, puts, false, left, nb⟩, 1)) := Lw.hid (by unfold Rsk.put; rw [if_neg (by simp), if_pos (.inl h1)])
    go_enter Tryd.func45, Tryd.ntmps45
    go_wp2_with fail
    go_ret
    rw [HP.out]
    exact ⟨rfl, RPost.same H.out⟩
  by_cases h2 : (L : Int) < a
  · have HP : Hid ((⟨cp, b, puts, false, left, nb⟩ : Rsk).put a l = (⟨cp, b, puts, false, left, nb⟩, 1)) := Lw.hid (by unfold Rsk.put; rw [if_neg (by simp), if_pos (.inr (by simp only; rw [HL.out]; exact h2))])
    go_enter Tryd.func45, Tryd.ntmps45
    go_wp2_with fail
    go_ret
    rw [HP.out]
    exact ⟨rfl, RPost.same H.out⟩
  obtain ⟨p, rfl⟩ : ∃ k : Nat, a = (k : Int) := ⟨a.toNat, by omega⟩
  have hpL : p ≤ L := by omega
  clear h1 h2
  by_cases h3 : (cp : Int) < (p : Int) + (m : Int)
  · have HP : Hid ((⟨cp, b, puts, false, left, nb⟩ : Rsk).put (p : Int) l = (⟨cp, b, puts, false, left, nb⟩, 7)) := Lw.hid (by unfold Rsk.put; rw [if_neg (by simp), if_neg (by simp only; rw [HL.out]; omega), if_pos (by simp only; rw [HM.out]; exact h3)])
    go_enter Tryd.func45, Tryd.ntmps45
    go_wp2_with fail
    go_ret
    rw [HP.out]
    exact ⟨rfl, RPost.same H.out⟩
  have hpm : p + m ≤ cp := by omega
  obtain ⟨M, hMm, hM⟩ : ∃ M, M ≤ m ∧ (left = 0 ∧ nb < m ∧ (M : Int) = nb ∨ ¬ (left = 0 ∧ nb < m) ∧ M = m) := by
    by_cases h : left = 0 ∧ nb < m
    · exact ⟨nb.toNat, by omega, .inl ⟨h.1, h.2, by omega⟩⟩
    · exact ⟨m, Nat.le_refl _, .inr ⟨h, rfl⟩⟩
  have HP : Hid ((⟨cp, b, puts, false, left, nb⟩ : Rsk).put (p : Int) l = if left = 0 then (⟨cp, lay b p (l.take M), puts, true, -1, nb⟩, 10) else (⟨cp, lay b p (l.take M), puts + 1, false, if 0 < left then left - 1 else left, nb⟩, 0)) := Lw.hid (by
    unfold Rsk.put
    rw [if_neg (by simp), if_neg (by simp only; rw [HL.out]; omega), if_neg (by simp only; rw [HM.out]; omega)]
    simp only [Int.toNat_natCast]
    rw [HM.out]
    split
    · rename_i h0
      rw [show min nb.toNat m = M by omega]
    · rename_i h0
      rw [show M = m by omega, List.take_of_length_le (by rw [HM.out]; exact Nat.le_refl _)])
  have hcs : left = 0 ∧ nb < m ∧ nb = (M : Int) ∨ (left = 0 ∧ (m : Int) ≤ nb ∨ ¬ left = 0) ∧ m ≤ M := by omega
  clear hM
  go_enter Tryd.func45, Tryd.ntmps45
  rcases hcs with ⟨rfl, hnb, rfl⟩ | ⟨⟨rfl, hnb⟩ | h0, hmM⟩
  all_goals
    go_wp2_with fail
    go_loopw [8] (fun i wr => ∃ (k : Nat) (v1 : Value), k ≤ M ∧ i = .int .i64 (k : Int) ∧ RefAt wr g v1 ⟨cp, lay b p (l.take k), puts, false, _, _⟩ ∧ Kept (fun q => q = g ∨ blk (.slice ad L cap) q) w wr ∧ ∀ q, blk v1 q → blk (.slice ad L cap) q ∨ w.heap.size ≤ q) (fun i _ => M - (intOf i).toNat)
    case atStart => exact ⟨0, _, Nat.zero_le _, rfl, by simpa [lay] using H.out, Kept.refl _ _, fun _ h => .inl h⟩
    case round =>
      obtain ⟨k, v1, hk, rfl, hr, hkk, hf⟩ := hrel
      by_cases hlt : k < M
      · have HR := Lw.hid hr; have HK := Lw.hid hkk; have HF := Lw.hid hf
        have hbx := hr.box
        obtain ⟨a1, c1', rfl, hq1, hq2, hq3⟩ := own_slice hr.own
        obtain ⟨LB, hLB⟩ : ∃ LB, (lay b p (l.take k)).length = LB := ⟨_, rfl⟩
        have hlb : (LB = L ∧ p + k ≤ L) ∨ (LB = p + k ∧ L ≤ p + k) := by
          have : (lay b p (l.take k)).length = max L (p + k) := by rw [lay_len (by rw [HL.out]; exact hpL), HL.out, List.length_take, HM.out, Nat.min_eq_left (by omega)]
          omega
        have HSW : Hid (RdB wr (.slice ads m caps) l) := Lw.hid (HS.out.keptE hkk (fun hn q hq hs => by
          rcases hs with hs | hs
          · exact (HD.out (by rw [← HM.out]; exact hn) q hq).1 hs
          · exact (HD.out (by rw [← HM.out]; exact hn) q hq).2 hs))
        obtain ⟨x, hxl⟩ : ∃ x, l[k]? = some x := ⟨_, List.getElem?_eq_getElem (by rw [HM.out]; omega)⟩
        have HX := Lw.hid hxl
        obtain ⟨gs, os, hads, hcx⟩ : ∃ gs os, ads = some ⟨gs, os, none⟩ ∧ wr.cell? ⟨gs, os + k, none⟩ = some (.int .u8 (x.toNat : Int)) := by
          obtain ⟨_, a', c', e, _, _, hc⟩ := HSW.out
          obtain rfl : ads = a' := by injection e
          obtain ⟨gs, os, e1, hc⟩ := hc k (bv x) (by rw [List.getElem?_map, HX.out]; rfl)
          exact ⟨gs, os, e1, hc⟩
        subst hads
        have hbx1 := heap_cell hbx 1
        have hbf1 := heap_free hbx 1
        have HLB := Lw.hid hLB
        simp only at hbx1 hq1 hq3 hq2 HR HF
        rw [hLB] at hq1 hq3 HR HF
        simp only [hLB] at hbx1
        have HB := Lw.hid hbx
        clear hr hkk hf hbx hLB hxl
        unfold maxLen at hq2
        have hRo := HR.out.own
        simp only at hRo
        rw [HLB.out] at hRo
        have HRO := Lw.hid hRo
        clear hRo
        by_cases hin : p + k < LB
        · obtain ⟨g2, rfl⟩ := hq3 (by omega)
          clear hq3
          have hin2 := hin
          obtain ⟨W2, hW2⟩ : ∃ W2, W2 = wr := ⟨_, rfl⟩
          obtain ⟨B2, hB2⟩ : ∃ B2, lay b p (l.take k) = B2 := ⟨_, rfl⟩
          have HSET : Hid (B2.set (p + k) x = lay b p (l.take (k + 1))) := Lw.hid (by
            rw [← hB2]
            have hkl : k < l.length := by rw [HM.out]; omega
            have hx : l[k] = x := by have := HX.out; rw [List.getElem?_eq_getElem hkl] at this; exact Option.some.inj this
            rw [← hx]
            exact lay_take_in (by rw [HL.out]; exact hpL) hkl (by rw [HL.out]; omega))
          have HLB2 : Hid (B2.length = LB) := Lw.hid (by rw [← hB2]; exact HLB.out)
          have HRO2 : Hid (W2.ownsRow 0 5 1 (.slice (some ⟨g2, 0, none⟩) LB c1') LB (B2.map bv)) := Lw.hid (by rw [← hB2, hW2]; exact HRO.out)
          have HR2 : Hid (RefAt W2 g (.slice (some ⟨g2, 0, none⟩) LB c1') ⟨cp, B2, puts, false, _, _⟩) := Lw.hid (by rw [← hB2, hW2]; exact HR.out)
          have HK2 : Hid (Kept (fun q => q = g ∨ blk (.slice ad L cap) q) w W2) := Lw.hid (by rw [hW2]; exact HK.out)
          have HF2 := HF
          clear hB2 HRO HR HK HF
          go_wp2_with fail
          rw [← hW2] at hcx hbx1 hbf1 ⊢
          clear hW2
          have hfz := HRO2.out.frozenAt (p + k)
          have hcl : W2.cell? ⟨g2, p + k, none⟩ = some (bv (B2[p + k]'(by rw [HLB2.out]; exact hin2))) := by
            refine own_cell HRO2.out (p + k) _ ?_ (by omega)
            rw [List.getElem?_map, List.getElem?_eq_getElem (by rw [HLB2.out]; exact hin2)]; rfl
          generalize B2[p + k]'_ = y at hcl
          have hnx := ref_byte (R' := ⟨cp, lay b p (l.take (k + 1)), puts, false, _, _⟩) HR2.out HLB2.out (p + k) x HSET.out.symm rfl
          have HNX := Lw.hid hnx.1
          have HKX := Lw.hid hnx.2
          clear hnx
          go_region
          go_wp2_with fail
          go_roundw
          case rel => exact ⟨k + 1, _, by omega, by go_num, HNX.out.kept (S := fun _ => False) ((Kept.refl _ _).drew) (fun h => h) (fun _ _ h => h), (HK2.out.trans HKX.out (fun i hi e => .inr ((HF2.out i (by rw [e]; rfl)).resolve_right (by omega)))).drew, HF2.out⟩
          case measure => simp [intOf]; omega
        · have hRB := HSW.out
          have happ := HR.out.apart
          have hgr := heap_lt HB.out
          go_wp2_with (at_builtin; refine wpList_app rfl _ _ _ rfl EB _ LB _ rfl (HRO.out.alloc _) _ 1 _ rfl (Rd.lit _ [.int .u8 0] _ 1 _ 1 (by simp) rfl (by decide)) (by simp [Value.oneCell']) (by unfold maxLen; omega) (by omega) ?_; intro a3 c3' w6 ho hg hf; have HO' := Lw.hid ho; have HG' := Lw.hid hg; have HF' := Lw.hid hf; have kb : Kept (blk (.slice a1 LB c1')) wr w6 := ((Kept.refl _ wr).alloc _).grown hg (fun k hk _ => hk); have b1 := kb.heap HB.out happ; have c1b := heap_cell b1 1; have f1b := heap_free b1 1; have B1 := Lw.hid b1; have KB := Lw.hid kb; clear ho hg hf b1 kb)
          obtain ⟨a3', c3'', e3, _, hc3, hg3⟩ := own_slice HO'.out
          obtain ⟨g2, rfl⟩ : ∃ g2, a3 = some ⟨g2, 0, none⟩ := by
            cases e3
            exact hg3 (by omega)
          clear e3 hg3
          have hin2 : p + k < LB + 1 := by omega
          have hg2 : g2 ≠ g := fun e => by
            rcases HF'.out g2 rfl with h | h
            · exact happ (e ▸ h)
            · simp at h; omega
          obtain ⟨W2, hW2⟩ : ∃ W2, W2 = w6.setCell ⟨g, 1, none⟩ (.slice (some ⟨g2, 0, none⟩) (LB + 1) c3') := ⟨_, rfl⟩
          obtain ⟨B2, hB2⟩ : ∃ B2, lay b p (l.take k) ++ [0] = B2 := ⟨_, rfl⟩
          have HSET : Hid (B2.set (p + k) x = lay b p (l.take (k + 1))) := Lw.hid (by
            rw [← hB2]
            have hkl : k < l.length := by rw [HM.out]; omega
            have hx : l[k] = x := by have := HX.out; rw [List.getElem?_eq_getElem hkl] at this; exact Option.some.inj this
            rw [← hx]
            exact lay_take_out (by rw [HL.out]; exact hpL) hkl (by rw [HL.out]; omega))
          have HLB2 : Hid (B2.length = LB + 1) := Lw.hid (by rw [← hB2, List.length_append, HLB.out]; rfl)
          have HRO2 : Hid (W2.ownsRow 0 5 1 (.slice (some ⟨g2, 0, none⟩) (LB + 1) c3') (LB + 1) (B2.map bv)) := Lw.hid (by
            rw [← hB2, hW2, ← map_snoc0]
            exact own_setCell (p := ⟨g, 1, none⟩) HO'.out (fun h => hg2 (blk_some h).symm) _)
          have hbox2 := ref_grown (R' := ⟨cp, B2, puts, false, _, _⟩) (v' := .slice (some ⟨g2, 0, none⟩) (LB + 1) c3') B1.out rfl
          rw [← hW2] at hbox2
          have HR2 : Hid (RefAt W2 g (.slice (some ⟨g2, 0, none⟩) (LB + 1) c3') ⟨cp, B2, puts, false, _, _⟩) := Lw.hid ⟨hbox2, by
            simp only
            rw [HLB2.out]; exact HRO2.out, fun h => hg2 (blk_some h).symm⟩
          have hkw : Kept (fun q => q = g ∨ blk (.slice a1 LB c1') q) wr W2 := by
            rw [hW2]
            exact (KB.out.mono (fun _ _ h => .inr h)).set g 1 (fun _ => .inl rfl) _
          have HK2 : Hid (Kept (fun q => q = g ∨ blk (.slice ad L cap) q) w W2) := Lw.hid (HK.out.trans hkw (fun i hi hs => by
            rcases hs with hs | hs
            · exact .inl hs
            · exact .inr ((HF.out i hs).resolve_right (by omega))))
          have HF2 : Hid (∀ q, blk (.slice (some ⟨g2, 0, none⟩) (LB + 1) c3') q → blk (.slice ad L cap) q ∨ w.heap.size ≤ q) := Lw.hid (fun q hq => by
            rcases HF'.out q hq with h | h
            · exact HF.out q h
            · have := HK.out.size; simp at h; exact .inr (by omega))
          have hbx2 := heap_cell hbox2 1
          simp only at hbx2
          have hcx2 : W2.cell? ⟨gs, os + k, none⟩ = some (.int .u8 (x.toNat : Int)) := by
            refine hkw.cell hcx (fun hs => ?_)
            have hl0 : m ≠ 0 := by omega
            have hlt2 := HLT.out hl0 gs rfl
            rcases hs with hs | hs
            · exact (HD.out hl0 gs rfl).1 hs
            · rcases HF.out gs hs with h | h
              · exact (HD.out hl0 gs rfl).2 h
              · omega
          clear hB2 HRO HR HK HF hcx hbx1 hbf1 c1b f1b HO' HG' HF' B1 KB hkw hbox2 hRB
          rw [← hW2]
          clear hW2
          have hfz := HRO2.out.frozenAt (p + k)
          have hcl : W2.cell? ⟨g2, p + k, none⟩ = some (bv (B2[p + k]'(by rw [HLB2.out]; exact hin2))) := by
            refine own_cell HRO2.out (p + k) _ ?_ (by omega)
            rw [List.getElem?_map, List.getElem?_eq_getElem (by rw [HLB2.out]; exact hin2)]; rfl
          generalize B2[p + k]'_ = y at hcl
          have hnx := ref_byte (R' := ⟨cp, lay b p (l.take (k + 1)), puts, false, _, _⟩) HR2.out HLB2.out (p + k) x HSET.out.symm rfl
          have HNX := Lw.hid hnx.1
          have HKX := Lw.hid hnx.2
          clear hnx
          go_region
          go_wp2_with fail
          go_roundw
          case rel => exact ⟨k + 1, _, by omega, by go_num, HNX.out.kept (S := fun _ => False) ((Kept.refl _ _).drew) (fun h => h) (fun _ _ h => h), (HK2.out.trans HKX.out (fun i hi e => .inr ((HF2.out i (by rw [e]; rfl)).resolve_right (by omega)))).drew, HF2.out⟩
          case measure => simp [intOf]; omega
      · have hkM : k = M := by omega
        subst hkM
        have HR := Lw.hid hr; have HK := Lw.hid hkk; have HF := Lw.hid hf
        have hbx := hr.box
        have d2 := heap_cell hbx 2; have d3 := heap_cell hbx 3; have d4 := heap_cell hbx 4
        have e2 := heap_free hbx 2; have e3 := heap_free hbx 3; have e4 := heap_free hbx 4
        simp only at d2 d3 d4
        have HBX := Lw.hid hbx
        clear hr hkk hf hbx
        first
          | (by_cases h5 : 0 < left
             · have hp := HP.out
               rw [if_neg h0, if_pos h5] at hp
               have HP2 := Lw.hid hp
               clear hp
               go_wp2_with fail
               go_ret
               rw [HP2.out]
               exact ⟨rfl, RPost.next HR.out HK.out HF.out (HR.out.set (R' := ⟨cp, lay b p (l.take k), puts + 1, false, left - 1, nb⟩) rfl _ (((Kept.refl (fun k => k = g) wr).set g 4 (fun _ => rfl) _).set g 2 (fun _ => rfl) _) (heap_set (heap_set HBX.out 4 (.int .i64 (left - 1))) 2 (.int .i64 ((puts + 1 : Nat) : Int))))⟩
             · have hp := HP.out
               rw [if_neg h0, if_neg h5] at hp
               have HP2 := Lw.hid hp
               clear hp
               go_wp2_with fail
               go_ret
               rw [HP2.out]
               exact ⟨rfl, RPost.next HR.out HK.out HF.out (HR.out.set (R' := ⟨cp, lay b p (l.take k), puts + 1, false, left, nb⟩) rfl _ ((Kept.refl (fun k => k = g) wr).set g 2 (fun _ => rfl) _) (heap_set HBX.out 2 (.int .i64 ((puts + 1 : Nat) : Int))))⟩)
          | (have hp := HP.out
             simp only [↓reduceIte] at hp
             have HP2 := Lw.hid hp
             clear hp
             go_wp2_with fail
             go_ret
             rw [HP2.out]
             exact ⟨rfl, RPost.next HR.out HK.out HF.out (HR.out.set (R' := ⟨cp, lay b p (l.take k), puts, true, -1, _⟩) rfl _ (((Kept.refl (fun k => k = g) wr).set g 4 (fun _ => rfl) _).set g 3 (fun _ => rfl) _) (heap_set (heap_set HBX.out 4 (.int .i64 (-1))) 3 (.bool true)))⟩)
end Go.Proofs.YtfmebmaklakckaaDoor
