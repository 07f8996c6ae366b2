/- WordTells: few parts of a word. -/
import Derived.Test.YtifcgeanippepaaDoorM29
namespace Go.Proofs.YtifcgeanippepaaDoor
open Go Go.RowKit Go.Lw
set_option maxRecDepth 100000
set_option linter.unusedVariables false
set_option linter.unusedSimpArgs false
attribute [local go_sem] BA_toList
set_option maxHeartbeats 16000000 in
theorem few_2 (HF : Hid (CFewZ 1)) : CFewZ 2 := by
  intro w v l hv ht
  obtain ⟨a, n, c, rfl⟩ := hv.slice
  have hn := hv.elem.1
  have hn9 := hv.max
  have HV := Lw.hid hv; have HT := Lw.hid ht; have HN := Lw.hid hn
  have HST : Hid (WF w (fun _ => False) (fewF 2 (l.take 0)) (.slice none 0 0) w) := Lw.hid (WF.nil w)
  clear hv ht hn
  show Calls Tryd.prog 28 #[.slice a n c, .int .i64 2] w _
  go_enter Tryd.func28, Tryd.ntmps28
  go_wp2_with fail
  go_loopg [5, 11] n (fun gk s5 s11 wx => ∃ k : Nat, gk = n - k ∧ k ≤ n ∧ s11 = .int .i64 (k : Int) ∧ WF w (fun _ => False) (fewF 2 (l.take k)) s5 wx)
  case atStart => exact ⟨0, rfl, Nat.zero_le _, rfl, HST.out⟩
  case round =>
    obtain ⟨k, rfl, hk, rfl, hf⟩ := hrel
    obtain ⟨_, hown0, _⟩ := hf.own
    obtain ⟨ra, rcp, rfl, _, _, _⟩ := own_slice hown0
    clear hown0
    have HF0 := Lw.hid hf
    have HKW := Lw.hid hf.at.2
    clear hf HST
    by_cases hlt : k < n
    · obtain ⟨p, hp⟩ : ∃ p, l[k]? = some p := ⟨_, List.getElem?_eq_getElem (by rw [← HN.out]; exact hlt)⟩
      have hpm : p ∈ l := List.mem_of_getElem? hp
      have hpt : p.text.length ≤ 9223372036854775807 := by have := HT.out.txt p hpm; unfold maxLen at this; omega
      obtain ⟨b1, o1, oa, on, oc, e1, p0, p1, p2, p3, hao⟩ := (HV.out.kept HKW.out).elem.2 k p hp
      subst e1
      have hto := HT.out.orw p hpm
      have HTO := Lw.hid hto
      have hbl : b1 < wr.heap.size := World.block_lt_of_cell? wr _ p0
      have hdn : decide (k < n) = true := decide_eq_true hlt
      by_cases h8 : k < 8
      · have hd8 : decide (k < 8) = true := decide_eq_true h8
        have hd8' : decide ((k : Int) < 8) = true := decide_eq_true (by omega)
        have HSN := Lw.hid (fewF_snoc (d := 2) hp h8)
        obtain ⟨kk, t, ow, q⟩ := p
        simp only [Prt.kind, Prt.text, Prt.orw, Prt.quoted] at p0 p1 p2 p3 hao hto hpt HTO
        have hz := BA_size t
        obtain ⟨N, hN⟩ : ∃ N, t.length = N := ⟨_, rfl⟩
        obtain ⟨M, hM⟩ : ∃ M, min N 60 = M := ⟨_, rfl⟩
        have hmin : min (N : Int) 60 = (M : Int) := by omega
        have hMN : M ≤ N := by omega
        have hM60 : M ≤ 60 := by omega
        have hex : (BA t).extract 0 M = BA (t.take 60) := by
          rw [BA_head]
          rcases Nat.le_total N 60 with h | h
          · rw [show M = N by omega, ← hN, List.take_of_length_le (Nat.le_refl _), List.take_of_length_le (by omega)]
          · rw [show M = 60 by omega]
        rw [hN] at hz hpt
        have hfl := few_short 2 (l.take k)
        have HFL := Lw.hid hfl
        clear hp hpm hto hN hM h8 hfl
        have HAO := Lw.hid hao
        have K1 : Hid (Kept (fun _ => False) wr (wr.alloc (.cells #[.int .i64 kk, .string (BA t), .slice oa on oc, .bool q] 46))) := Lw.hid ((Kept.refl _ wr).alloc _)
        have HPB : Hid (PAf (wr.alloc (.cells #[.int .i64 kk, .string (BA t), .slice oa on oc, .bool q] 46)) wr.heap.size kk t (.slice oa on oc) q) := Lw.hid (heap_alloc wr _)
        have hsz1 : (wr.alloc (.cells #[.int .i64 kk, .string (BA t), .slice oa on oc, .bool q] 46)).heap.size = wr.heap.size + 1 := World.size_alloc _ _
        clear hao
        go_wp2_with fail
        obtain ⟨w1, hw1⟩ : ∃ w1, wr.alloc (.cells #[.int .i64 kk, .string (BA t), .slice oa on oc, .bool q] 46) = w1 := ⟨_, rfl⟩
        obtain ⟨pb, hpb⟩ : ∃ pb, wr.heap.size = pb := ⟨_, rfl⟩
        rw [hw1] at K1 HPB hsz1
        rw [hw1]
        have HPBE := Lw.hid hpb
        rw [hpb] at HPB
        first | rw [hpb] | skip
        clear hw1 p0 p1 p2 p3
        refine wp_region_tail 13 [stV (.pointer (some ⟨pb, 0, none⟩)), stV (.int .i64 kk), stV (.pointer (some ⟨pb, 1, none⟩)), stV (.string (BA t)), stV (.pointer (some ⟨pb, 1, none⟩)), stV (.string (BA t)), stV (.int .i64 (N : Int)), stV (.int .i64 (M : Int)), stV (.string (BA (t.take 60))), stV (.pointer (some ⟨pb, 3, none⟩)), stV (.bool q), stV (.agg #[.int .i64 kk, .string (BA (t.take 60)), .slice none 0 0, .bool q]), stQ w1] (by kernel_rfl) (by kernel_rfl) ?_ ?_
        · -- each operation by itself
          refine ssteps_cons (fun a' w' hI hag hf K hK => ?_) ?_
          · have s7 := hag.same 7 (by decide)
            clear hag
            go_wp2_with fail
            exact hK _ _ hI (Kept.refl _ _) rfl
          refine ssteps_cons (fun a' w' hI hag hf K hK => ?_) ?_
          · obtain ⟨⟨_, h0, rfl⟩, -⟩ : SFacts _ _ a' w' [0] := hf
            clear hag
            have hh : PAf w' pb kk t (.slice oa on oc) q := hI.heap HPB.out (fun h => h)
            obtain ⟨⟨r0, r1, r2, r3⟩, -⟩ := PAf.cells hh
            clear hh
            go_wp2_with fail
            exact hK _ _ hI (Kept.refl _ _) rfl
          refine ssteps_cons (fun a' w' hI hag hf K hK => ?_) ?_
          · have s7 := hag.same 7 (by decide)
            clear hag
            go_wp2_with fail
            exact hK _ _ hI (Kept.refl _ _) rfl
          refine ssteps_cons (fun a' w' hI hag hf K hK => ?_) ?_
          · obtain ⟨⟨_, h2, rfl⟩, -⟩ : SFacts _ _ a' w' [2] := hf
            clear hag
            have hh : PAf w' pb kk t (.slice oa on oc) q := hI.heap HPB.out (fun h => h)
            obtain ⟨⟨r0, r1, r2, r3⟩, -⟩ := PAf.cells hh
            clear hh
            go_wp2_with fail
            exact hK _ _ hI (Kept.refl _ _) rfl
          refine ssteps_cons (fun a' w' hI hag hf K hK => ?_) ?_
          · have s7 := hag.same 7 (by decide)
            clear hag
            go_wp2_with fail
            exact hK _ _ hI (Kept.refl _ _) rfl
          refine ssteps_cons (fun a' w' hI hag hf K hK => ?_) ?_
          · obtain ⟨⟨_, h4, rfl⟩, -⟩ : SFacts _ _ a' w' [4] := hf
            clear hag
            have hh : PAf w' pb kk t (.slice oa on oc) q := hI.heap HPB.out (fun h => h)
            obtain ⟨⟨r0, r1, r2, r3⟩, -⟩ := PAf.cells hh
            clear hh
            go_wp2_with fail
            exact hK _ _ hI (Kept.refl _ _) rfl
          refine ssteps_cons (fun a' w' hI hag hf K hK => ?_) ?_
          · obtain ⟨⟨_, h5, rfl⟩, -⟩ : SFacts _ _ a' w' [5] := hf
            clear hag
            go_wp2_with fail
            exact hK _ _ hI (Kept.refl _ _) rfl
          refine ssteps_cons (fun a' w' hI hag hf K hK => ?_) ?_
          · obtain ⟨⟨_, h6, rfl⟩, -⟩ : SFacts _ _ a' w' [6] := hf
            clear hag
            go_wp2_with fail
            exact hK _ _ hI (Kept.refl _ _) rfl
          refine ssteps_cons (fun a' w' hI hag hf K hK => ?_) ?_
          · obtain ⟨⟨_, h3, rfl⟩, ⟨_, h7, rfl⟩, -⟩ : SFacts _ _ a' w' [3, 7] := hf
            clear hag
            go_wp2_with fail
            exact hK _ _ hI (Kept.refl _ _) rfl
          refine ssteps_cons (fun a' w' hI hag hf K hK => ?_) ?_
          · have s7 := hag.same 7 (by decide)
            clear hag
            go_wp2_with fail
            exact hK _ _ hI (Kept.refl _ _) rfl
          refine ssteps_cons (fun a' w' hI hag hf K hK => ?_) ?_
          · obtain ⟨⟨_, h9, rfl⟩, -⟩ : SFacts _ _ a' w' [9] := hf
            clear hag
            have hh : PAf w' pb kk t (.slice oa on oc) q := hI.heap HPB.out (fun h => h)
            obtain ⟨⟨r0, r1, r2, r3⟩, -⟩ := PAf.cells hh
            clear hh
            go_wp2_with fail
            exact hK _ _ hI (Kept.refl _ _) rfl
          refine ssteps_cons (fun a' w' hI hag hf K hK => ?_) ?_
          · obtain ⟨⟨_, h1, rfl⟩, ⟨_, h8, rfl⟩, ⟨_, h10, rfl⟩, -⟩ : SFacts _ _ a' w' [1, 8, 10] := hf
            clear hag
            go_wp2_with fail
            exact hK _ _ hI (Kept.refl _ _) rfl
          refine ssteps_cons (fun a' w' hI hag hf K hK => ?_) ?_
          · clear hag
            go_wp2_with fail
            exact hK _ _ (hI.alloc _) ((Kept.refl _ _).alloc _) ⟨_, rfl, heap_alloc _ _, hI.size⟩
          exact trivial
        · intro vs wz hI hvs
          have q0 : vs 0 = (.pointer (some ⟨pb, 0, none⟩)) := hvs 0 _ _ rfl rfl
          have q1 : vs 1 = (.int .i64 kk) := hvs 1 _ _ rfl rfl
          have q2 : vs 2 = (.pointer (some ⟨pb, 1, none⟩)) := hvs 2 _ _ rfl rfl
          have q3 : vs 3 = (.string (BA t)) := hvs 3 _ _ rfl rfl
          have q4 : vs 4 = (.pointer (some ⟨pb, 1, none⟩)) := hvs 4 _ _ rfl rfl
          have q5 : vs 5 = (.string (BA t)) := hvs 5 _ _ rfl rfl
          have q6 : vs 6 = (.int .i64 (N : Int)) := hvs 6 _ _ rfl rfl
          have q7 : vs 7 = (.int .i64 (M : Int)) := hvs 7 _ _ rfl rfl
          have q8 : vs 8 = (.string (BA (t.take 60))) := hvs 8 _ _ rfl rfl
          have q9 : vs 9 = (.pointer (some ⟨pb, 3, none⟩)) := hvs 9 _ _ rfl rfl
          have q10 : vs 10 = (.bool q) := hvs 10 _ _ rfl rfl
          have q11 : vs 11 = (.agg #[.int .i64 kk, .string (BA (t.take 60)), .slice none 0 0, .bool q]) := hvs 11 _ _ rfl rfl
          have q12 := hvs 12 _ _ rfl rfl
          clear hvs
          simp only [List.take_succ_cons, List.take_zero, List.drop_succ_cons, List.drop_zero, putAll, Act.put, List.setIfInBounds_toArray, List.set_cons_zero, List.set_cons_succ, Nat.reduceAdd, q0, q1, q2, q3, q4, q5, q6, q7, q8, q9, q10, q11]
          clear q0 q1 q2 q3 q4 q5 q6 q7 q8 q9 q10 q11
          generalize vs 12 = x12 at *
          obtain ⟨qb, rfl, hqb, hqbl⟩ := q12
          have KZ := Lw.hid hI
          have hz1 := hI.size
          have y0 := heap_cell hqb 0; have y1 := heap_cell hqb 1; have y2 := heap_cell hqb 2; have y3 := heap_cell hqb 3
          have yf0 := heap_free hqb 0; have yf1 := heap_free hqb 1; have yf2 := heap_free hqb 2; have yf3 := heap_free hqb 3
          have hqlt := heap_lt hqb
          have HQB : Hid (PAf ((((wz.setCell ⟨qb, 0, none⟩ (.int .i64 kk)).setCell ⟨qb, 1, none⟩ (.string (BA (t.take 60)))).setCell ⟨qb, 2, none⟩ (.slice none 0 0)).setCell ⟨qb, 3, none⟩ (.bool q)) qb kk (t.take 60) (.slice none 0 0) q) := Lw.hid (heap_set (heap_set (heap_set (heap_set hqb 0 _) 1 _) 2 _) 3 _)
          have K2 : Hid (Kept (fun _ => False) wr ((((wz.setCell ⟨qb, 0, none⟩ (.int .i64 kk)).setCell ⟨qb, 1, none⟩ (.string (BA (t.take 60)))).setCell ⟨qb, 2, none⟩ (.slice none 0 0)).setCell ⟨qb, 3, none⟩ (.bool q))) := Lw.hid (by
            have hb : qb < wr.heap.size → False := fun h => by omega
            have h0 : Kept (fun _ => False) wr wz := K1.out.trans hI (fun _ _ h => h)
            exact Kept.set (Kept.set (Kept.set (Kept.set h0 qb 0 hb _) qb 1 hb _) qb 2 hb _) qb 3 hb _)
          have HPB2 : Hid (PAf ((((wz.setCell ⟨qb, 0, none⟩ (.int .i64 kk)).setCell ⟨qb, 1, none⟩ (.string (BA (t.take 60)))).setCell ⟨qb, 2, none⟩ (.slice none 0 0)).setCell ⟨qb, 3, none⟩ (.bool q)) pb kk t (.slice oa on oc) q) := Lw.hid (by
            have e := HPBE.out
            have hne : ∀ (W : World) i u, (W.setCell ⟨qb, i, none⟩ u).heap[pb]? = W.heap[pb]? := fun W i u => Below.heap_setCell _ _ _ _ (fun e' => by have e'' : pb = qb := e'; omega)
            exact (hne _ _ _).trans ((hne _ _ _).trans ((hne _ _ _).trans ((hne _ _ _).trans (hI.heap HPB.out (fun h => h))))))
          clear hqb
          have hnpq : pb ≠ qb := by have e := HPBE.out; omega
          have hnqp : qb ≠ pb := fun e => hnpq e.symm
          have hpz : PAf wz pb kk t (.slice oa on oc) q := hI.heap HPB.out (fun h => h)
          obtain ⟨⟨s0, s1, s2, s3⟩, -⟩ := hpz.cells
          clear hpz
          go_wp2_with fail
          clear s0 s1 s2 s3
          obtain ⟨w2, hw2⟩ : ∃ w2, (((wz.setCell ⟨qb, 0, none⟩ (.int .i64 kk)).setCell ⟨qb, 1, none⟩ (.string (BA (t.take 60)))).setCell ⟨qb, 2, none⟩ (.slice none 0 0)).setCell ⟨qb, 3, none⟩ (.bool q) = w2 := ⟨_, rfl⟩
          rw [hw2] at HQB K2 HPB2
          try rw [hw2]
          clear hw2 y0 y1 y2 y3 yf0 yf1 yf2 yf3
          obtain ⟨⟨r0, r1, r2, r3⟩, rf0, rf1, rf2, rf3⟩ := HQB.out.cells
          obtain ⟨⟨s0, s1, s2, s3⟩, -⟩ := HPB2.out.cells
          have hq2 := heap_lt HQB.out
          refine (HF.out w2 (.slice oa on oc) ow (HAO.out.kept K2.out) HTO.out).mono ?_
          rintro x w3 ⟨vo, rfl, ho3, k3⟩
          obtain ⟨va, vn, vc, rfl⟩ := ho3.slice
          have hq3 : PAf w3 qb kk (t.take 60) (.slice none 0 0) q := k3.heap HQB.out (fun h => h)
          have hz3 := k3.size
          have hq3l := heap_lt hq3
          clear r0 r1 r2 r3 rf0 rf1 rf2 rf3 s0 s1 s2 s3
          obtain ⟨⟨r0, r1, r2, r3⟩, rf0, rf1, rf2, rf3⟩ := hq3.cells
          have HQB4 : Hid (PAf (w3.setCell ⟨qb, 2, none⟩ (.slice va vn vc)) qb kk (t.take 60) (.slice va vn vc) q) := Lw.hid (heap_set hq3 2 _)
          have K4 : Hid (Kept (fun _ => False) wr (w3.setCell ⟨qb, 2, none⟩ (.slice va vn vc))) := Lw.hid (Kept.set (K2.out.trans k3 (fun _ _ h => h)) qb 2 (fun h => by omega) _)
          have HO4 : Hid (WAt (w3.setCell ⟨qb, 2, none⟩ (.slice va vn vc)) (fun b => wr.heap.size ≤ b ∧ b < w3.heap.size) (.slice va vn vc) (fewF 1 ow)) := Lw.hid ((ho3.mono (G := fun b => w2.heap.size ≤ b ∧ b < w3.heap.size) (fun b hb hx => ⟨hx, hb⟩)).kept (S := fun b => b = qb) (Kept.set (S := fun b => b = qb) (Kept.refl _ w3) qb 2 (fun _ => rfl) _) (fun b hb e => by have e' : b = qb := e; omega) |>.mono (fun b _ hb => ⟨by have := K2.out.size; omega, hb.2⟩))
          have hs4 : (w3.setCell ⟨qb, 2, none⟩ (.slice va vn vc)).heap.size = w3.heap.size := by simp
          clear ho3 hq3
          obtain ⟨xs, hown, hadd⟩ := (HF0.out.call K4.out).own
          have hr8 : (fewF 2 (l.take k)).length ≤ 8 := HFL.out
          generalize (fewF 2 (l.take k)).length = rn at *
          have HOWN := Lw.hid hown; have HADD := Lw.hid hadd
          clear hown hadd
          go_wp2_with (at_builtin; refine wpList_app rfl _ _ _ rfl EPt _ rn xs rfl (HOWN.out.alloc _) _ 1 [.int .i64 kk, .string (BA (t.take 60)), .slice va vn vc, .bool q] rfl (Rd.lit (w3.setCell ⟨qb, 2, none⟩ (.slice va vn vc)) [.int .i64 kk, .string (BA (t.take 60)), .slice va vn vc, .bool q] _ 4 _ 1 (by simp) rfl (by unfold maxLen; omega)) (pc_one' (.mk kk (t.take 60) [] q, .slice va vn vc) rfl) (by unfold maxLen; omega) (by omega) ?_; intro ad9 cap9 w9 ho9 hg9 hf9)
          have HREL := Lw.hid (HADD.out w9 _ (.mk kk (t.take 60) (orF 2 ow) q) (.slice va vn vc) _ (HO4.out.mono (fun b _ hb => by rw [hs4]; exact hb)) ho9 ((Kept.refl (fun _ => False) (w3.setCell ⟨qb, 2, none⟩ (.slice va vn vc))).alloc _) hg9 hf9)
          clear ho9 hg9 hf9
          try (go_wp2_with fail)
          go_roundg (n - (k + 1))
          case measure => omega
          case rel => exact ⟨k + 1, rfl, by first | assumption | omega, by go_num, by rw [HSN.out]; exact HREL.out⟩
      · have hd8 : decide (k < 8) = false := decide_eq_false h8
        have hd8' : decide ((k : Int) < 8) = false := decide_eq_false (by omega)
        have HMO := Lw.hid (fewF_more (d := 2) (l := l) (k := k) (by omega))
        have HW2 := Lw.hid (HF0.out.call ((Kept.refl (fun _ => False) wr).alloc (.cells #[.int .i64 p.kind, .string (BA p.text), .slice oa on oc, .bool p.quoted] 46)))
        clear hp hpm hto hao h8
        go_wp2_with fail
        go_roundg (n - (k + 1))
        case measure => omega
        case rel => exact ⟨k + 1, rfl, hlt, by go_num, by rw [HMO.out]; obtain ⟨ps, F, h1, h2, h3, _, h5⟩ := HW2.out; exact ⟨ps, F, h1, h2, h3, fun _ h => h.elim, h5⟩⟩
    · have hke : k = n := by omega
      have hdn : decide (k < n) = false := decide_eq_false hlt
      have HFIN : Hid (fewF 2 (l.take k) = fewF 2 l) := Lw.hid (by rw [List.take_of_length_le (by rw [← HN.out, hke]; exact Nat.le_refl _)])
      have HAT := Lw.hid HF0.out.at
      clear hke
      go_wp2_with fail
      go_ret
      exact ⟨_, rfl, by rw [← HFIN.out]; exact HAT.out.1, HAT.out.2⟩
end Go.Proofs.YtifcgeanippepaaDoor
