/- WordTells: a word as the document has it. -/
import Derived.Test.YtifcgeanippepaaDoorM29
import Derived.Test.YtifcgeanippepaaDoorM26
namespace Go.Proofs.YtifcgeanippepaaDoor
open Go Go.RowKit Go.Lw
set_option maxRecDepth 100000
set_option linter.unusedVariables false
set_option linter.unusedSimpArgs false
attribute [local go_sem] BA_toList
theorem szL_len : ∀ l : List Prt, l.length ≤ szL l
  | [] => Nat.zero_le _
  | .mk k t o q :: l => by
    have e : szL (.mk k t o q :: l) = szP (.mk k t o q) + szL l := by show szP.szL _ = _; rw [szP.szL]
    have h1 := szL_len l
    have h2 : szP (.mk k t o q) = 1 + szL o := by rw [szP]
    rw [e, h2, List.length_cons]
    exact Nat.le_trans (Nat.succ_le_succ h1) (by omega)
theorem szL_sum {B : Nat} : ∀ (l : List Prt), (∀ p ∈ l, szP p ≤ B) → szL l ≤ l.length * B + 1
  | [], _ => by show szP.szL [] ≤ _; rw [szP.szL]; omega
  | p :: l, h => by
    have e : szL (p :: l) = szP p + szL l := by show szP.szL _ = _; rw [szP.szL]
    have h1 := szL_sum l (fun x hx => h x (List.mem_cons_of_mem _ hx))
    have h2 := h p List.mem_cons_self
    rw [e, List.length_cons, Nat.succ_mul]
    omega
theorem szF {d B : Nat} (h : ∀ w, szL (orF d w) ≤ B) (w : List Prt) : szL (fewF d w) ≤ 8 * (1 + B) + 1 := by
  rw [fewF_eq]
  refine Nat.le_trans (szL_sum (B := 1 + B) _ (fun p hp => ?_)) ?_
  · obtain ⟨x, _, rfl⟩ := List.mem_map.1 hp
    have e : szP (few1 (orF d) x) = 1 + szL (orF d x.orw) := by unfold few1; rw [szP]
    rw [e]
    have := h x.orw
    omega
  · rw [List.length_map, List.length_take]
    exact Nat.succ_le_succ (Nat.mul_le_mul (by omega) (Nat.le_refl _))
theorem few3_sz (w : List Prt) : szL (fewF 3 w) ≤ 1000000 := by
  have h0 : ∀ w, szL (orF 0 w) ≤ 1 := fun w => by show szP.szL [] ≤ _; rw [szP.szL]; omega
  have h1 : ∀ w, szL (orF 1 w) ≤ 17 := fun w => szF h0 w
  have h2 : ∀ w, szL (orF 2 w) ≤ 145 := fun w => szF h1 w
  have h3 : ∀ w, szL (orF 3 w) ≤ 1169 := fun w => szF h2 w
  exact Nat.le_trans (szF h3 w) (by decide)
/-- What Of gives. -/
def OfPost (w : World) (l : List Prt) (x : Ending) (w' : World) : Prop := ∃ v', x = .returned v' ∧ WAt w' (fun b => w.heap.size ≤ b) v' l ∧ Kept (fun _ => False) w w'
/-- The contract of Of, for words of a size. -/
def COf (n : Nat) : Prop := n ≤ 1000000 → ∀ (w : World) (F : Nat → Prop) (v : Value) (l : List Prt), szL l ≤ n → WAt w F v l →
  Calls Tryd.prog 31 #[v] w (OfPost w l)
def stW (lo : Nat) (l : List Prt) : Stable := ⟨fun v w => WAt w (fun b => lo ≤ b) v l, fun _ _ _ hk h => h.kept hk (fun _ _ h => h)⟩
def stPz (lo : Nat) (k : Int) (t : List UInt8) (l : List Prt) (q : Bool) : Stable := ⟨fun v w => ∃ a n c, v = .agg #[.int .i64 k, .string (BA t), .slice a n c, .bool q] ∧ WAt w (fun b => lo ≤ b) (.slice a n c) l, fun _ _ _ hk ⟨a, n, c, e, h⟩ => ⟨a, n, c, e, h.kept hk (fun _ _ h => h)⟩⟩
def stLz (lo : Nat) (k : Int) (t : List UInt8) (l : List Prt) (q : Bool) : Stable := ⟨fun v w => ∃ b a n c, v = .slice (some ⟨b, 0, none⟩) 1 1 ∧ lo ≤ b ∧ w.heap[b]? = some (.cells #[.int .i64 k, .string (BA t), .slice a n c, .bool q] 103 (0, 0)) ∧ WAt w (fun b => lo ≤ b) (.slice a n c) l,
  fun _ _ _ hk ⟨b, a, n, c, e, hb, hh, h⟩ => ⟨b, a, n, c, e, hb, hk.heap hh (fun h => h), h.kept hk (fun _ _ h => h)⟩⟩
theorem rd_one {w : World} {b : Nat} {cs : List Value} {T : TypeId} (h : w.heap[b]? = some (.cells cs.toArray T (0, 0))) (hl : cs.length = 4) : Rd w 4 (.slice (some ⟨b, 0, none⟩) 1 1) 1 cs := by
  refine ⟨by rw [hl], _, _, rfl, Nat.le_refl _, by unfold maxLen; omega, fun j u hj => ⟨b, 0, rfl, ?_⟩⟩
  rw [Nat.zero_add, heap_cell h j]
  simpa using hj
set_option maxHeartbeats 16000000 in
theorem of_all (n : Nat) : COf n := by
  induction n using Nat.strongRecOn with
  | ind n ih =>
    intro hn6 w F v l hsz hv
    obtain ⟨a, n0, c, rfl⟩ := hv.slice
    have hn := hv.elem.1
    have hn9 := hv.max
    have hpos := szL_pos l
    have hlz := szL_len l
    have hn8 : n0 ≤ 1000000 := by omega
    have HS : Hid (COf (n - 1)) := Lw.hid (ih (n - 1) (by omega) )
    have HV := Lw.hid hv; have HN := Lw.hid hn; have HSZ := Lw.hid hsz
    have HST : Hid (WO w (fun _ => False) (l.take 0) (.slice none 0 0) w) := Lw.hid (WO.nil w)
    clear ih hv hn hsz hpos hlz
    go_enter Tryd.func31, Tryd.ntmps31
    go_wp2_with fail
    go_loopg [3, 8] n0 (fun gk s3 s8 wx => ∃ k : Nat, gk = n0 - k ∧ k ≤ n0 ∧ s8 = .int .i64 (k : Int) ∧ WO w (fun _ => False) (l.take k) s3 wx)
    case atStart => exact ⟨0, rfl, Nat.zero_le _, rfl, HST.out⟩
    case round =>
      obtain ⟨k, rfl, hk, rfl, hf⟩ := hrel
      obtain ⟨_, hown0, _⟩ := hf.own
      have hlk : (l.take k).length = k := by rw [List.length_take, ← HN.out]; omega
      rw [hlk] at hown0
      obtain ⟨ra, rcp, rfl, _, _, _⟩ := own_slice hown0
      clear hlk
      clear hown0
      have HF0 := Lw.hid hf
      have HKW := Lw.hid hf.at.2
      clear hf HST
      by_cases hlt : k < n0
      · obtain ⟨p, hp⟩ : ∃ p, l[k]? = some p := ⟨_, List.getElem?_eq_getElem (by rw [← HN.out]; exact hlt)⟩
        have hpm : p ∈ l := List.mem_of_getElem? hp
        have hps : szL p.orw ≤ n - 1 := by
          have h1 : szP p < szL l := szL_mem hpm
          have h2 := sizeOf_orw p
          have h3 := HSZ.out
          omega
        have hkl : k < l.length := by rw [← HN.out]; exact hlt
        obtain ⟨b1, o1, oa, on, oc, e1, p0, p1, p2, p3, hao⟩ := (HV.out.kept HKW.out (fun _ _ h => h)).elem.2 k p hp
        subst e1
        have HSN : Hid (l.take (k + 1) = l.take k ++ [p]) := Lw.hid (by rw [List.take_add_one, hp]; rfl)
        have hbl : b1 < wr.heap.size := World.block_lt_of_cell? wr _ p0
        have hdn : decide (k < n0) = true := decide_eq_true hlt
        obtain ⟨kk, t, ow, q⟩ := p
        simp only [Prt.kind, Prt.text, Prt.orw, Prt.quoted] at p0 p1 p2 p3 hao hps
        have HAO := Lw.hid hao; have HPS := Lw.hid hps
        have K1 : Hid (Kept (fun _ => False) wr (wr.alloc (.cells #[.int .i64 kk, .string (BA t), .slice oa on oc, .bool q] 46))) := Lw.hid ((Kept.refl _ wr).alloc _)
        have HPB : Hid (PAf (wr.alloc (.cells #[.int .i64 kk, .string (BA t), .slice oa on oc, .bool q] 46)) wr.heap.size kk t (.slice oa on oc) q) := Lw.hid (heap_alloc wr _)
        have hsz1 : wr.heap.size ≤ (wr.alloc (.cells #[.int .i64 kk, .string (BA t), .slice oa on oc, .bool q] 46)).heap.size := by rw [World.size_alloc]; omega
        have HSZ1 := Lw.hid hsz1
        clear hao hps hp hpm hkl hsz1
        go_wp2_with fail
        obtain ⟨w1, hw1⟩ : ∃ w1, wr.alloc (.cells #[.int .i64 kk, .string (BA t), .slice oa on oc, .bool q] 46) = w1 := ⟨_, rfl⟩
        obtain ⟨pb, hpb⟩ : ∃ pb, wr.heap.size = pb := ⟨_, rfl⟩
        rw [hw1] at K1 HPB HSZ1
        rw [hw1]
        rw [hpb] at HPB
        first | rw [hpb] | skip
        clear hw1 hpb p0 p1 p2 p3
        refine wp_region_tail 12 [stV (.slice ra k rcp), stV (.pointer (some ⟨pb, 0, none⟩)), stV (.int .i64 kk), stV (.pointer (some ⟨pb, 1, none⟩)), stV (.string (BA t)), stV (.pointer (some ⟨pb, 2, none⟩)), stV (.slice oa on oc), stW w1.heap.size ow, stV (.pointer (some ⟨pb, 3, none⟩)), stV (.bool q), stPz w1.heap.size kk t ow q, stLz w1.heap.size kk t ow q] (by kernel_rfl) (by kernel_rfl) ?_ ?_
        · -- each operation by itself
          refine ssteps_cons (fun a' w' hI hag hf K hK => ?_) ?_
          · have s3 := hag.same 3 (by decide)
            clear hag
            go_wp2_with fail
            exact hK _ _ hI (Kept.refl _ _) rfl
          refine ssteps_cons (fun a' w' hI hag hf K hK => ?_) ?_
          · have s5 := hag.same 5 (by decide)
            clear hag
            go_wp2_with fail
            exact hK _ _ hI (Kept.refl _ _) rfl
          refine ssteps_cons (fun a' w' hI hag hf K hK => ?_) ?_
          · obtain ⟨⟨_, h1, rfl⟩, -⟩ : SFacts _ _ a' w' [1] := hf
            clear hag
            have hh : PAf w' pb kk t (.slice oa on oc) q := hI.heap HPB.out (fun h => h)
            obtain ⟨⟨r0, r1, r2, r3⟩, -⟩ := PAf.cells hh
            clear hh
            go_wp2_with fail
            exact hK _ _ hI (Kept.refl _ _) rfl
          refine ssteps_cons (fun a' w' hI hag hf K hK => ?_) ?_
          · have s5 := hag.same 5 (by decide)
            clear hag
            go_wp2_with fail
            exact hK _ _ hI (Kept.refl _ _) rfl
          refine ssteps_cons (fun a' w' hI hag hf K hK => ?_) ?_
          · obtain ⟨⟨_, h3, rfl⟩, -⟩ : SFacts _ _ a' w' [3] := hf
            clear hag
            have hh : PAf w' pb kk t (.slice oa on oc) q := hI.heap HPB.out (fun h => h)
            obtain ⟨⟨r0, r1, r2, r3⟩, -⟩ := PAf.cells hh
            clear hh
            go_wp2_with fail
            exact hK _ _ hI (Kept.refl _ _) rfl
          refine ssteps_cons (fun a' w' hI hag hf K hK => ?_) ?_
          · have s5 := hag.same 5 (by decide)
            clear hag
            go_wp2_with fail
            exact hK _ _ hI (Kept.refl _ _) rfl
          refine ssteps_cons (fun a' w' hI hag hf K hK => ?_) ?_
          · obtain ⟨⟨_, h5, rfl⟩, -⟩ : SFacts _ _ a' w' [5] := hf
            clear hag
            have hh : PAf w' pb kk t (.slice oa on oc) q := hI.heap HPB.out (fun h => h)
            obtain ⟨⟨r0, r1, r2, r3⟩, -⟩ := PAf.cells hh
            clear hh
            go_wp2_with fail
            exact hK _ _ hI (Kept.refl _ _) rfl
          refine ssteps_cons (fun a' w' hI hag hf K hK => ?_) ?_
          · obtain ⟨⟨_, h6, rfl⟩, -⟩ : SFacts _ _ a' w' [6] := hf
            clear hag
            go_wp2_with fail
            refine (HS.out (by omega) _ F (.slice oa on oc) ow HPS.out (HAO.out.kept (K1.out.trans hI (fun _ _ h => h)) (fun _ _ h => h))).mono ?_
            rintro e wn ⟨vo, rfl, hvo, hkn⟩
            go_wp2_with fail
            exact hK _ _ (hI.trans hkn (fun _ _ h => h)) hkn (hvo.mono (fun b _ hb => Nat.le_trans hI.size hb))
          refine ssteps_cons (fun a' w' hI hag hf K hK => ?_) ?_
          · have s5 := hag.same 5 (by decide)
            clear hag
            go_wp2_with fail
            exact hK _ _ hI (Kept.refl _ _) rfl
          refine ssteps_cons (fun a' w' hI hag hf K hK => ?_) ?_
          · obtain ⟨⟨_, h8, rfl⟩, -⟩ : SFacts _ _ a' w' [8] := hf
            clear hag
            have hh : PAf w' pb kk t (.slice oa on oc) q := hI.heap HPB.out (fun h => h)
            obtain ⟨⟨r0, r1, r2, r3⟩, -⟩ := PAf.cells hh
            clear hh
            go_wp2_with fail
            exact hK _ _ hI (Kept.refl _ _) rfl
          refine ssteps_cons (fun a' w' hI hag hf K hK => ?_) ?_
          · obtain ⟨⟨_, h2, rfl⟩, ⟨_, h4, rfl⟩, ⟨v7, h7, e7⟩, ⟨_, h9, rfl⟩, -⟩ : SFacts _ _ a' w' [2, 4, 7, 9] := hf
            clear hag
            obtain ⟨oa2, on2, oc2, rfl⟩ := WAt.slice e7
            go_wp2_with fail
            exact hK _ _ hI (Kept.refl _ _) ⟨oa2, on2, oc2, rfl, e7⟩
          refine ssteps_cons (fun a' w' hI hag hf K hK => ?_) ?_
          · obtain ⟨⟨v10, h10, e10⟩, -⟩ : SFacts _ _ a' w' [10] := hf
            clear hag
            obtain ⟨oa2, on2, oc2, rfl, e9⟩ := e10
            go_wp2_with fail
            exact hK _ _ (hI.alloc _) ((Kept.refl _ _).alloc _) ⟨_, oa2, on2, oc2, rfl, hI.size, heap_alloc _ _, e9.kept ((Kept.refl (fun _ => False) _).alloc _) (fun _ _ h => h)⟩
          exact trivial
        · intro vs wz hI hvs
          have q0 : vs 0 = (.slice ra k rcp) := hvs 0 _ _ rfl rfl
          have q1 : vs 1 = (.pointer (some ⟨pb, 0, none⟩)) := hvs 1 _ _ rfl rfl
          have q2 : vs 2 = (.int .i64 kk) := hvs 2 _ _ rfl rfl
          have q3 : vs 3 = (.pointer (some ⟨pb, 1, none⟩)) := hvs 3 _ _ rfl rfl
          have q4 : vs 4 = (.string (BA t)) := hvs 4 _ _ rfl rfl
          have q5 : vs 5 = (.pointer (some ⟨pb, 2, none⟩)) := hvs 5 _ _ rfl rfl
          have q6 : vs 6 = (.slice oa on oc) := hvs 6 _ _ rfl rfl
          have q7 := hvs 7 _ _ rfl rfl
          have q8 : vs 8 = (.pointer (some ⟨pb, 3, none⟩)) := hvs 8 _ _ rfl rfl
          have q9 : vs 9 = (.bool q) := hvs 9 _ _ rfl rfl
          have q10 := hvs 10 _ _ rfl rfl
          have q11 := hvs 11 _ _ rfl rfl
          clear hvs
          simp only [List.take_succ_cons, List.take_zero, List.drop_succ_cons, List.drop_zero, putAll, Act.put, List.setIfInBounds_toArray, List.set_cons_zero, List.set_cons_succ, Nat.reduceAdd, q0, q1, q2, q3, q4, q5, q6, q8, q9]
          clear q0 q1 q2 q3 q4 q5 q6 q8 q9
          generalize vs 7 = x7 at *
          generalize vs 10 = x10 at *
          generalize vs 11 = x11 at *
          obtain ⟨nb, va, vn, vc, rfl, hnb, hhb, hov⟩ := q11
          have KZ : Hid (Kept (fun _ => False) wr wz) := Lw.hid (K1.out.trans hI (fun _ _ h => h))
          obtain ⟨xs, hown, hadd⟩ := (HF0.out.call KZ.out).own
          have hlk : (l.take k).length = k := by rw [List.length_take, ← HN.out]; omega
          rw [hlk] at hown hadd
          have HAD := Lw.hid (fun w9 v' (ho9 : w9.ownsRow 0 103 4 v' (k + 1) (xs ++ PC (.mk kk t ow q, .slice va vn vc))) (hg9 : wz.grownBy w9 (Value.slice ra k rcp).ownBlock) (hf9 : Fresh wz (.slice ra k rcp) v') => hadd w9 v' (.mk kk t ow q) (.slice va vn vc) wz (hov.mono (fun b hb hx => ⟨by have := HSZ1.out; omega, hb⟩)) ho9 (Kept.refl _ _) hg9 hf9)
          have HRD := Lw.hid (rd_one (cs := [.int .i64 kk, .string (BA t), .slice va vn vc, .bool q]) hhb rfl)
          have HOWN := Lw.hid hown
          clear hown hadd hhb hov hlk
          go_wp2_with (at_builtin; refine wpList_app rfl _ _ _ rfl EPz _ k xs rfl HOWN.out _ 1 [.int .i64 kk, .string (BA t), .slice va vn vc, .bool q] rfl HRD.out (pc_one' (.mk kk t [] q, .slice va vn vc) rfl) (by unfold maxLen; omega) (by omega) ?_; intro ad9 cap9 w9 ho9 hg9 hf9)
          have HREL := Lw.hid (HAD.out _ _ ho9 hg9 hf9)
          clear ho9 hg9 hf9 hI
          try (go_wp2_with fail)
          go_roundg (n0 - (k + 1))
          case measure => omega
          case rel => exact ⟨k + 1, rfl, hlt, by go_num, by rw [HSN.out]; exact HREL.out⟩
      · have hke : k = n0 := by omega
        have hdn : decide (k < n0) = false := decide_eq_false hlt
        have HFIN : Hid (l.take k = l) := Lw.hid (List.take_of_length_le (by rw [← HN.out, hke]; exact Nat.le_refl _))
        have HAT := Lw.hid HF0.out.at
        clear hke
        go_wp2_with fail
        go_ret
        exact ⟨_, rfl, by rw [← HFIN.out]; exact HAT.out.1, HAT.out.2⟩
/-- Of. -/
theorem of_any {w : World} {F : Nat → Prop} {v : Value} {l : List Prt} (hl : szL l ≤ 1000000) (hv : WAt w F v l) : Calls Tryd.prog 31 #[v] w (OfPost w l) := of_all (szL l) hl w F v l (Nat.le_refl _) hv
end Go.Proofs.YtifcgeanippepaaDoor
/- WordTells: the document's lexer: arithmetic. -/
namespace Go.Proofs.YtifcgeanippepaaDoor
open Go Go.RowKit Go.Lw
set_option maxRecDepth 100000
set_option linter.unusedVariables false
set_option linter.unusedSimpArgs false
attribute [local go_sem] BA_toList
theorem oddA_nat (c : UInt8) : (oddA c = true) ↔ (c.toNat = 39 ∨ c.toNat = 34 ∨ c.toNat = 92 ∨ c.toNat = 96 ∨ c.toNat = 36 ∨ c.toNat = 10) := by
  have e : ∀ k : UInt8, ((c == k) = true) ↔ c.toNat = k.toNat := fun k => by rw [beq_iff_eq, ← UInt8.toNat_inj]
  unfold oddA
  simp only [Bool.or_eq_true, e, or_assoc]
  rfl
def ArL (w : World) (s : List UInt8) (N : Nat) (R0 : Rs) (gk : Nat) (s1 s4 : Value) (wx : World) : Prop := ∃ (b n : Nat) (r : List UInt8), gk = N - b ∧ s1 = .int .i64 (b : Int) ∧ s4 = .int .i64 (n : Int) ∧ n ≤ b ∧ b ≤ N ∧ s.drop b = r ∧ arithF n r = R0 ∧ Kept (fun _ => False) w wx
set_option maxHeartbeats 16000000 in
theorem t16_arith (w : World) (s : List UInt8) (a : Nat) (hs9 : s.length ≤ 1000000) (ha : a ≤ s.length) : Calls Tryd.prog 129 #[.string (BA s), .int .i64 (a : Int)] w fun x w' => x = .returned (resR s.length (arithF 0 (s.drop a))) ∧ Kept (fun _ => False) w w' := by
  have hs := BA_size s
  obtain ⟨R0, hR0⟩ : ∃ R0, arithF 0 (s.drop a) = R0 := ⟨_, rfl⟩
  have HR0 := Lw.hid hR0
  rw [hR0]
  obtain ⟨N, hN⟩ : ∃ N, s.length = N := ⟨_, rfl⟩
  have HN := Lw.hid hN
  rw [hN] at hs hs9 ha ⊢
  clear hR0 hN
  go_enter Tryd.func129, Tryd.ntmps129
  go_wp2_with fail
  go_loopg [1, 6] (N - a) (fun gk s1 s4 wx => ArL w s N R0 gk s1 s4 wx)
  case atStart => exact ⟨a, 0, _, rfl, rfl, rfl, Nat.zero_le _, ha, rfl, HR0.out, Kept.refl _ w⟩
  case round =>
    obtain ⟨b, n, r, rfl, rfl, rfl, hnb, hb, hr, hu, hk⟩ := hrel
    have HU := Lw.hid hu; have HK := Lw.hid hk; have HRR := Lw.hid hr
    have hl : r.length = N - b := by rw [← hr, List.length_drop, HN.out]
    have HAT := Lw.hid (fun wx => t16_at wx s (b + 1) (by rw [HN.out]; exact hs9) (by omega))
    clear hu hk hr HR0
    cases r with
    | nil =>
      have hna : N ≤ b := by simp at hl; omega
      have HE : Hid (R0 = .error 5) := Lw.hid (by rw [← HU.out]; rfl)
      clear hl
      go_wp2_with fail
      all_goals
        go_ret2
        rw [HE.out]
        exact ⟨rfl, HK.out⟩
    | cons c r =>
      obtain ⟨hc0, hd1, hl1⟩ := drop_cons HRR.out
      have g0 := BA_get hc0
      rw [hd1] at HAT
      have HD1 := Lw.hid hd1
      have hna : b < N := by simp at hl; omega
      have HLN : Hid (r.length + (b + 1) = N) := Lw.hid (by simp at hl; omega)
      clear hl hl1 hc0 hd1
      by_cases hA : n = 0 ∧ c = 41 ∧ hd16 r = 41
      · obtain ⟨rfl, hc, hr1⟩ := hA
        obtain ⟨r2, rfl⟩ : ∃ r2, r = 41 :: r2 := by
          cases r with
          | nil => exact absurd hr1 (by decide)
          | cons d r2 => exact ⟨r2, by rw [show d = 41 from hr1]⟩
        have HE : Hid (R0 = .ok r2) := Lw.hid (by rw [← HU.out, hc]; rfl)
        have HRL : Hid (N - r2.length = b + 2) := Lw.hid (by have := HLN.out; simp at this; omega)
        have hc41 : ((c.toNat : Int) == 41) = true := by rw [hc]; rfl
        rw [show (hd16 (41 :: r2)).toNat = 41 from rfl] at HAT
        clear hc hr1
        go_wp2_with fail
        refine (HAT.out _).mono ?_
        rintro e w2 ⟨rfl, rfl⟩
        go_wp2_with fail
        go_ret2
        rw [HE.out]
        exact ⟨by show _ = Ending.returned (.tuple #[.int .i64 ((N - r2.length : Nat) : Int), .int .i64 0]); rw [HRL.out]; rfl, HK.out⟩
      · have HNA : Hid (¬ (n = 0 ∧ (c :: r).take 2 = [41, 41])) := Lw.hid (fun h => hA ⟨h.1, by
          cases r with
          | nil => simp at h
          | cons d r => simp at h; exact ⟨h.2.1, h.2.2⟩⟩)
        obtain ⟨y, hy⟩ : ∃ y, (hd16 r).toNat = y := ⟨_, rfl⟩
        have hyA : ¬ (n = 0 ∧ c = 41 ∧ y = 41) := fun h => hA ⟨h.1, h.2.1, UInt8.toNat_inj.1 (by rw [hy]; exact h.2.2)⟩
        rw [hy] at HAT
        clear hA hy
        by_cases h40 : c = 40
        · have HE : Hid (arithF (n + 1) r = R0) := Lw.hid (by rw [← HU.out]; exact (ar_up HNA.out h40).symm)
          have b40 : ((c.toNat : Int) == 40) = true := by rw [h40]; rfl
          have b41 : ((c.toNat : Int) == 41) = false := by rw [h40]; rfl
          have b39 : ((c.toNat : Int) == 39) = false := by rw [h40]; rfl
          have b34 : ((c.toNat : Int) == 34) = false := by rw [h40]; rfl
          have b92 : ((c.toNat : Int) == 92) = false := by rw [h40]; rfl
          have b96 : ((c.toNat : Int) == 96) = false := by rw [h40]; rfl
          have b36 : ((c.toNat : Int) == 36) = false := by rw [h40]; rfl
          have b10 : ((c.toNat : Int) == 10) = false := by rw [h40]; rfl
          clear h40 hyA
          by_cases hn0 : n = 0
          · have bn : ((n : Int) == 0) = true := by rw [hn0]; rfl
            go_wp2_with fail
            go_roundg (N - (b + 1))
            case measure => omega
            case rel => exact ⟨b + 1, n + 1, r, rfl, by go_num, by go_num, by omega, by omega, HD1.out, HE.out, HK.out⟩
          · have bn : ((n : Int) == 0) = false := by rw [beq_eq_false_iff_ne]; omega
            go_wp2_with fail
            go_roundg (N - (b + 1))
            case measure => omega
            case rel => exact ⟨b + 1, n + 1, r, rfl, by go_num, by go_num, by omega, by omega, HD1.out, HE.out, HK.out⟩
        have b40 : ((c.toNat : Int) == 40) = false := u8ne (k := 40) rfl h40
        by_cases h41 : c = 41
        · have b41 : ((c.toNat : Int) == 41) = true := by rw [h41]; rfl
          have b39 : ((c.toNat : Int) == 39) = false := by rw [h41]; rfl
          have b34 : ((c.toNat : Int) == 34) = false := by rw [h41]; rfl
          have b92 : ((c.toNat : Int) == 92) = false := by rw [h41]; rfl
          have b96 : ((c.toNat : Int) == 96) = false := by rw [h41]; rfl
          have b36 : ((c.toNat : Int) == 36) = false := by rw [h41]; rfl
          have b10 : ((c.toNat : Int) == 10) = false := by rw [h41]; rfl
          by_cases hn0 : n = 0
          · have bn : ((n : Int) == 0) = true := by rw [hn0]; rfl
            have by1 : ((y : Int) == 41) = false := by rw [beq_eq_false_iff_ne]; intro e; exact hyA ⟨hn0, h41, by omega⟩
            have HE : Hid (R0 = .error 5) := Lw.hid (by rw [← HU.out]; exact ar_bad HNA.out h40 (fun e => by omega) (.inl h41))
            clear h40 h41 hyA
            go_wp2_with fail
            refine (HAT.out _).mono ?_
            rintro e w2 ⟨rfl, rfl⟩
            go_wp2_with fail
            all_goals
              go_ret2
              rw [HE.out]
              exact ⟨rfl, HK.out⟩
          · have bn : ((n : Int) == 0) = false := by rw [beq_eq_false_iff_ne]; omega
            have HE : Hid (arithF (n - 1) r = R0) := Lw.hid (by rw [← HU.out]; exact (ar_down HNA.out h40 h41 (by omega)).symm)
            clear h40 h41 hyA
            go_wp2_with fail
            go_roundg (N - (b + 1))
            case measure => omega
            case rel => exact ⟨b + 1, n - 1, r, rfl, by go_num, (by rw [show ((n - 1 : Nat) : Int) = (n : Int) - 1 by omega]), by omega, by omega, HD1.out, HE.out, HK.out⟩
        have b41 : ((c.toNat : Int) == 41) = false := u8ne (k := 41) rfl h41
        by_cases hodd : oddA c = true
        · have HE : Hid (R0 = .error 5) := Lw.hid (by rw [← HU.out]; exact ar_bad HNA.out h40 (fun e => h41 e.1) (.inr hodd))
          have hod := (oddA_nat c).1 hodd
          clear h40 h41 hyA hodd
          by_cases hn0 : n = 0
          · have bn : ((n : Int) == 0) = true := by rw [hn0]; rfl
            rcases hod with h | h | h | h | h | h
            · have b39 : ((c.toNat : Int) == 39) = true := by rw [h]; rfl
              go_wp2_with fail
              all_goals
                go_ret2
                rw [HE.out]
                exact ⟨rfl, HK.out⟩
            · have b34 : ((c.toNat : Int) == 34) = true := by rw [h]; rfl
              have b39 : ((c.toNat : Int) == 39) = false := by rw [h]; rfl
              go_wp2_with fail
              all_goals
                go_ret2
                rw [HE.out]
                exact ⟨rfl, HK.out⟩
            · have b92 : ((c.toNat : Int) == 92) = true := by rw [h]; rfl
              have b39 : ((c.toNat : Int) == 39) = false := by rw [h]; rfl
              have b34 : ((c.toNat : Int) == 34) = false := by rw [h]; rfl
              go_wp2_with fail
              all_goals
                go_ret2
                rw [HE.out]
                exact ⟨rfl, HK.out⟩
            · have b96 : ((c.toNat : Int) == 96) = true := by rw [h]; rfl
              have b39 : ((c.toNat : Int) == 39) = false := by rw [h]; rfl
              have b34 : ((c.toNat : Int) == 34) = false := by rw [h]; rfl
              have b92 : ((c.toNat : Int) == 92) = false := by rw [h]; rfl
              go_wp2_with fail
              all_goals
                go_ret2
                rw [HE.out]
                exact ⟨rfl, HK.out⟩
            · have b36 : ((c.toNat : Int) == 36) = true := by rw [h]; rfl
              have b39 : ((c.toNat : Int) == 39) = false := by rw [h]; rfl
              have b34 : ((c.toNat : Int) == 34) = false := by rw [h]; rfl
              have b92 : ((c.toNat : Int) == 92) = false := by rw [h]; rfl
              have b96 : ((c.toNat : Int) == 96) = false := by rw [h]; rfl
              go_wp2_with fail
              all_goals
                go_ret2
                rw [HE.out]
                exact ⟨rfl, HK.out⟩
            · have b10 : ((c.toNat : Int) == 10) = true := by rw [h]; rfl
              have b39 : ((c.toNat : Int) == 39) = false := by rw [h]; rfl
              have b34 : ((c.toNat : Int) == 34) = false := by rw [h]; rfl
              have b92 : ((c.toNat : Int) == 92) = false := by rw [h]; rfl
              have b96 : ((c.toNat : Int) == 96) = false := by rw [h]; rfl
              have b36 : ((c.toNat : Int) == 36) = false := by rw [h]; rfl
              go_wp2_with fail
              all_goals
                go_ret2
                rw [HE.out]
                exact ⟨rfl, HK.out⟩
          · have bn : ((n : Int) == 0) = false := by rw [beq_eq_false_iff_ne]; omega
            rcases hod with h | h | h | h | h | h
            · have b39 : ((c.toNat : Int) == 39) = true := by rw [h]; rfl
              go_wp2_with fail
              all_goals
                go_ret2
                rw [HE.out]
                exact ⟨rfl, HK.out⟩
            · have b34 : ((c.toNat : Int) == 34) = true := by rw [h]; rfl
              have b39 : ((c.toNat : Int) == 39) = false := by rw [h]; rfl
              go_wp2_with fail
              all_goals
                go_ret2
                rw [HE.out]
                exact ⟨rfl, HK.out⟩
            · have b92 : ((c.toNat : Int) == 92) = true := by rw [h]; rfl
              have b39 : ((c.toNat : Int) == 39) = false := by rw [h]; rfl
              have b34 : ((c.toNat : Int) == 34) = false := by rw [h]; rfl
              go_wp2_with fail
              all_goals
                go_ret2
                rw [HE.out]
                exact ⟨rfl, HK.out⟩
            · have b96 : ((c.toNat : Int) == 96) = true := by rw [h]; rfl
              have b39 : ((c.toNat : Int) == 39) = false := by rw [h]; rfl
              have b34 : ((c.toNat : Int) == 34) = false := by rw [h]; rfl
              have b92 : ((c.toNat : Int) == 92) = false := by rw [h]; rfl
              go_wp2_with fail
              all_goals
                go_ret2
                rw [HE.out]
                exact ⟨rfl, HK.out⟩
            · have b36 : ((c.toNat : Int) == 36) = true := by rw [h]; rfl
              have b39 : ((c.toNat : Int) == 39) = false := by rw [h]; rfl
              have b34 : ((c.toNat : Int) == 34) = false := by rw [h]; rfl
              have b92 : ((c.toNat : Int) == 92) = false := by rw [h]; rfl
              have b96 : ((c.toNat : Int) == 96) = false := by rw [h]; rfl
              go_wp2_with fail
              all_goals
                go_ret2
                rw [HE.out]
                exact ⟨rfl, HK.out⟩
            · have b10 : ((c.toNat : Int) == 10) = true := by rw [h]; rfl
              have b39 : ((c.toNat : Int) == 39) = false := by rw [h]; rfl
              have b34 : ((c.toNat : Int) == 34) = false := by rw [h]; rfl
              have b92 : ((c.toNat : Int) == 92) = false := by rw [h]; rfl
              have b96 : ((c.toNat : Int) == 96) = false := by rw [h]; rfl
              have b36 : ((c.toNat : Int) == 36) = false := by rw [h]; rfl
              go_wp2_with fail
              all_goals
                go_ret2
                rw [HE.out]
                exact ⟨rfl, HK.out⟩
        have HE : Hid (arithF n r = R0) := Lw.hid (by rw [← HU.out]; exact (ar_go HNA.out h40 h41 hodd).symm)
        have hod : ¬ (c.toNat = 39 ∨ c.toNat = 34 ∨ c.toNat = 92 ∨ c.toNat = 96 ∨ c.toNat = 36 ∨ c.toNat = 10) := fun h => hodd ((oddA_nat c).2 h)
        have b39 : ((c.toNat : Int) == 39) = false := by rw [beq_eq_false_iff_ne]; omega
        have b34 : ((c.toNat : Int) == 34) = false := by rw [beq_eq_false_iff_ne]; omega
        have b92 : ((c.toNat : Int) == 92) = false := by rw [beq_eq_false_iff_ne]; omega
        have b96 : ((c.toNat : Int) == 96) = false := by rw [beq_eq_false_iff_ne]; omega
        have b36 : ((c.toNat : Int) == 36) = false := by rw [beq_eq_false_iff_ne]; omega
        have b10 : ((c.toNat : Int) == 10) = false := by rw [beq_eq_false_iff_ne]; omega
        clear h40 h41 hyA hodd hod
        by_cases hn0 : n = 0
        · have bn : ((n : Int) == 0) = true := by rw [hn0]; rfl
          go_wp2_with fail
          go_roundg (N - (b + 1))
          case measure => omega
          case rel => exact ⟨b + 1, n, r, rfl, by go_num, rfl, by omega, by omega, HD1.out, HE.out, HK.out⟩
        · have bn : ((n : Int) == 0) = false := by rw [beq_eq_false_iff_ne]; omega
          go_wp2_with fail
          go_roundg (N - (b + 1))
          case measure => omega
          case rel => exact ⟨b + 1, n, r, rfl, by go_num, rfl, by omega, by omega, HD1.out, HE.out, HK.out⟩
end Go.Proofs.YtifcgeanippepaaDoor
