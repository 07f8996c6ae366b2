/- Of the proof of TopBooks: RD, TB. -/
import Derived.Test.YtgegjjnfcnalfaaGreatDoorG36
import Derived.Test.YtgegjjnfcnalfaaGreatDoorG32
import Derived.Test.YtgegjjnfcnalfaaGreatDoorG41
import Derived.Test.YtgegjjnfcnalfaaGreatDoorG34
namespace Go.Proofs.YtgegjjnfcnalfaaGreatDoor
open Go Go.RowKit Go.Lw
set_option maxRecDepth 100000
set_option linter.unusedVariables false
set_option linter.unusedSimpArgs false
attribute [local go_sem] BA_toList
theorem beq_any (w : World) (v1 v2 : Value) (l : List UInt8) (h1 : RdB w v1 l) (h2 : RdB w v2 l) :
    Calls Tryz.prog 21 #[v1, v2] w fun e w' => e = .returned (.bool true) ∧ w' = w := by
  have e1 := run_str (P := Tryz.prog) (src := 36) (dst := 9) h1 Tryz.underlying36 Tryz.underlying5 Tryz.underlying9
  have e2 := run_str (P := Tryz.prog) (src := 36) (dst := 9) h2 Tryz.underlying36 Tryz.underlying5 Tryz.underlying9
  refine (Tryz.bytes_Equal_strs v1 v2 _ _ w e1 e2).mono ?_
  rintro e w' ⟨rfl, rfl⟩
  exact ⟨by simp, rfl⟩
set_option maxHeartbeats 4000000 in
theorem jcommand_any (w : World) (F : Nat → Prop) (j BL sp : Nat) (va : Value) (J : Jr) (h : JAt w F j BL va sp J) (c : Cmd) (hc : J.cs = [c]) :
    Calls Tryz.prog 52 #[.pointer (some ⟨j, 0, none⟩), .int .u32 1] w fun e w' => e = .returned (.tuple #[.agg #[.int .u32 (c.id : Int), .string (BA c.text), .string (BA c.out), .string (BA c.err), .int .i64 c.sig, .int .i64 c.status, .bool c.over, .bool c.cut], .bool true]) ∧ Kept (fun _ => False) w w' := by
  obtain ⟨b, cap, rfl, hq1, hq2, hcl⟩ := h.cell (cs := []) hc
  obtain ⟨w1, hw1⟩ : ∃ w1, w.alloc (.cells #[.int .u32 0, .string ⟨#[]⟩, .string ⟨#[]⟩, .string ⟨#[]⟩, .int .i64 0, .int .i64 0, .bool false, .bool false] 54) = w1 := ⟨_, rfl⟩
  obtain ⟨r, hr⟩ : ∃ r, w.heap.size = r := ⟨_, rfl⟩
  have k1 : Kept (fun _ => False) w w1 := by rw [← hw1]; exact (Kept.refl _ w).alloc _
  have hrb : w1.heap[r]? = some (.cells #[.int .u32 0, .string ⟨#[]⟩, .string ⟨#[]⟩, .string ⟨#[]⟩, .int .i64 0, .int .i64 0, .bool false, .bool false] 54 (0, 0)) := by rw [← hw1, ← hr]; exact heap_alloc w _
  have H1 := Lw.hid (h.kept k1 (fun _ _ h => h))
  have q0 := k1.cell (hcl 0 (by decide)) (fun h => h); have q1 := k1.cell (hcl 1 (by decide)) (fun h => h); have q2 := k1.cell (hcl 2 (by decide)) (fun h => h); have q3 := k1.cell (hcl 3 (by decide)) (fun h => h); have q4 := k1.cell (hcl 4 (by decide)) (fun h => h); have q5 := k1.cell (hcl 5 (by decide)) (fun h => h); have q6 := k1.cell (hcl 6 (by decide)) (fun h => h); have q7 := k1.cell (hcl 7 (by decide)) (fun h => h)
  simp only [List.length_nil, Nat.zero_mul, Nat.zero_add, Cmd.cells] at q0 q1 q2 q3 q4 q5 q6 q7
  have jj := heap_cell H1.out.box 1
  have HRB := Lw.hid hrb; have HW := Lw.hid hw1; have HR := Lw.hid hr; have K1 := Lw.hid k1
  have HC1 : Hid (J.cs.length % 4294967296 = 1) := Lw.hid (by rw [hc]; rfl)
  unfold maxLen at hq2
  simp only [List.length_nil, Nat.zero_add] at jj hq1 H1
  clear h hc hcl hw1 hr hrb k1
  go_enter Tryz.func52, Tryz.ntmps52
  go_wp2_with fail
  rw [HW.out, HR.out]
  refine (jlast_any w1 F j BL sp _ J H1.out).mono ?_
  rw [HC1.out]
  rintro e _ ⟨rfl, rfl⟩
  have hs0 := heap_set HRB.out 0 (.int .u32 (c.id : Int))
  have hs1 := heap_set hs0 1 (.string (BA c.text))
  have hs2 := heap_set hs1 2 (.string (BA c.out))
  have hs3 := heap_set hs2 3 (.string (BA c.err))
  have hs4 := heap_set hs3 4 (.int .i64 c.sig)
  have hs5 := heap_set hs4 5 (.int .i64 c.status)
  have hs6 := heap_set hs5 6 (.bool c.over)
  have hs7 := heap_set hs6 7 (.bool c.cut)
  simp only [List.setIfInBounds_toArray, List.set_cons_zero, List.set_cons_succ] at hs0 hs1 hs2 hs3 hs4 hs5 hs6 hs7
  have y0 := heap_cell HRB.out 0; have z0 := heap_free HRB.out 0
  have y1 := heap_cell hs0 1; have z1 := heap_free hs0 1
  have y2 := heap_cell hs1 2; have z2 := heap_free hs1 2
  have y3 := heap_cell hs2 3; have z3 := heap_free hs2 3
  have y4 := heap_cell hs3 4; have z4 := heap_free hs3 4
  have y5 := heap_cell hs4 5; have z5 := heap_free hs4 5
  have y6 := heap_cell hs5 6; have z6 := heap_free hs5 6
  have y7 := heap_cell hs6 7; have z7 := heap_free hs6 7
  have ks := ((((((((Kept.refl (fun k => k = r) w1).set r 0 (fun _ => rfl) (.int .u32 (c.id : Int))).set r 1 (fun _ => rfl) (.string (BA c.text))).set r 2 (fun _ => rfl) (.string (BA c.out))).set r 3 (fun _ => rfl) (.string (BA c.err))).set r 4 (fun _ => rfl) (.int .i64 c.sig)).set r 5 (fun _ => rfl) (.int .i64 c.status)).set r 6 (fun _ => rfl) (.bool c.over)).set r 7 (fun _ => rfl) (.bool c.cut)
  have KS2 := Lw.hid ks; have HS7 := Lw.hid hs7
  clear hs0 hs1 hs2 hs3 hs4 hs5 hs6 hs7 ks
  go_wp2_with fail
  have n0 := heap_cell HS7.out 0; have n1 := heap_cell HS7.out 1; have n2 := heap_cell HS7.out 2; have n3 := heap_cell HS7.out 3; have n4 := heap_cell HS7.out 4; have n5 := heap_cell HS7.out 5; have n6 := heap_cell HS7.out 6; have n7 := heap_cell HS7.out 7
  simp only [List.getElem?_toArray, List.getElem?_cons_zero, List.getElem?_cons_succ] at n0 n1 n2 n3 n4 n5 n6 n7
  exact bodyPost_ret (v := .tuple #[.agg #[.int .u32 (c.id : Int), .string (BA c.text), .string (BA c.out), .string (BA c.err), .int .i64 c.sig, .int .i64 c.status, .bool c.over, .bool c.cut], .bool true]) (by simp [results, Tryz.results52, go_sem, n0, n1, n2, n3, n4, n5, n6, n7]) rfl ⟨rfl, K1.out.trans KS2.out (fun i hi e => by have := HR.out; omega)⟩
structure Env (w0 : World) : Prop where
  tab : Tab w0
  ml : MLx w0
theorem Env.lt {w0 : World} (h : Env w0) : 0 < w0.heap.size ∧ 1 < w0.heap.size := by
  refine ⟨World.block_lt_of_cell? w0 _ (h.tab 0 (by decide)), ?_⟩
  obtain ⟨m, hm⟩ := h.ml
  exact World.block_lt_of_cell? w0 _ hm
theorem Env.tabK {w0 w : World} (h : Env w0) (k : Kept (fun _ => False) w0 w) : Tab w := h.tab.below (k.below (Nat.le_refl _) (fun _ _ h => h))
theorem open_env (w0 w : World) (he : Env w0) (k0 : Kept (fun _ => False) w0 w) (g : Nat) (v : Value) (D : Dsk) (rs : List Rc) (t : List UInt8) (K : Nat) (h : DiskAt w g v D) (hg : w0.heap.size ≤ g) (hv : ∀ k, blk v k → w0.heap.size ≤ k) (hd : Rdt K D rs t) (hde : Dead t) (hr : 89 * rs.length + 89 ≤ D.cap) (hk : K + 2 ≤ 1000000) (hn : rs.length < 100) :
    Calls Tryz.prog 5 #[.pointer (some ⟨g, 0, none⟩)] w (OpPost K w g v D rs t) := by
  obtain ⟨h1, h2⟩ := he.lt
  exact jopen_any w g v D rs t K h hd hde hr hk hn (he.tabK k0) (he.ml.kept k0 (fun h => h)) ⟨by omega, fun e => by have := hv _ e; omega, by omega, fun e => by have := hv _ e; omega⟩
theorem new_rdt (n : Nat) (hn : n ≤ 1048576) : Rdt 0 ⟨n, [], 0, false, false, 0, 0⟩ [] [] :=
  ⟨⟨rfl, fun p hp => (by cases hp), hn, Nat.zero_le _⟩, rfl, rfl, ⟨Nat.zero_le _, hn, by show (0 : Nat) < _; omega, by show _ < (0 : Int); omega, by show (0 : Int) ≤ _; omega, fun h => (by cases h), by show -1 < (0 : Int) ∧ (0 : Int) ≤ _; omega⟩, Good.nil, Nat.zero_le _, Nat.le_refl _, by show -((0 : Nat) : Int) ≤ 0; omega, Nat.zero_le _⟩
set_option maxHeartbeats 4000000 in
theorem intent_yes (w : World) (B : Nat → Prop) (j BL g : Nat) (v : Value) (D : Dsk) (rs : List Rc) (K : Nat) (h : JL w B j BL g v D rs) (hd : Rdy K D rs) (ht : Tab w) (hr : 89 * rs.length + 89 ≤ D.cap) (hk : K + 1 ≤ 1000000) (hn : rs.length < 100) (t : List UInt8) (htl : t.length ≤ 60) (hop : (runJ rs).opn = none) :
    Calls Tryz.prog 44 #[.pointer (some ⟨j, 0, none⟩), .string (BA t)] w fun e w' => e = .returned (.tuple #[.int .u32 (((runJ rs).cs.length + 1 : Nat) : Int), .int .i64 0]) ∧ AOk w B j BL g D rs (.intent ((runJ rs).cs.length + 1) t) w' := by
  obtain ⟨F, va, sp, h1, h2, h3⟩ := h.m
  have hlen := JL.len (w := w) (B := B) (j := j) (BL := BL) (g := g) (v := v) hd
  have hsm : (runJ rs).cs.length ≤ 100 := by have := runJ_len rs; omega
  have H1 := Lw.hid h1; have HLN := Lw.hid hlen
  have HC := Lw.hid (app_intent w B j BL g v D rs K h hd ht hr hk hn _ t ⟨hop, rfl, htl⟩)
  obtain ⟨n, hnn⟩ : ∃ n, (runJ rs).cs.length = n := ⟨_, rfl⟩
  rw [hnn] at hsm
  have HN := Lw.hid hnn
  rw [hnn] at HC
  clear h hd ht hr hk hn h1 h2 h3 hlen hnn hop
  unfold rv at HC
  have e1 : (((n + 1 : Nat) : Int)) = (n : Int) + 1 := rfl
  rw [e1] at HC
  clear e1
  go_enter Tryz.func44, Tryz.ntmps44
  go_wp2_with fail
  refine (jnone_any w j BL sp va _ H1.out.box).mono ?_
  rintro e _ ⟨rfl, rfl⟩
  go_wp2_with fail
  refine (jlast_any w F j BL sp va _ H1.out).mono ?_
  rw [HLN.out, HN.out]
  rintro e _ ⟨rfl, rfl⟩
  go_wp2_with fail
  refine HC.out.mono ?_
  rintro e w2 ⟨rfl, hp⟩
  have HP := Lw.hid hp
  clear hp
  go_wp2_with fail
  exact bodyPost_ret (v := .tuple #[.int .u32 ((n : Int) + 1), .int .i64 0]) (by simp [results, go_sem]) rfl ⟨by rw [HN.out]; rfl, by rw [HN.out]; exact HP.out⟩
set_option maxHeartbeats 8000000 in
theorem book_any (w0 w : World) (he : Env w0) (k0 : Kept (fun _ => False) w0 w) :
    Calls Tryz.prog 22 #[] w fun e w' => e = .returned (.bool true) ∧ Kept (fun _ => False) w0 w' := by
  have HE := Lw.hid he; have K0 := Lw.hid k0
  have hz0 := k0.size
  clear he k0
  go_enter Tryz.func22, Tryz.ntmps22
  go_wp2_with fail
  refine (dnew_any w 500 (by decide)).mono ?_
  rintro e w1 ⟨g, rfl, hd1, k1, hg1⟩
  have D1 := Lw.hid hd1; have K1 := Lw.hid (K0.out.trans k1 (fun _ _ h => h)); have hg0 : w0.heap.size ≤ g := by omega
  have hgl := heap_lt hd1.box
  clear hd1 k1
  go_wp2_with fail
  refine (open_env w0 w1 HE.out K1.out g _ _ [] [] 0 D1.out hg0 (fun k hk => (blk_none hk).elim) (new_rdt 500 (by decide)) dead_nil (by decide) (by decide) (by decide)).mono ?_
  rintro e w2 ⟨v2, j, BL, D2, m2, rfl, hj2, hr2, hc2, k2, f2, hs2⟩
  obtain rfl := hs2 rfl rfl
  have K2 : Hid (Kept (fun _ => False) w0 w2) := Lw.hid (K1.out.trans k2 (fun i hi e => by rcases e with e | e; omega; exact (blk_none e).elim))
  have J2 : Hid (JL w2 (fun k => w0.heap.size ≤ k ∧ k < w2.heap.size) j BL g v2 ⟨500, [], 0, false, false, 0, 0⟩ []) := Lw.hid (hj2.mono (fun i hi h => by
    have hz1 := K1.out.size
    refine ⟨?_, hi⟩
    rcases h with h | h | h
    · omega
    · exact (blk_none h).elim
    · omega))
  clear hj2 hr2 hc2 k2 f2 hs2
  go_wp2_with fail
  refine (intent_yes w2 (fun k => w0.heap.size ≤ k ∧ k < w2.heap.size) j BL g v2 _ [] 0 J2.out (new_rdt 500 (by decide)).y (HE.out.tabK K2.out) (by decide) (by decide) (by decide) [97] (by decide) rfl).mono ?_
  rintro e w3 ⟨rfl, v3, hj3, k3⟩
  have J3 := Lw.hid hj3
  have K3 : Hid (Kept (fun _ => False) w0 w3) := Lw.hid (K2.out.trans k3 (fun i hi e => by omega))
  have hz3 := k3.size; have hz2 := K2.out.size
  have R3 := Lw.hid ((new_rdt 500 (by decide)).y.app (r := .intent 1 [97]) ⟨rfl, rfl, by decide⟩ (by decide) (by decide) (by decide)).2
  clear hj3 k3
  go_wp2_with fail
  refine (open_env w0 w3 HE.out K3.out g v3 _ [.intent 1 [97]] [] 1 J3.out.l.d hg0 (fun k hk => by rcases J3.out.b k (.inr (.inr hk)) with h | h <;> omega) R3.out.t dead_nil (by decide) (by decide) (by decide)).mono ?_
  rintro e w4 ⟨v4, kj, BL4, D4, m4, rfl, hj4, hr4, hc4, k4, f4, -⟩
  have K4 : Hid (Kept (fun _ => False) w0 w4) := Lw.hid (K3.out.trans k4 (fun i hi e => by
    rcases e with e | e
    · omega
    · rcases J3.out.b i (.inr (.inr e)) with h | h <;> omega))
  obtain ⟨F4, va4, sp4, ja4, -, -⟩ := hj4.m
  have JA4 := Lw.hid ja4
  clear hj4 hr4 hc4 k4 f4 ja4
  go_wp2_with fail
  refine (jcommand_any w4 F4 kj BL4 sp4 va4 _ JA4.out { cmd0 1 [97] with status := 125, over := true, cut := true } rfl).mono ?_
  rintro e w5 ⟨rfl, k5⟩
  have K5 := Lw.hid (K4.out.trans k5 (fun _ _ h => h))
  clear k5
  go_wp2_with fail
  go_ret
  exact ⟨by simp, K5.out.alloc _⟩
end Go.Proofs.YtgegjjnfcnalfaaGreatDoor
