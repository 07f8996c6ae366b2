/- LogKnown: walked. -/
import Derived.Test.YtfmebmaklakckaaDoorLogT
import Derived.Test.YtfmebmaklakckaaDoorLogK
import Derived.Test.YtfmebmaklakckaaDoorBEq
namespace Go.Proofs.YtfmebmaklakckaaDoor
open Go Go.RowKit Go.Lw
set_option maxRecDepth 100000
set_option linter.unusedVariables false
set_option linter.unusedSimpArgs false
/-- There is no log there. -/
def NoLog (w : World) (p : Option Addr) : Prop := p = none ∨ ∃ b, p = some ⟨b, 0, none⟩ ∧ w.cell? ⟨b, 0, none⟩ = some (.pointer none)
theorem lnone_no (w : World) (p : Option Addr) (h : NoLog w p) : Calls Tryd.prog 31 #[.pointer p] w fun e w' => e = .returned (.bool true) ∧ w = w' := by
  rcases h with rfl | ⟨g, rfl, c0⟩
  · exact lnone_nil w
  · go_enter Tryd.func31, Tryd.ntmps31
    go_wp2_with fail
    go_ret
    exact ⟨rfl, rfl⟩
theorem lapp_no (w : World) (p : Option Addr) (h : NoLog w p) (src : Value) : Calls Tryd.prog 7 #[.pointer p, src] w fun e w' => e = .returned (.tuple #[.int .u32 0, .int .i64 2]) ∧ w = w' := by
  have H := Lw.hid h
  clear h
  go_enter Tryd.func7, Tryd.ntmps7
  go_wp2_with fail
  refine (lnone_no w p H.out).mono ?_
  rintro e _ ⟨rfl, rfl⟩
  go_wp2_with fail
  exact bodyPost_ret (v := .tuple #[.int .u32 0, .int .i64 2]) (by simp [results, go_sem]) rfl ⟨rfl, rfl⟩
theorem lnext_no (w : World) (p : Option Addr) (h : NoLog w p) : Calls Tryd.prog 9 #[.pointer p] w fun e w' => e = .returned (.int .u32 0) ∧ w = w' := by
  have H := Lw.hid h
  clear h
  go_enter Tryd.func9, Tryd.ntmps9
  go_wp2_with fail
  refine (lnone_no w p H.out).mono ?_
  rintro e _ ⟨rfl, rfl⟩
  go_wp2_with fail
  go_ret
  exact ⟨rfl, rfl⟩
theorem lsize_no (w : World) (p : Option Addr) (h : NoLog w p) : Calls Tryd.prog 10 #[.pointer p] w fun e w' => e = .returned (.int .i64 0) ∧ w = w' := by
  have H := Lw.hid h
  clear h
  go_enter Tryd.func10, Tryd.ntmps10
  go_wp2_with fail
  refine (lnone_no w p H.out).mono ?_
  rintro e _ ⟨rfl, rfl⟩
  go_wp2_with fail
  go_ret
  exact ⟨rfl, rfl⟩
theorem dnone_nil (w : World) : Calls Tryd.prog 38 #[.pointer none] w fun e w' => e = .returned (.bool true) ∧ w = w' := by
  go_enter Tryd.func38, Tryd.ntmps38
  go_wp2_with fail
  go_ret
  exact ⟨rfl, rfl⟩
theorem dcopy_nil (w : World) : Calls Tryd.prog 35 #[.pointer none] w fun e w' => e = .returned (.pointer none) ∧ w = w' := by
  go_enter Tryd.func35, Tryd.ntmps35
  go_wp2_with fail
  refine (dnone_nil w).mono ?_
  rintro e _ ⟨rfl, rfl⟩
  go_wp2_with fail
  go_ret
  exact ⟨rfl, rfl⟩
theorem rec_nil (w : World) : Calls Tryd.prog 8 #[.pointer none] w fun e w' => e = .returned (.tuple #[.pointer none, .int .i64 2]) ∧ w = w' := by
  refine calls_of_wp_marks Tryd.func8 rfl ?_
  simp only [Tryd.ntmps8, List.size_toArray, List.length_cons, List.length_nil, Nat.reduceAdd, Nat.reduceSub, Array.replicate_succ, Array.replicate_zero, List.push_toArray, List.append_toArray, List.nil_append, List.cons_append]
  go_wp2_with fail
  refine (dcopy_nil w).mono ?_
  rintro e _ ⟨rfl, rfl⟩
  go_wp2_with fail
  exact ⟨.tuple #[.pointer none, .int .i64 2], by simp [results, go_sem], rfl, rfl⟩
abbrev one : List UInt8 := [111, 110, 101]
abbrev two : List UInt8 := [116, 119, 111]
abbrev nD (cap : Nat) : Dsk := ⟨cap, [], 0, false, false, 0, 0⟩
theorem one_enc : encF fz [one] = [0, 3, 0, 0, 0, 1, 83, 176, 101, 42, 111, 110, 101] := by decide +kernel
theorem enc_len (L : List (List UInt8)) (p : List UInt8) : (encF fz (L ++ [p])).length = (encF fz L).length + 10 + p.length := by rw [enc_snoc, List.length_append, frm_len]; omega
theorem hold_new {cap : Nat} (h : cap ≤ 1048576) : Hold (nD cap) [] [] := ⟨rfl, fun p h => by simp at h, h, Nat.zero_le _⟩
theorem hold_mk {cap puts : Nat} {st is : Bool} {np nb : Int} {L : List (List UInt8)} {t : List UInt8} (hL : ∀ p ∈ L, p.length ≤ 65535) (hc : cap ≤ 1048576) (hm : (encF fz L).length + t.length ≤ cap) : Hold ⟨cap, encF fz L ++ t, puts, st, is, np, nb⟩ L t :=
  ⟨rfl, hL, hc, by show (encF fz L ++ t).length ≤ cap; rw [List.length_append]; exact hm⟩
/-- What LogKnown does, step by step, for whatever 65535 bytes. -/
structure Steps15 (P : List UInt8) (D1 D3 D4 D5 D6 D7 D8 D9 E1 : Dsk) (s1 s2 t1 : Fd) : Prop where
  a1 : appF (nD 200000) fz one = (D1, s1, 1, 0)
  rd : D1.rd 0 100 = [0, 3, 0, 0, 0, 1, 83, 176, 101, 42, 111, 110, 101]
  f1 : s1.fin ≤ 1048576 ∧ s1.sum < 4294967296
  a3 : ∃ D2, appF D1 s1 P = (D2, s2, 2, 0) ∧ D2.plan 0 5 = (D3, 0)
  f2 : s2.fin = 65558 ∧ s2.sum < 4294967296
  a4 : appF D3 s2 two = (D4, s2, 0, 10)
  r4 : recF D4 = (D4, 10)
  v5 : D4.revive = (D5, 0)
  p6 : D5.plan 0 2 = (D6, 0)
  r7 : recF D6 = (D7, 10)
  v8 : D7.revive = (D8, 0)
  r9 : recF D8 = (D9, 0)
  l9 : lastF D8.b = s2
  n2 : nextN s2 = 3
  z1 : appF (nD 12) fz [97, 98, 99] = (nD 12, fz, 0, 7)
  z2 : appF (nD 12) fz [97, 98] = (E1, t1, 1, 0)
  z3 : nextN t1 = 2
theorem steps15 {P : List UInt8} (hP : P.length = 65535) : ∃ D1 D3 D4 D5 D6 D7 D8 D9 E1 s1 s2 t1, Steps15 P D1 D3 D4 D5 D6 D7 D8 D9 E1 s1 s2 t1 := by
  have h0 : (encF fz []).length = 0 := rfl
  have h1 : (encF fz [one]).length = 13 := enc_len [] one
  have h2 : (encF fz [one, P]).length = 65558 := by have := enc_len [one] P; rw [h1, hP] at this; exact this
  have hL1 : ∀ p ∈ [one], p.length ≤ 65535 := by intro p hp; rw [List.mem_singleton.1 hp]; decide
  have hL2 : ∀ p ∈ [one, P], p.length ≤ 65535 := by
    intro p hp
    rcases List.mem_cons.1 hp with rfl | hp
    · decide
    · rw [List.mem_singleton.1 hp]; omega
  have a1 := app_fits (p := one) (hold_new (cap := 200000) (by decide)) (by decide) rfl (by decide) (by simp)
  have H1 : Hold ⟨200000, encF fz [one] ++ [], 1, false, false, -1, 0⟩ [one] [] := hold_mk hL1 (by decide) (by rw [h1]; decide)
  have a3 : appF ⟨200000, encF fz [one] ++ [], 1, false, false, -1, 0⟩ (endF fz [one]) P = (⟨200000, encF fz [one, P] ++ [], 2, false, false, -2, 0⟩, endF fz [one, P], 2, 0) := by
    have := app_fits (p := P) H1 (by omega) rfl (by rw [h1, hP]; decide) (by simp)
    rw [List.drop_nil] at this
    exact this
  have H3 : Hold ⟨200000, encF fz [one, P] ++ [], 2, false, true, 0, 5⟩ [one, P] [] := hold_mk hL2 (by decide) (by rw [h2]; decide)
  have a4 : appF ⟨200000, encF fz [one, P] ++ [], 2, false, true, 0, 5⟩ (endF fz [one, P]) two = (⟨200000, encF fz [one, P] ++ ((frm [one, P] two).take 5 ++ []), 2, true, false, 0, 0⟩, endF fz [one, P], 0, 10) := app_torn (p := two) H3 (by decide) rfl (by rw [h2]; show 65558 + 10 + 3 ≤ 200000; decide) rfl rfl
  have hfl : (frm [one, P] two).length = 13 := frm_len _ _
  have htl : ((frm [one, P] two).take 5).length = 5 := by rw [List.length_take, hfl]; rfl
  have H6 : Hold ⟨200000, encF fz [one, P] ++ ((frm [one, P] two).take 5 ++ []), 2, false, true, 0, 2⟩ [one, P] ((frm [one, P] two).take 5 ++ []) := hold_mk hL2 (by decide) (by rw [h2, List.append_nil, htl]; decide)
  have d5 : Dead ((frm [one, P] two).take 5 ++ []) := dead_few (by rw [List.append_nil, htl]; decide)
  have n5 : (frm [one, P] two).take 5 ++ [] ≠ [] := by rw [List.append_nil]; intro h; rw [h] at htl; cases htl
  have r7 := rec_torn H6 d5 n5 rfl rfl rfl
  have e7 : min (2 : Int).toNat ((frm [one, P] two).take 5 ++ []).length = 2 := by rw [List.append_nil, htl]; rfl
  rw [show (⟨200000, encF fz [one, P] ++ ((frm [one, P] two).take 5 ++ []), 2, false, true, 0, 2⟩ : Dsk).nb = 2 from rfl, e7] at r7
  have hl8 : (zeros 2 ++ ((frm [one, P] two).take 5 ++ []).drop 2).length = 5 := by rw [List.length_append, zeros_len, List.length_drop, List.append_nil, htl]
  have H8 : Hold ⟨200000, encF fz [one, P] ++ (zeros 2 ++ ((frm [one, P] two).take 5 ++ []).drop 2), 2, false, false, 0, 0⟩ [one, P] (zeros 2 ++ ((frm [one, P] two).take 5 ++ []).drop 2) := hold_mk hL2 (by decide) (by rw [h2, hl8]; decide)
  have d8 : Dead (zeros 2 ++ ((frm [one, P] two).take 5 ++ []).drop 2) := dead_few (by rw [hl8]; decide)
  have n8 : zeros 2 ++ ((frm [one, P] two).take 5 ++ []).drop 2 ≠ [] := by intro h; rw [h] at hl8; cases hl8
  have r9 := rec_clean H8 d8 n8 rfl (by simp)
  have z1 := app_full (p := [97, 98, 99]) (hold_new (cap := 12) (by decide)) (by decide) rfl (by decide)
  have z2 := app_fits (p := [97, 98]) (hold_new (cap := 12) (by decide)) (by decide) rfl (by decide) (by simp)
  refine ⟨_, _, _, _, _, _, _, _, _, _, _, _, ⟨a1, ?_, ⟨?_, sum_ok _⟩, ⟨_, a3, rfl⟩, ⟨?_, sum_ok _⟩, a4, rec_halt rfl, rfl, rfl, r7, rfl, r9, H8.lastF d8, H8.num, z1, z2, ?_⟩⟩
  · show ((encF fz [one] ++ []).drop 0).take 100 = _
    rw [one_enc]; rfl
  · rw [fz_fin]; show (encF fz [one]).length ≤ _; rw [h1]; decide
  · rw [fz_fin]; exact h2
  · exact (fz_num (L := [[97, 98]]) (by have := enc_len [] [97, 98]; rw [h0] at this; show (encF fz ([] ++ [[97, 98]])).length ≤ _; rw [this]; decide)).2.2
theorem own0 {w : World} {r : Value} {vs : List Value} (h : w.ownsRow 0 38 1 r ([] : List (List UInt8)).length vs) : ∃ ad cap, r = .slice ad 0 cap := by
  obtain ⟨ad, cap, e, _⟩ := own_slice h
  exact ⟨ad, cap, e⟩
/-- Two rows of bytes beside a log. -/
structure Two (n : Nat) (w : World) (g BL : Nat) (v a b : Value) (l m : List UInt8) : Prop where
  ra : RdB w a l
  rb : RdB w b m
  s : ∀ k, blk a k ∨ blk b k → k ≠ g ∧ k ≠ BL ∧ ¬ blk v k ∧ k < n
  n : n ≤ w.heap.size
theorem Two.kept {n : Nat} {w w' : World} {g BL : Nat} {v a b : Value} {l m : List UInt8} (h : Two n w g BL v a b l m) {S : Nat → Prop} (k : Kept S w w') (hS : ∀ k, S k → n ≤ k) : Two n w' g BL v a b l m :=
  ⟨h.ra.kept k (fun i hi hs => by have := (h.s i (.inl hi)).2.2.2; have := hS i hs; omega), h.rb.kept k (fun i hi hs => by have := (h.s i (.inr hi)).2.2.2; have := hS i hs; omega), h.s, Nat.le_trans h.n k.size⟩
theorem Two.keptF {n : Nat} {w w' : World} {g BL : Nat} {v a b : Value} {l m : List UInt8} (h : Two n w g BL v a b l m) (k : Kept (fun _ => False) w w') : Two n w' g BL v a b l m := h.kept k (fun _ h => h.elim)
theorem Two.app {n : Nat} {w w' : World} {g BL : Nat} {v v' a b : Value} {l m : List UInt8} (h : Two n w g BL v a b l m) (k : Kept (fun k => k = BL ∨ k = g ∨ blk v k) w w') (f : ∀ k, blk v' k → blk v k ∨ w.heap.size ≤ k) : Two n w' g BL v' a b l m := by
  have hn := h.n
  have hs : ∀ k, blk a k ∨ blk b k → ¬ (k = BL ∨ k = g ∨ blk v k) := fun k hk e => by
    obtain ⟨h1, h2, h3, _⟩ := h.s k hk
    rcases e with e | e | e
    · exact h2 e
    · exact h1 e
    · exact h3 e
  refine ⟨h.ra.kept k (fun i hi => hs i (.inl hi)), h.rb.kept k (fun i hi => hs i (.inr hi)), fun i hi => ?_, Nat.le_trans h.n k.size⟩
  obtain ⟨h1, h2, h3, h4⟩ := h.s i hi
  refine ⟨h1, h2, fun e => ?_, h4⟩
  rcases f i e with e | e
  · exact h3 e
  · omega
theorem Two.go {n : Nat} {w w' : World} {g BL : Nat} {v v' a b : Value} {l m : List UInt8} (h : Two n w g BL v a b l m) (k : Kept (fun k => k = g ∨ blk v k) w w') (f : ∀ k, blk v' k → blk v k ∨ w.heap.size ≤ k) : Two n w' g BL v' a b l m := h.app (k.mono (fun _ _ h => .inr h)) f
abbrev wantL : List UInt8 := [0, 3, 0, 0, 0, 1, 83, 176, 101, 42, 111, 110, 101]
theorem crc_one' : crcN [0, 0, 0, 0, 0, 0, 0, 1, 0, 3, 111, 110, 101] = 1404069162 := by decide +kernel
set_option maxHeartbeats 16000000 in
theorem lknown_any (w : World) (ht : Tab w) :
    Calls Tryd.prog 3 #[] w fun e w' => e = .returned (.bool true) ∧ Kept (fun _ => False) w w' := by
  have HT := Lw.hid ht
  clear ht
  go_enter Tryd.func3, Tryd.ntmps3
  go_wp2_with fail
  obtain ⟨w1, hw1⟩ : ∃ w1, w.alloc (.cells #[.pointer none, .int .i64 0, .int .u32 0, .int .u32 0] 26) = w1 := ⟨_, rfl⟩
  have hz := heap_alloc w (.cells #[.pointer none, .int .i64 0, .int .u32 0, .int .u32 0] 26)
  have K1 : Hid (Kept (fun _ => False) w w1) := Lw.hid (by rw [← hw1]; exact (Kept.refl _ w).alloc _)
  obtain ⟨bz, hbz⟩ : ∃ bz, w.heap.size = bz := ⟨_, rfl⟩
  rw [hw1, hbz] at hz
  have HZ1 : Hid (NoLog w1 (some ⟨bz, 0, none⟩)) := Lw.hid (.inr ⟨bz, rfl, heap_cell hz 0⟩)
  have HN : Hid (∀ w, NoLog w none) := Lw.hid (fun _ => .inl rfl)
  rw [hw1, hbz]
  clear hw1 hbz hz
  refine (lapp_no w1 none (HN.out _) _).mono ?_
  rintro e _ ⟨rfl, rfl⟩
  go_wp2_with fail
  refine (lapp_no w1 _ HZ1.out _).mono ?_
  rintro e _ ⟨rfl, rfl⟩
  go_wp2_with fail
  refine (rec_nil w1).mono ?_
  rintro e _ ⟨rfl, rfl⟩
  go_wp2_with fail
  refine (lnext_no w1 none (HN.out _)).mono ?_
  rintro e _ ⟨rfl, rfl⟩
  go_wp2_with fail
  refine (lsize_no w1 _ HZ1.out).mono ?_
  rintro e _ ⟨rfl, rfl⟩
  go_wp2_with fail
  refine (rows_nil w1).mono ?_
  rintro e w2 ⟨r0, vs0, rfl, ho, _, _, k2⟩
  obtain ⟨ad0, cap0, rfl⟩ := own0 ho
  have K2 := Lw.hid (K1.out.trans k2 (fun _ _ h => h))
  clear ho k2 HZ1 K1
  go_wp2_with fail
  refine (dnew_any w2 200000 (by decide)).mono ?_
  rintro e w3 ⟨g, rfl, d3, k3, hg⟩
  have S3 : Hid (DsW w w3 g (.slice none 0 0) (nD 200000) 0) := Lw.hid (DsW.start d3 (K2.out.trans k3 (fun _ _ h => h)) (Nat.le_trans K2.out.size hg) (by decide) HT.out)
  clear d3 k3 hg K2
  obtain ⟨i, hi, hz0, hz1, hz2⟩ := diskInfoB
  obtain ⟨P, hP⟩ : ∃ P : List UInt8, List.replicate 65535 0 = P := ⟨_, rfl⟩
  obtain ⟨P2, hP2⟩ : ∃ P : List UInt8, List.replicate 65536 0 = P := ⟨_, rfl⟩
  have HPL : Hid (P.length = 65535) := Lw.hid (by rw [← hP]; exact List.length_replicate ..)
  have HPL2 : Hid (P2.length = 65536) := Lw.hid (by rw [← hP2]; exact List.length_replicate ..)
  obtain ⟨D1, D3, D4, D5, D6, D7, D8, D9, E1, s1, s2, t1, hst⟩ := steps15 HPL.out
  have ST := Lw.hid hst
  have HPE := Lw.hid hP; have HPE2 := Lw.hid hP2
  clear hst hP hP2
  go_wp2_with fail
  refine (rec_ok S3.out (by decide) (recF_new 200000) last_nil).mono ?_
  rintro e w4 ⟨v4, BL, rfl, s', _, b', _, _⟩
  have S4 := Lw.hid s'; have B4 := Lw.hid b'
  clear s' b' S3
  go_wp2_with (refine wpList_const rfl _ _ rfl _ _ _ _ rfl (by simp) Tryd.underlying38 Tryd.underlying5 ?_)
  refine (app_w (S4.out.keptF ((Kept.refl _ _).alloc _)) (by decide) (B4.out.keptF ((Kept.refl _ _).alloc _)) (by decide) (by decide) _ one (RdB.mark w4 one _ _ _ 3 rfl rfl (by decide))).mono ?_
  rw [ST.out.a1]
  rintro e w5 ⟨rfl, v5, s', b', _, _⟩
  have S5 := Lw.hid s'; have B5 := Lw.hid b'
  clear s' b' S4 B4
  go_wp2_with fail
  have hlen5 : D1.b.length ≤ 1048576 := Nat.le_trans S5.out.ok.len S5.out.ok.cap
  refine (dread_any w5 g v5 D1 S5.out.d hlen5 0 100 (by decide) (by decide)).mono ?_
  rw [ST.out.rd]
  rintro e w6 ⟨r, rfl, ho, k6, hb⟩
  obtain ⟨adr, capr, rfl, _, _, _⟩ := own_slice ho
  have S6 := Lw.hid (S5.out.keptF k6); have B6 := Lw.hid (B5.out.keptF k6)
  have R6 := Lw.hid (RdB.of_own ho rfl)
  have HRB : Hid (∀ k, blk (.slice adr 13 capr) k → w5.heap.size ≤ k) := Lw.hid hb
  clear ho k6 hb hlen5
  go_wp2_with fail
  refine (crc_any _ [0, 0, 0, 0, 0, 0, 0, 1, 0, 3, 111, 110, 101] _ (RdB.lit w6 [0, 0, 0, 0, 0, 0, 0, 1, 0, 3, 111, 110, 101] _ 13 rfl (by decide)) (S6.out.keptF ((Kept.refl _ _).alloc _)).tab).mono ?_
  rw [show crcN [0, 0, 0, 0, 0, 0, 0, 1, 0, 3, 111, 110, 101] = 1404069162 from crc_one']
  rintro e _ ⟨rfl, rfl⟩
  obtain ⟨w7, hw7⟩ : ∃ w7, w6.alloc (.cells (List.map bv [0, 0, 0, 0, 0, 0, 0, 1, 0, 3, 111, 110, 101]).toArray 5) = w7 := ⟨_, rfl⟩
  have k7 : Kept (fun _ => False) w6 w7 := by rw [← hw7]; exact (Kept.refl _ _).alloc _
  rw [hw7]
  have S7 := Lw.hid (S6.out.keptF k7); have B7 := Lw.hid (B6.out.keptF k7); have R7 := Lw.hid (R6.out.kept k7 (fun _ _ h => h))
  clear k7 hw7 S6 B6 R6
  have hv5 := own_lt S5.out.d.own; have hg5 := heap_lt S5.out.d.box; have hb5 := heap_lt B5.out.box
  have TW : Hid (Two (w7.heap.size + 1) (w7.alloc (.cells (List.map bv wantL).toArray 5)) g BL v5 (.slice adr 13 capr) (.slice (some ⟨w7.heap.size, 0, none⟩) 13 13) wantL wantL) := Lw.hid ⟨R7.out.alloc _, RdB.lit w7 wantL _ 13 rfl (by decide), fun k hk => by
    have h6 := S7.out.d
    have hg7 := heap_lt h6.box
    have hv7 := own_lt h6.own
    have hb7 := heap_lt B7.out.box
    rcases hk with hk | hk
    · have h1 := HRB.out k hk
      have h2 := R7.out.lt (by decide) k hk
      exact ⟨by omega, by omega, fun h => by have := hv5 k h; omega, by omega⟩
    · have h1 := blk_some hk
      dsimp only at h1
      exact ⟨by omega, by omega, fun h => by have := hv7 k h; omega, by omega⟩, by simp⟩
  clear hv5 hg5 hb5 R7
  go_wp2_with (refine wpList_mkg rfl _ _ _ rfl Tryd.underlying38 hi hz0 hz1 hz2 .i64 .i64 65536 65536 65536 rfl rfl rfl rfl (by decide) ?_; intro gz w9 hg_ ho_ hk_; have HO_ := Lw.hid ho_; have HK_ := Lw.hid hk_; clear hg_ ho_ hk_)
  have ka : Kept (fun _ => False) w7 w9 := ((Kept.refl (fun _ => False) w7).alloc (.cells (List.map bv wantL).toArray 5)).trans HK_.out (fun _ _ h => h)
  have S9 := Lw.hid (S7.out.keptF ka); have B9 := Lw.hid (B7.out.keptF ka); have T9 := Lw.hid (TW.out.keptF HK_.out)
  have O9 := HO_.out
  rw [HPE2.out] at O9
  have P9 : Hid (RdB w9 (.slice (some ⟨gz, 0, none⟩) 65536 65536) P2) := Lw.hid (RdB.of_own O9 HPL2.out.symm)
  clear ka O9 HO_ HK_ S7 B7 TW
  refine (app_w S9.out (by decide) B9.out ST.out.f1.1 ST.out.f1.2 _ P2 P9.out).mono ?_
  rw [app_long (by rw [HPL2.out]; decide)]
  rintro e w10 ⟨rfl, v10, s', b', _, kx, fx⟩
  have S10 := Lw.hid s'; have B10 := Lw.hid b'; have T10 := Lw.hid (T9.out.app kx fx)
  clear s' b' kx fx S9 B9 T9 P9
  go_wp2_with (refine wpList_mkg rfl _ _ _ rfl Tryd.underlying38 hi hz0 hz1 hz2 .i64 .i64 65535 65535 65535 rfl rfl rfl rfl (by decide) ?_; intro gy w11 hg_ ho_ hk_; have HO_ := Lw.hid ho_; have HK_ := Lw.hid hk_; clear hg_ ho_ hk_)
  have S11 := Lw.hid (S10.out.keptF HK_.out); have B11 := Lw.hid (B10.out.keptF HK_.out); have T11 := Lw.hid (T10.out.keptF HK_.out)
  have O9 := HO_.out
  rw [HPE.out] at O9
  have P11 : Hid (RdB w11 (.slice (some ⟨gy, 0, none⟩) 65535 65535) P) := Lw.hid (RdB.of_own O9 HPL.out.symm)
  clear O9 HO_ HK_ S10 B10 T10
  obtain ⟨D2, a3, p3⟩ := ST.out.a3
  have A3 := Lw.hid a3; have PL3 := Lw.hid p3
  clear a3 p3
  refine (app_w S11.out (by decide) B11.out ST.out.f1.1 ST.out.f1.2 _ P P11.out).mono ?_
  rw [A3.out]
  rintro e w12 ⟨rfl, v12, s', b', _, kx, fx⟩
  have S12 := Lw.hid s'; have B12 := Lw.hid b'; have T12 := Lw.hid (T11.out.app kx fx)
  clear s' b' kx fx S11 B11 T11 P11
  go_wp2_with fail
  refine (lsize_any w12 BL g s2 B12.out.box).mono ?_
  rw [ST.out.f2.1]
  rintro e _ ⟨rfl, rfl⟩
  go_wp2_with fail
  refine (plan_w S12.out 0 5 (by decide) (by decide)).mono ?_
  rw [PL3.out]
  rintro e w13 ⟨rfl, v13, s', b', kx, fx⟩
  have S13 := Lw.hid s'; have B13 := Lw.hid (b' _ _ B12.out); have T13 := Lw.hid (T12.out.go kx fx)
  clear s' b' kx fx S12 B12 T12
  go_wp2_with (refine wpList_const rfl _ _ rfl _ _ _ _ rfl (by simp) Tryd.underlying38 Tryd.underlying5 ?_)
  refine (app_w (S13.out.keptF ((Kept.refl _ _).alloc _)) (by decide) (B13.out.keptF ((Kept.refl _ _).alloc _)) (by rw [ST.out.f2.1]; decide) ST.out.f2.2 _ two (RdB.mark w13 two _ _ _ 3 rfl rfl (by decide))).mono ?_
  rw [ST.out.a4]
  rintro e w14 ⟨rfl, v14, s', _, _, kx, fx⟩
  have S14 := Lw.hid s'; have T14 := Lw.hid ((T13.out.keptF ((Kept.refl _ _).alloc _)).app kx fx)
  clear s' kx fx S13 B13 T13
  go_wp2_with fail
  refine (rec_no S14.out (by decide) ST.out.r4 (by decide)).mono ?_
  rintro e w15 ⟨v15, rfl, s', _, kx, fx⟩
  have S15 := Lw.hid s'; have T15 := Lw.hid (T14.out.go kx fx)
  clear s' kx fx S14 T14
  go_wp2_with fail
  refine (rev_w S15.out).mono ?_
  rw [ST.out.v5]
  rintro e w16 ⟨rfl, v16, s', _, kx, fx⟩
  have S16 := Lw.hid s'; have T16 := Lw.hid (T15.out.go kx fx)
  clear s' kx fx S15 T15
  go_wp2_with fail
  refine (plan_w S16.out 0 2 (by decide) (by decide)).mono ?_
  rw [ST.out.p6]
  rintro e w17 ⟨rfl, v17, s', _, kx, fx⟩
  have S17 := Lw.hid s'; have T17 := Lw.hid (T16.out.go kx fx)
  clear s' kx fx S16 T16
  go_wp2_with fail
  refine (rec_no S17.out (by decide) ST.out.r7 (by decide)).mono ?_
  rintro e w18 ⟨v18, rfl, s', _, kx, fx⟩
  have S18 := Lw.hid s'; have T18 := Lw.hid (T17.out.go kx fx)
  clear s' kx fx S17 T17
  go_wp2_with fail
  refine (rev_w S18.out).mono ?_
  rw [ST.out.v8]
  rintro e w19 ⟨rfl, v19, s', _, kx, fx⟩
  have S19 := Lw.hid s'; have T19 := Lw.hid (T18.out.go kx fx)
  clear s' kx fx S18 T18
  go_wp2_with fail
  refine (rec_ok S19.out (by decide) ST.out.r9 ST.out.l9).mono ?_
  rintro e w20 ⟨v20, BY, rfl, s', _, yb, _, kx, fx⟩
  have S20 := Lw.hid s'; have Y20 := Lw.hid yb; have T20 := Lw.hid (T19.out.go kx fx)
  clear s' yb kx fx S19 T19
  go_wp2_with fail
  refine (dnew_any w20 12 (by decide)).mono ?_
  rintro e w21 ⟨gs, rfl, d', k', hg'⟩
  have Z21 : Hid (DsW w20 w21 gs (.slice none 0 0) (nD 12) 0) := Lw.hid (DsW.start d' k' hg' (by decide) S20.out.tab)
  have Y21 := Lw.hid (Y20.out.keptF k'); have T21 := Lw.hid (T20.out.keptF k'); have KW : Hid (Kept (fun _ => False) w w21) := Lw.hid (S20.out.k.trans k' (fun _ _ h => h))
  have HYB : Hid (BY < w20.heap.size) := Lw.hid (heap_lt Y20.out.box)
  have HW20 : Hid (w.heap.size ≤ w20.heap.size) := Lw.hid S20.out.k.size
  have HT20 : Hid (w7.heap.size + 1 ≤ w20.heap.size) := Lw.hid T20.out.n
  clear d' k' hg' Y20 S20
  go_wp2_with fail
  refine (rec_ok Z21.out (by decide) (recF_new 12) last_nil).mono ?_
  rintro e w22 ⟨vz2, BZ, rfl, s', bx, b', hBZ, kx, _⟩
  have hz21 := Z21.out.lo
  have Z22 := Lw.hid s'; have X22 := Lw.hid b'
  have T22 := Lw.hid (T21.out.kept kx (fun k hk => by
    have := T20.out.n
    rcases hk with h | h
    · omega
    · exact (blk_none h).elim))
  have hY20 : BY < w20.heap.size := HYB.out
  have Y22 := Lw.hid (kx.heap Y21.out.box (fun e => by
    rcases e with e | e
    · omega
    · exact blk_none e))
  have KW22 := Lw.hid (KW.out.trans kx (fun i hi e => by
    have := HW20.out
    rcases e with e | e
    · omega
    · exact (blk_none e).elim))
  clear s' bx b' kx Z21 T21 Y21 KW T20
  go_wp2_with (refine wpList_const rfl _ _ rfl _ _ _ _ rfl (by simp) Tryd.underlying38 Tryd.underlying5 ?_)
  refine (app_w (Z22.out.keptF ((Kept.refl _ _).alloc _)) (by decide) (X22.out.keptF ((Kept.refl _ _).alloc _)) (by decide) (by decide) _ [97, 98, 99] (RdB.mark w22 [97, 98, 99] _ _ _ 3 rfl rfl (by decide))).mono ?_
  rw [show appF ⟨12, [], 0, false, false, 0, 0⟩ fz [97, 98, 99] = (nD 12, fz, 0, 7) from ST.out.z1]
  rintro e w23 ⟨rfl, vz3, s', b', _, kx, fx⟩
  have KS : Hid (Kept (fun k => w20.heap.size ≤ k) w22 w23) := Lw.hid ((((Kept.refl (fun _ => False) w22).alloc _).mono (fun _ _ h => h.elim)).trans kx (fun i _ e => by
    rcases e with e | e | e
    · have := X22.out.lo; omega
    · have := Z22.out.lo; omega
    · exact Z22.out.lv i e))
  have Z23 := Lw.hid s'; have X23 := Lw.hid b'
  have T23 := Lw.hid (T22.out.kept KS.out (fun k hk => by have := HT20.out; omega)); have Y23 := Lw.hid (KS.out.heap Y22.out (by omega)); have KW23 := Lw.hid (KW22.out.trans KS.out (fun i hi e => by have := HW20.out; omega))
  clear s' b' kx fx Z22 X22 T22 Y22 KW22 KS
  go_wp2_with (refine wpList_const rfl _ _ rfl _ _ _ _ rfl (by simp) Tryd.underlying38 Tryd.underlying5 ?_)
  refine (app_w (Z23.out.keptF ((Kept.refl _ _).alloc _)) (by decide) (X23.out.keptF ((Kept.refl _ _).alloc _)) (by decide) (by decide) _ [97, 98] (RdB.mark w23 [97, 98] _ _ _ 2 rfl rfl (by decide))).mono ?_
  rw [ST.out.z2]
  rintro e w24 ⟨rfl, vz4, s', b', _, kx, fx⟩
  have KS : Hid (Kept (fun k => w20.heap.size ≤ k) w23 w24) := Lw.hid ((((Kept.refl (fun _ => False) w23).alloc _).mono (fun _ _ h => h.elim)).trans kx (fun i _ e => by
    rcases e with e | e | e
    · have := X23.out.lo; omega
    · have := Z23.out.lo; omega
    · exact Z23.out.lv i e))
  have X24 := Lw.hid b'.box
  have T24 := Lw.hid (T23.out.kept KS.out (fun k hk => by have := HT20.out; omega)); have Y24 := Lw.hid (KS.out.heap Y23.out (by omega)); have KW24 := Lw.hid (KW23.out.trans KS.out (fun i hi e => by have := HW20.out; omega))
  clear s' b' kx fx Z23 X23 T23 Y23 KW23 KS
  go_wp2_with fail
  refine (bequal_any w24 _ _ wantL wantL T24.out.ra T24.out.rb true rfl).mono ?_
  rintro e _ ⟨rfl, rfl⟩
  go_wp2_with fail
  refine (lnext_any w24 BY g s2 Y24.out).mono ?_
  rw [ST.out.n2]
  rintro e _ ⟨rfl, rfl⟩
  go_wp2_with fail
  refine (lnext_any w24 BZ gs t1 X24.out).mono ?_
  rw [ST.out.z3]
  rintro e _ ⟨rfl, rfl⟩
  go_wp2_with fail
  refine (lwakes_any w24 (HT.out.below (KW24.out.below (Nat.le_refl _) (fun _ _ h => h)))).mono ?_
  rintro e w25 ⟨rfl, k25⟩
  go_wp2_with fail
  go_ret
  exact ⟨rfl, KW24.out.trans k25 (fun _ _ h => h)⟩
end Go.Proofs.YtfmebmaklakckaaDoor
