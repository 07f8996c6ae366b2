/- LogGood, walked. -/
import Derived.Test.YtfmebmaklakckaaDoorLogY
import Derived.Deep.DeepCutAuto
import Derived.Deep.CutBlock
namespace Go.Proofs.YtfmebmaklakckaaDoor
open Go Go.RowKit Go.Lw
set_option maxRecDepth 100000
set_option linter.unusedVariables false
set_option linter.unusedSimpArgs false
theorem DsW.mono {w0 w : World} {g : Nat} {v : Value} {D : Dsk} {n m : Nat} (h : DsW w0 w g v D n) (hn : n ≤ m) : DsW w0 w g v D m := ⟨h.d, h.lo, h.lv, h.k, h.ok.mono hn, h.t⟩
theorem app_good {D : Dsk} {A : List (List UInt8)} {left bits : Int} {perhaps : Bool} {last p : List UInt8} (h : StG D A left bits perhaps last) (hp : p.length ≤ 60) (hc : D.cap = 3000) (hl : 0 ≤ left) (hA : ∀ q ∈ A, q.length ≤ 60) :
    (D.stopped = true ∧ appF D (endF fz A) p = (D, endF fz A, 0, 10)) ∨
    (D.stopped = false ∧ perhaps = false ∧ (appF D (endF fz A) p = (D, endF fz A, 0, 7) ∨
      (∃ D', appF D (endF fz A) p = (D', endF fz (A ++ [p]), A.length + 1, 0) ∧ D'.stopped = false ∧ D'.cap = 3000 ∧ StG D' (A ++ [p]) left bits false last) ∨
      (∃ D', appF D (endF fz A) p = (D', endF fz A, 0, 10) ∧ D'.stopped = true ∧ D'.cap = 3000 ∧ StG D' A left left true p))) := by
  rcases h with ⟨hs, ⟨t, hh⟩, rfl, hnb⟩ | ⟨hs, rfl, _⟩
  · refine .inr ⟨hs, rfl, ?_⟩
    by_cases hf : (encF fz A).length + 10 + p.length ≤ D.cap
    · by_cases htr : D.is = true ∧ D.np = 0
      · right; right
        refine ⟨_, app_torn hh (by omega) hs hf htr.1 htr.2, rfl, hc, .inr ⟨rfl, rfl, hp, rfl, left.toNat, t - min left.toNat (10 + p.length), by omega, ?_⟩⟩
        rw [hnb htr.1, zeros_drop]
        refine ⟨rfl, hh.l, hh.c, ?_⟩
        show (encF fz A ++ _).length ≤ D.cap
        have := hh.len
        rw [zeros_len] at this
        rw [List.length_append, List.length_append, List.length_take, frm_len, zeros_len]
        omega
      · right; left
        refine ⟨_, app_fits hh (by omega) hs hf htr, hs, hc, .inl ⟨hs, ⟨t - (10 + p.length), ?_⟩, rfl, hnb⟩⟩
        rw [zeros_drop]
        refine ⟨rfl, fun q hq => ?_, hh.c, ?_⟩
        · rcases List.mem_append.1 hq with hq | hq
          · have := hA q hq; omega
          · rw [List.mem_singleton.1 hq]; omega
        · show (encF fz (A ++ [p]) ++ _).length ≤ D.cap
          have := hh.len
          rw [zeros_len] at this
          rw [List.length_append, enc_snoc, List.length_append, frm_len, zeros_len]
          omega
    · exact .inl (app_full hh (by omega) hs (by omega))
  · exact .inl ⟨hs, app_halt (by omega) hs⟩
theorem plan_good {D : Dsk} {A : List (List UInt8)} {left bits : Int} {perhaps : Bool} {last : List UInt8} (h : StG D A left bits perhaps last) (p q : Int) :
    ((D.plan p q).2 = 0 ∧ 0 ≤ q ∧ StG (D.plan p q).1 A q bits perhaps last ∧ (D.plan p q).1.cap = D.cap) ∨ ((D.plan p q).2 ≠ 0 ∧ (D.plan p q).1 = D) := by
  unfold Dsk.plan
  split
  · exact .inr ⟨(show (10 : Nat) ≠ 0 by decide), rfl⟩
  split
  · exact .inr ⟨(show (1 : Nat) ≠ 0 by decide), rfl⟩
  · rename_i h1 h2
    rcases h with ⟨hs, ⟨t, hh⟩, rfl, hnb⟩ | ⟨hs, _⟩
    · exact .inl ⟨rfl, by omega, .inl ⟨hs, ⟨t, ⟨hh.b, hh.l, hh.c, hh.m⟩⟩, rfl, fun _ => rfl⟩, rfl⟩
    · exact absurd hs h1
theorem rec_good {D : Dsk} {A : List (List UInt8)} {left bits : Int} {perhaps : Bool} {last : List UInt8} (h : StG D A left bits perhaps last) (hc : D.cap = 3000) :
    ∃ D2 D' A', (D.revive.1.plan 1000 0).1 = D2 ∧ recF D2 = (D', 0) ∧ lastF D2.b = endF fz A' ∧ StG D' A' 0 bits false last ∧ D'.stopped = false ∧ D'.cap = 3000 ∧ logP D' (endF fz A') = A' ∧
      (A' = A ∨ ∃ q, A' = A ++ [q] ∧ q.length ≤ 60 ∧ perhaps = true ∧ last.length ≤ 60 ∧ ∃ bt : Nat, bits = (bt : Int) ∧ ((10 + last.length ≤ bt ∧ q = last) ∨ (bt < 10 + last.length ∧ chanceB A last q (min bt (10 + last.length)) = true))) := by
  rcases h with ⟨hs, ⟨t, hh⟩, rfl, hnb⟩ | ⟨hs, rfl, hl, his, bt, j, rfl, hh⟩
  · have e1 : D.revive.1 = D := by unfold Dsk.revive; rw [if_neg (by rw [hs]; simp)]
    have e2 : (D.plan 1000 0).1 = { D with is := true, np := 1000, nb := 0 } := by unfold Dsk.plan; rw [if_neg (by rw [hs]; simp), if_neg (by decide)]
    have h2 : Hold { D with is := true, np := 1000, nb := 0 } A (zeros t) := ⟨hh.b, hh.l, hh.c, hh.m⟩
    obtain ⟨D', r1, r2, r3, r4, r5, r6, _⟩ := rec_last h2 (h2.lastF (.inr ⟨t, rfl⟩)) hs (by simp)
    exact ⟨_, D', A, by rw [e1, e2], r1, h2.lastF (.inr ⟨t, rfl⟩), .inl ⟨r3, ⟨_, r2⟩, rfl, fun _ => r5⟩, r3, by rw [r6]; exact hc, r2.logP, .inl rfl⟩
  · have e1 : D.revive.1 = { D with stopped := false } := by unfold Dsk.revive; rw [if_pos hs]
    have e2 : (({ D with stopped := false } : Dsk).plan 1000 0).1 = { D with stopped := false, is := true, np := 1000, nb := 0 } := by unfold Dsk.plan; rw [if_neg (by simp), if_neg (by decide)]
    have h2 : Hold { D with stopped := false, is := true, np := 1000, nb := 0 } A ((frm A last).take (min bt (10 + last.length)) ++ zeros j) := ⟨hh.b, hh.l, hh.c, hh.m⟩
    obtain ⟨D', A', i, r1, r2, r3, r4, r5, r6, r7, r8⟩ := rec_stop h2 hl (Nat.min_le_right _ _) rfl (by simp)
    refine ⟨_, D', A', by rw [e1, e2], r1, r2, .inl ⟨r4, ⟨_, r3⟩, rfl, fun _ => r6⟩, r4, by rw [r7]; exact hc, r3.logP, ?_⟩
    rcases r8 with r8 | ⟨q, hq, hq60, r8⟩
    · exact .inl r8
    · refine .inr ⟨q, hq, hq60, rfl, hl, bt, rfl, ?_⟩
      rcases r8 with ⟨h1, h2⟩ | ⟨h1, h2⟩
      · exact .inl ⟨by omega, h2⟩
      · exact .inr ⟨by omega, h2⟩
theorem RdBB.takeN {w : World} {ad : Option Addr} {n cap : Nat} {ls : List (List UInt8)} (h : RdBB w (.slice ad n cap) ls) (k : Nat) (hk : k ≤ n) (hn : ls.length = n) : RdBB w (.slice ad k cap) (ls.take k) := by
  obtain ⟨vs, h1, h2, h3⟩ := h
  rw [hn] at h1 h2
  have hl : (ls.take k).length = k := by rw [List.length_take, hn]; omega
  refine ⟨vs.take k, ?_, by rw [List.length_take, hl, h2]; omega, fun i u l hu hl => ?_⟩
  · rw [hl]
    have := Rd.take h1 k hk
    rwa [Nat.mul_one] at this
  · rw [List.getElem?_take] at hu hl
    split at hu
    · rename_i hik
      rw [if_pos hik] at hl
      exact h3 i u l hu hl
    · cases hu
theorem GdI.keptF {w : World} {n : Nat} {wr w' : World} {g BL : Nat} {v : Value} {D : Dsk} {A : List (List UInt8)} {left bits : Int} {perhaps : Bool} {va : Value} {vs : List Value} {vl : Value} {last : List UInt8} {vac : Value} {acts : List Act4} {T : Nat → Prop}
    (h : GdI w n wr g BL v D A left bits perhaps va vs vl last vac acts T) (k : Kept (fun _ => False) wr w') : GdI w n w' g BL v D A left bits perhaps va vs vl last vac acts T :=
  ⟨h.s.keptF k, h.b.keptF k, h.bz.keptF k, h.a60, h.al, h.cap, h.lb, h.bb, h.st⟩
def RelG (w : World) (g : Nat) (vac : Value) (acts : List Act4) (n : Nat) (p5 s6 s7 s8 s9 s10 : Value) (wr : World) : Prop :=
  ∃ (BL : Nat) (v : Value) (D : Dsk) (A : List (List UInt8)) (left bits : Int) (perhaps : Bool) (vs : List Value) (last : List UInt8) (T : Nat → Prop), p5 = .pointer (some ⟨BL, 0, none⟩) ∧ s8 = .int .i64 left ∧ s9 = .int .i64 bits ∧ s10 = .bool perhaps ∧ GdI w n wr g BL v D A left bits perhaps s6 vs s7 last vac acts T
theorem acts_elem {w : World} {a : Option Addr} {n cap : Nat} {l : List Act4} (h : Rd w 4 (.slice a n cap) l.length (l.flatMap Act4.cells)) (k : Nat) (hk : k < l.length) :
    ∃ g off, a = some ⟨g, off, none⟩ ∧ w.cell? ⟨g, off + k * 4, none⟩ = l[k].cells[0]? ∧ ∀ j, j < 4 → w.cell? ⟨g, off + k * 4 + j, none⟩ = l[k].cells[j]? := by
  obtain ⟨h0, a', c', e, h1, h2, h3⟩ := h
  cases e
  exact Rd.elem (f := Act4.cells) ⟨h0, a, cap, rfl, h1, h2, h3⟩ (fun _ _ => rfl) (by decide) k hk
set_option maxHeartbeats 64000000 in
theorem lgood_any (w : World) (v0 : Value) (l : List Act4) (hr : RdA w v0 l) (ht : Tab w) :
    Calls Tryd.prog 6 #[v0] w fun e w' => e = .returned (.bool true) ∧ Kept (fun _ => False) w w' := by
  have HT := Lw.hid ht; have HR := Lw.hid hr
  obtain ⟨_, ad0, cap0, rfl, _, _, _⟩ := id hr.1
  obtain ⟨n0, hn0⟩ : ∃ n, l.length = n := ⟨_, rfl⟩
  rw [hn0] at HR ⊢
  have HN0 := Lw.hid hn0
  clear ht hr hn0
  go_enter Tryd.func6, Tryd.ntmps6
  go_wp2_with fail
  refine (dnew_any w 3000 (by decide)).mono ?_
  rintro e w1 ⟨g, rfl, d', k', hg⟩
  have S1 : Hid (DsW w w1 g (.slice none 0 0) ⟨3000, [], 0, false, false, 0, 0⟩ 0) := Lw.hid (DsW.start d' k' hg (by decide) HT.out)
  clear d' k' hg
  go_wp2_with fail
  refine (rec_ok S1.out (by decide) (recF_new 3000) last_nil).mono ?_
  rintro e w2 ⟨v2, BL, rfl, s', _, b', _, _, _⟩
  have S2 := Lw.hid s'; have B2 := Lw.hid b'
  clear s' b' S1
  go_wp2_with fail
  refine (fewA_any w2 _ l ⟨HR.out.1.kept S2.out.k (fun _ _ h => h), fun a ha => ⟨(HR.out.2 a ha).what, (HR.out.2 a ha).at_, (HR.out.2 a ha).many, (HR.out.2 a ha).rd.kept S2.out.k (fun _ _ h => h)⟩⟩).mono ?_
  rintro e w3 ⟨vac, rfl, ho, k3, hb3⟩
  obtain ⟨acts, hacts⟩ : ∃ acts, fewA l = acts := ⟨_, rfl⟩
  have HACT := Lw.hid hacts
  have hfl := fewA_len l
  rw [hacts] at ho hfl
  have HOK : Hid (∀ a ∈ acts, a.ok w ∧ a.l.length ≤ 60) := Lw.hid (by rw [← hacts]; exact fewA_ok HR.out.2 (Kept.refl _ w))
  obtain ⟨N, hN⟩ : ∃ N, acts.length = N := ⟨_, rfl⟩
  have HN := Lw.hid hN
  have S3 := S2.out.keptF k3; have B3 := B2.out.keptF k3
  have hI : RelG w g vac acts 0 (.pointer (some ⟨BL, 0, none⟩)) (.slice none 0 0) (.slice none 0 0) (.int .i64 0) (.int .i64 0) (.bool false) w3 := by
    refine ⟨BL, v2, _, [], 0, 0, false, [], [], fun q => blk vac q, rfl, rfl, rfl, rfl, ⟨S3.mono (by omega), B3, ⟨World.ownsRow_nil _ 0 _ 1, fun q hq => (blk_none hq).elim, Pays.nil _ _, RdB.nil _, fun h => absurd rfl h, Rd.own ho, fun q hq => ⟨hq, fun e => blk_none e⟩, own_lt ho, fun q hq => ?_⟩, fun p hp => by simp at hp, Nat.zero_le _, rfl, ⟨Int.le_refl _, by decide⟩, ⟨Int.le_refl _, by decide⟩, .inl ⟨rfl, ⟨0, ⟨rfl, fun p hp => by simp at hp, (by decide : 3000 ≤ 1048576), Nat.zero_le _⟩⟩, rfl, fun h => by cases h⟩⟩⟩
    have h1 := hb3 q hq
    have h2 := heap_lt S2.out.d.box; have h3 := heap_lt B2.out.box; have h4 := own_lt S2.out.d.own; have h5 := S2.out.k.size
    exact ⟨by omega, by omega, fun e => by have := h4 q e; omega, by omega⟩
  obtain ⟨adc, capc, hvac, hcc1, hcc2, _⟩ := own_slice ho
  rw [hN] at hvac hcc1 hfl
  unfold maxLen at hcc2
  subst hvac
  have HI := Lw.hid hI
  clear hacts hN S3 B3 hI ho k3 hb3 S2 B2
  go_wp2_with fail
  go_loopg [5, 6, 7, 8, 9, 10, 40] N (fun gk p5 s6 s7 s8 s9 s10 si wr => ∃ k : Nat, gk = N - k ∧ k ≤ N ∧ si = .int .i64 (k : Int) ∧ RelG w g (.slice adc N capc) acts k p5 s6 s7 s8 s9 s10 wr)
  case atStart => exact ⟨0, rfl, Nat.zero_le _, rfl, HI.out⟩
  case round =>
    obtain ⟨k, rfl, hk, rfl, BL, v, D, A, left, bits, perhaps, vs, last, T, rfl, rfl, rfl, rfl, hgd⟩ := hrel
    have G := Lw.hid hgd
    obtain ⟨ada, capa, rfl, hca1, hca2, _⟩ := own_slice hgd.bz.own
    obtain ⟨adl, capl, rfl, _, _, _⟩ := hgd.bz.la.open
    have hAk : A.length ≤ k := hgd.al
    obtain ⟨na, hna⟩ : ∃ na, A.length = na := ⟨_, rfl⟩
    obtain ⟨nl, hnl⟩ : ∃ nl, last.length = nl := ⟨_, rfl⟩
    have HNA := Lw.hid hna; have HNL := Lw.hid hnl
    rw [hna] at hca1 hAk G ⊢
    rw [hnl] at G ⊢
    unfold maxLen at hca2
    clear hgd hna hnl
    by_cases hlt : k < N
    · have hlt' : k < acts.length := by rw [HN.out]; exact hlt
      obtain ⟨gc, oc, rfl, c0, cj⟩ := acts_elem G.out.bz.ac k hlt'
      have c1 := cj 1 (by decide); have c2 := cj 2 (by decide); have c3 := cj 3 (by decide)
      obtain ⟨ta, hta⟩ : ∃ ta, acts[k] = ta := ⟨_, rfl⟩
      have hokk := HOK.out acts[k] (List.getElem_mem hlt')
      rw [hta] at c0 c1 c2 c3 hokk
      obtain ⟨tw, tm, tb, tv, tl⟩ := ta
      obtain ⟨⟨⟨hw1, hw2⟩, ⟨hm1, hm2⟩, ⟨hbt1, hbt2⟩, hrdp⟩, hpl60⟩ := hokk
      dsimp only at hw1 hw2 hm1 hm2 hbt1 hbt2 hrdp hpl60
      obtain ⟨adp, capp, rfl, _, _, _⟩ := hrdp.open
      obtain ⟨pl, hpl⟩ : ∃ pl, tl.length = pl := ⟨_, rfl⟩
      have HPL := Lw.hid hpl; have HRP := Lw.hid hrdp
      rw [hpl] at HRP hpl60 c3
      simp only [Act4.cells, List.getElem?_cons_zero, List.getElem?_cons_succ, hpl] at c0 c1 c2 c3
      have hkd : decide ((k : Int) < (N : Int)) = true := by simp; omega
      have i0 : (0 : Int) ≤ (k : Int) := by omega
      have i1 : (k : Int) < (N : Int) := by omega
      have hkn : k + 1 ≤ N := hlt
      obtain ⟨wB, hwB⟩ : ∃ wB, wr.alloc (.cells #[.int .i64 tw, .int .i64 tm, .int .i64 tb, .slice adp pl capp] 56) = wB := ⟨_, rfl⟩
      have HWB := Lw.hid hwB
      have hbb := heap_alloc wr (.cells #[.int .i64 tw, .int .i64 tm, .int .i64 tb, .slice adp pl capp] 56)
      rw [hwB] at hbb
      have KB : Hid (Kept (fun _ => False) wr wB) := Lw.hid (by rw [← hwB]; exact (Kept.refl _ wr).alloc _)
      obtain ⟨BA, hBA⟩ : ∃ BA, wr.heap.size = BA := ⟨_, rfl⟩
      rw [hBA] at hbb
      have HBA := Lw.hid hBA; have HBB := Lw.hid hbb
      clear cj hta hrdp hpl hwB hBA hbb
      go_wp2_with fail
      rw [HWB.out, HBA.out]
      have SB := Lw.hid (G.out.s.keptF KB.out)
      refine (dstopped_any wB g v D SB.out.d).mono ?_
      rintro e _ ⟨rfl, rfl⟩
      have b0 := heap_cell HBB.out 0; have b1 := heap_cell HBB.out 1; have b2 := heap_cell HBB.out 2; have b3 := heap_cell HBB.out 3
      have BB := Lw.hid (G.out.b.keptF KB.out); have ZB := Lw.hid (G.out.bz.keptF KB.out)
      clear c0 c1 c2 c3
      go_upto_block 2 with fail
      go_cut [5, 6, 7, 8, 9, 10, 13] from 41 to 216 (fun p5 s6 s7 s8 s9 s10 _ wx => RelG w g (.slice (some ⟨gc, oc, none⟩) N capc) acts (k + 1) p5 s6 s7 s8 s9 s10 wx)
      case first =>
        have HD := Lw.hid G.out.st
        have hfin : (endF fz A).fin ≤ 1048576 := by
          rcases HD.out with ⟨_, ⟨t, hh⟩, _⟩ | ⟨_, _, _, _, bt, j, _, hh⟩
          · exact hh.fin
          · exact hh.fin
        go_upto_if 127 with fail
        go_cut [127] from 128 to 132 (fun sx wx => sx = .bool (decide (0 ≤ tw ∧ tw ≤ 4)) ∧ wx = wB)
        case first =>
          have hcs : tw = 0 ∨ tw = 1 ∨ tw = 2 ∨ tw = 3 ∨ tw = 4 ∨ ¬ (0 ≤ tw ∧ tw ≤ 4) := by omega
          rcases hcs with h | h | h | h | h | h
          · have q0 : (tw == 0) = true := by rw [beq_iff_eq]; omega
            have hd : decide (0 ≤ tw ∧ tw ≤ 4) = true := by simp; omega
            go_wp2_with fail
            go_meet
            case rel => exact ⟨by rw [hd, q0], rfl⟩
          · have q0 : (tw == 0) = false := by rw [beq_eq_false_iff_ne]; omega
            have q1 : (tw == 1) = true := by rw [beq_iff_eq]; omega
            have hd : decide (0 ≤ tw ∧ tw ≤ 4) = true := by simp; omega
            go_wp2_with fail
            go_meet
            case rel => exact ⟨by rw [hd], rfl⟩
          · have q0 : (tw == 0) = false := by rw [beq_eq_false_iff_ne]; omega
            have q1 : (tw == 1) = false := by rw [beq_eq_false_iff_ne]; omega
            have q2 : (tw == 2) = true := by rw [beq_iff_eq]; omega
            have hd : decide (0 ≤ tw ∧ tw ≤ 4) = true := by simp; omega
            go_wp2_with fail
            go_meet
            case rel => exact ⟨by rw [hd], rfl⟩
          · have q0 : (tw == 0) = false := by rw [beq_eq_false_iff_ne]; omega
            have q1 : (tw == 1) = false := by rw [beq_eq_false_iff_ne]; omega
            have q2 : (tw == 2) = false := by rw [beq_eq_false_iff_ne]; omega
            have q3 : (tw == 3) = true := by rw [beq_iff_eq]; omega
            have hd : decide (0 ≤ tw ∧ tw ≤ 4) = true := by simp; omega
            go_wp2_with fail
            go_meet
            case rel => exact ⟨by rw [hd], rfl⟩
          · have q0 : (tw == 0) = false := by rw [beq_eq_false_iff_ne]; omega
            have q1 : (tw == 1) = false := by rw [beq_eq_false_iff_ne]; omega
            have q2 : (tw == 2) = false := by rw [beq_eq_false_iff_ne]; omega
            have q3 : (tw == 3) = false := by rw [beq_eq_false_iff_ne]; omega
            have q4 : (tw == 4) = true := by rw [beq_iff_eq]; omega
            have hd : decide (0 ≤ tw ∧ tw ≤ 4) = true := by simp; omega
            go_wp2_with fail
            go_meet
            case rel => exact ⟨by rw [hd], rfl⟩
          · have q0 : (tw == 0) = false := by rw [beq_eq_false_iff_ne]; omega
            have q1 : (tw == 1) = false := by rw [beq_eq_false_iff_ne]; omega
            have q2 : (tw == 2) = false := by rw [beq_eq_false_iff_ne]; omega
            have q3 : (tw == 3) = false := by rw [beq_eq_false_iff_ne]; omega
            have q4 : (tw == 4) = false := by rw [beq_eq_false_iff_ne]; omega
            have hd : decide (0 ≤ tw ∧ tw ≤ 4) = false := by rw [decide_eq_false_iff_not]; exact h
            go_wp2_with fail
            go_meet
            case rel => exact ⟨by rw [hd], rfl⟩
        case rest =>
        obtain ⟨rfl, rfl⟩ := hcut
        have hs3 : 3 * k + 1 ≤ 1000000 := by omega
        by_cases hap : 0 ≤ tw ∧ tw ≤ 4
        · have hd : decide (0 ≤ tw ∧ tw ≤ 4) = true := decide_eq_true hap
          rw [hd]
          clear hd
          have HRB : Hid (RdB wc (.slice adp pl capp) tl) := Lw.hid (HRP.out.kept SB.out.k (fun _ _ h => h))
          have hgood := app_good (p := tl) HD.out (by rw [HPL.out]; exact hpl60) G.out.cap G.out.lb.1 G.out.a60
          rcases hgood with ⟨hs, ha⟩ | ⟨hs, rfl, ha | ⟨D', ha, hs', hc', hst'⟩ | ⟨D', ha, hs', hc', hst'⟩⟩
          · as_aux_lemma =>
              rw [hs]
              have HAP := Lw.hid ha
              clear ha
              go_wp2_with fail
              refine (app_w SB.out hs3 BB.out hfin (sum_ok A) _ tl HRB.out).mono ?_
              rw [HAP.out]
              rintro e w4 ⟨rfl, v4, s', b', _, kx, fx⟩
              have S4 := Lw.hid s'; have B4 := Lw.hid b'; have Z4 := Lw.hid (ZB.out.op kx fx)
              clear s' b' kx fx
              go_wp2_with fail
              go_meet
              case rel => exact ⟨BL, v4, D, A, left, bits, perhaps, vs, last, T, rfl, rfl, rfl, rfl, ⟨S4.out.mono (by omega), B4.out, Z4.out, G.out.a60, by rw [HNA.out]; omega, G.out.cap, G.out.lb, G.out.bb, HD.out⟩⟩
          · as_aux_lemma =>
              rw [hs]
              have HAP := Lw.hid ha
              clear ha
              go_wp2_with fail
              refine (app_w SB.out hs3 BB.out hfin (sum_ok A) _ tl HRB.out).mono ?_
              rw [HAP.out]
              rintro e w4 ⟨rfl, v4, s', b', _, kx, fx⟩
              have S4 := Lw.hid s'; have B4 := Lw.hid b'; have Z4 := Lw.hid (ZB.out.op kx fx)
              clear s' b' kx fx
              go_wp2_with fail
              go_meet
              case rel => exact ⟨BL, v4, D, A, left, bits, false, vs, last, T, rfl, rfl, rfl, rfl, ⟨S4.out.mono (by omega), B4.out, Z4.out, G.out.a60, by rw [HNA.out]; omega, G.out.cap, G.out.lb, G.out.bb, HD.out⟩⟩
          · as_aux_lemma =>
              rw [hs]
              have HAP := Lw.hid ha
              clear ha
              go_wp2_with fail
              refine (app_w SB.out hs3 BB.out hfin (sum_ok A) _ tl HRB.out).mono ?_
              rw [HAP.out]
              rintro e w4 ⟨rfl, v4, s', b', _, kx, fx⟩
              have S4 := Lw.hid s'; have B4 := Lw.hid b'; have Z4 := Lw.hid (ZB.out.op kx fx)
              have hlw : Hid (∀ q, T q → q < w4.heap.size) := Lw.hid Z4.out.lt
              have hzw : Hid (∀ q, (q = g ∨ q = BL ∨ blk v4 q) → q < w4.heap.size) := Lw.hid (fun q hq => by
                rcases hq with rfl | rfl | h
                · exact heap_lt S4.out.d.box
                · exact heap_lt B4.out.box
                · exact own_lt S4.out.d.own q h)
              have HST := Lw.hid hst'
              have HRP4 := Lw.hid (HRP.out.kept S4.out.k (fun _ _ h => h))
              have hbox4 := kx.heap HBB.out (fun e => by
                have h1 := HBA.out
                rcases e with e | e | e
                · have := heap_lt G.out.b.box; omega
                · have := heap_lt G.out.s.d.box; omega
                · have := own_lt G.out.s.d.own _ e; omega)
              have b34 := heap_cell hbox4 3
              have HB4 := Lw.hid hbox4
              rw [HNA.out]
              clear s' b' kx fx hst' hbox4 b0 b1 b2 b3
              go_wp2_with fail
              refine (bclone_any w4 _ tl HRP4.out (by rw [HPL.out]; omega)).mono ?_
              rintro e w5 ⟨vc, rfl, hoc, kc, hbc⟩
              obtain ⟨adc2, capc2, rfl, _, _, _⟩ := own_slice hoc
              rw [HPL.out] at hoc hbc ⊢
              have HOC := Lw.hid (RdB.of_own hoc HPL.out.symm); have HBC := Lw.hid hbc; have KC := Lw.hid kc
              have S5 := Lw.hid (S4.out.keptF kc); have B5 := Lw.hid (B4.out.keptF kc); have Z5 := Lw.hid (Z4.out.keptF kc)
              have e5 : Hid ((w5.alloc (.cells #[.slice adc2 pl capc2] 38)).ownsRow 0 38 1 (.slice ada na capa) na vs) := Lw.hid (by
                have := own_kept ((Kept.refl (fun _ => False) w5).alloc (.cells #[.slice adc2 pl capc2] 38)) Z5.out.own (fun _ _ h => h)
                rwa [HNA.out] at this)
              clear hoc hbc kc
              go_wp2_with (at_builtin; refine wpList_app rfl _ _ _ rfl EL _ na _ rfl e5.out _ 1 _ rfl (Rd.lit w5 [.slice adc2 pl capc2] 38 1 w5.heap.size 1 rfl rfl (by decide)) (oneS HOC.out) (by unfold maxLen; omega) (by omega) ?_; intro ad' cap' w6 ho hg hf; have HO := Lw.hid ho; have HG := Lw.hid hg; have HF := Lw.hid hf; clear ho hg hf)
              have KG : Hid (Kept (blk (.slice ada na capa)) w5 w6) := Lw.hid ((Kept.refl _ w5).alloc _ |>.grown HG.out (fun q e _ => e))
              have Z6 := Lw.hid (Z5.out.push (n0 := w4.heap.size) hlw.out hzw.out S4.out.k.size KC.out.size HOC.out (fun _ q hq => HBC.out q hq) HO.out (by rw [HNA.out]) HG.out HF.out)
              have hva : ∀ q, blk (.slice ada na capa) q → q ≠ g ∧ q ≠ BL ∧ ¬ blk v4 q ∧ w.heap.size ≤ q := fun q hq => Z5.out.z q (Z5.out.oT q hq)
              have S6 := Lw.hid (S5.out.kept KG.out (fun h => (hva _ h).1 rfl) (fun b hb h => (hva _ h).2.2.1 hb) (fun b hb => (hva b hb).2.2.2))
              have B6 : Hid (Bx w w6 g v4 BL (endF fz (A ++ [tl]))) := Lw.hid ⟨KG.out.heap B5.out.box (fun h => (hva _ h).2.1 rfl), B5.out.ne, B5.out.ap, B5.out.lo⟩
              clear hva
              go_meet
              case rel => exact ⟨BL, v4, D', A ++ [tl], left, bits, false, _, last, _, rfl, rfl, rfl, by rfl, ⟨S6.out.mono (by omega), B6.out, Z6.out, fun q hq => by
                  rcases List.mem_append.1 hq with hq | hq
                  · exact G.out.a60 q hq
                  · rw [List.mem_singleton.1 hq, HPL.out]; exact hpl60, by rw [List.length_append, HNA.out]; show na + 1 ≤ k + 1; omega, hc', G.out.lb, G.out.bb, HST.out⟩⟩
          · as_aux_lemma =>
              rw [hs]
              have HAP := Lw.hid ha
              clear ha
              go_wp2_with fail
              refine (app_w SB.out hs3 BB.out hfin (sum_ok A) _ tl HRB.out).mono ?_
              rw [HAP.out]
              rintro e w4 ⟨rfl, v4, s', b', _, kx, fx⟩
              have S4 := Lw.hid s'; have B4 := Lw.hid b'; have Z4 := Lw.hid (ZB.out.op kx fx)
              have hlw : Hid (∀ q, T q → q < w4.heap.size) := Lw.hid Z4.out.lt
              have hzw : Hid (∀ q, (q = g ∨ q = BL ∨ blk v4 q) → q < w4.heap.size) := Lw.hid (fun q hq => by
                rcases hq with rfl | rfl | h
                · exact heap_lt S4.out.d.box
                · exact heap_lt B4.out.box
                · exact own_lt S4.out.d.own q h)
              have HST := Lw.hid hst'
              have HRP4 := Lw.hid (HRP.out.kept S4.out.k (fun _ _ h => h))
              have hbox4 := kx.heap HBB.out (fun e => by
                have h1 := HBA.out
                rcases e with e | e | e
                · have := heap_lt G.out.b.box; omega
                · have := heap_lt G.out.s.d.box; omega
                · have := own_lt G.out.s.d.own _ e; omega)
              have b34 := heap_cell hbox4 3
              clear s' b' kx fx hst' hbox4 b0 b1 b2 b3
              go_wp2_with fail
              refine (dstopped_any w4 g v4 D' S4.out.d).mono ?_
              rw [hs']
              rintro e _ ⟨rfl, rfl⟩
              go_wp2_with fail
              refine (bclone_any w4 _ tl HRP4.out (by rw [HPL.out]; omega)).mono ?_
              rintro e w5 ⟨vc, rfl, hoc, kc, hbc⟩
              obtain ⟨adc2, capc2, rfl, _, _, _⟩ := own_slice hoc
              rw [HPL.out] at hoc hbc ⊢
              have HOC := Lw.hid (RdB.of_own hoc HPL.out.symm); have HBC := Lw.hid hbc; have KC := Lw.hid kc
              have S5 := Lw.hid (S4.out.keptF kc); have B5 := Lw.hid (B4.out.keptF kc); have Z5 := Lw.hid (Z4.out.keptF kc)
              have Z6 := Lw.hid (Z5.out.setLast (n0 := w4.heap.size) hlw.out hzw.out S4.out.k.size KC.out.size HOC.out HBC.out)
              clear hoc hbc kc
              go_wp2_with fail
              go_meet
              case rel => exact ⟨BL, v4, D', A, left, left, true, vs, tl, _, rfl, rfl, rfl, rfl, ⟨S5.out.mono (by omega), B5.out, Z6.out, G.out.a60, by rw [HNA.out]; omega, hc', G.out.lb, G.out.lb, HST.out⟩⟩
        · have hd : decide (0 ≤ tw ∧ tw ≤ 4) = false := decide_eq_false hap
          rw [hd]
          clear hd
          by_cases h5 : tw = 5
          · as_aux_lemma =>
              have q5 : (tw == 5) = true := by rw [beq_iff_eq]; exact h5
              have hq1 : -4 < tm.tmod 4 ∧ tm.tmod 4 < 4 := ⟨Int.lt_tmod_of_pos _ (by decide), Int.tmod_lt_of_pos _ (by decide)⟩
              obtain ⟨pm, hpm⟩ : ∃ pm, tm.tmod 4 = pm := ⟨_, rfl⟩
              rw [hpm] at hq1
              have hgood := plan_good HD.out pm tb
              have HGD := Lw.hid hgood
              clear hgood
              go_wp2_with fail
              clear hpm
              refine (plan_w SB.out pm tb (by omega) ⟨hbt1, hbt2⟩).mono ?_
              rintro e w4 ⟨rfl, v4, s', b', kx, fx⟩
              have S4 := Lw.hid s'; have B4 := Lw.hid (b' _ _ BB.out); have Z4 := Lw.hid (ZB.out.go kx fx)
              have hbox4 := kx.heap HBB.out (fun e => by
                have h1 := HBA.out
                rcases e with e | e
                · have := heap_lt G.out.s.d.box; omega
                · have := own_lt G.out.s.d.own _ e; omega)
              have b24 := heap_cell hbox4 2
              clear s' b' kx fx hbox4 b0 b1 b2 b3
              obtain ⟨⟨D', er⟩, hpe⟩ : ∃ x, D.plan pm tb = x := ⟨_, rfl⟩
              rw [hpe] at S4 HGD ⊢
              clear hpe
              dsimp only at S4 HGD ⊢
              by_cases her : er = 0
              · have hg2 := HGD.out.resolve_right (fun h => h.1 her)
                have hz : ((er : Int) == 0) = true := by rw [beq_iff_eq]; omega
                have HG2 := Lw.hid hg2
                clear hg2
                go_wp2_with fail
                go_meet
                case rel => exact ⟨BL, v4, D', A, tb, bits, perhaps, vs, last, T, rfl, rfl, rfl, rfl, ⟨S4.out.mono (by omega), B4.out, Z4.out, G.out.a60, by rw [HNA.out]; omega, HG2.out.2.2.2.trans G.out.cap, ⟨HG2.out.2.1, hbt2⟩, G.out.bb, HG2.out.2.2.1⟩⟩
              · have hg2 := HGD.out.resolve_left (fun h => her h.1)
                have hz : ((er : Int) == 0) = false := by rw [beq_eq_false_iff_ne]; omega
                have HG2 := Lw.hid hg2.2
                clear hg2
                go_wp2_with fail
                go_meet
                case rel => exact ⟨BL, v4, D', A, left, bits, perhaps, vs, last, T, rfl, rfl, rfl, rfl, ⟨S4.out.mono (by omega), B4.out, Z4.out, G.out.a60, by rw [HNA.out]; omega, by rw [HG2.out]; exact G.out.cap, G.out.lb, G.out.bb, by rw [HG2.out]; exact HD.out⟩⟩
          · as_aux_lemma =>
              have q5 : (tw == 5) = false := by rw [beq_eq_false_iff_ne]; exact h5
              obtain ⟨D2, D', A', hd2, hrec, hlast, hst', hs', hc', hlp, hcase⟩ := rec_good HD.out G.out.cap
              have HD2 := Lw.hid hd2; have HREC := Lw.hid hrec; have HLAST := Lw.hid hlast; have HST := Lw.hid hst'; have HLP := Lw.hid hlp; have HCASE := Lw.hid hcase
              have hAA : ∃ t, A' = A ++ t ∧ t.length ≤ 1 := by
                rcases hcase with rfl | ⟨q, rfl, _⟩
                · exact ⟨[], by simp, by simp⟩
                · exact ⟨[q], rfl, by simp⟩
              have HAA := Lw.hid hAA
              obtain ⟨na', hna'⟩ : ∃ n, A'.length = n := ⟨_, rfl⟩
              have HNA' := Lw.hid hna'
              have hnn : na ≤ na' ∧ na' ≤ na + 1 := by
                obtain ⟨t, h1, h2⟩ := hAA
                rw [← hna', h1, List.length_append, HNA.out]; omega
              clear hd2 hrec hlast hst' hlp hcase hAA hna'
              go_wp2_with fail
              refine (rev_w SB.out).mono ?_
              rintro e w4 ⟨rfl, v4, s', b', kx, fx⟩
              have S4 := Lw.hid s'; have B4 := Lw.hid (b' _ _ BB.out); have Z4 := Lw.hid (ZB.out.go kx fx)
              clear s' b' kx fx b0 b1 b2 b3
              go_wp2_with fail
              refine (plan_w S4.out 1000 0 (by decide) (by decide)).mono ?_
              rw [HD2.out]
              rintro e w5 ⟨rfl, v5, s', b', kx, fx⟩
              have S5 := Lw.hid s'; have B5 := Lw.hid (b' _ _ B4.out); have Z5 := Lw.hid (Z4.out.go kx fx)
              clear s' b' kx fx S4 B4 Z4
              go_wp2_with fail
              refine (rec_ok S5.out hs3 HREC.out HLAST.out).mono ?_
              rintro e w6 ⟨v6, BY, rfl, s', _, b', hBY, kx, fx⟩
              have S6 := Lw.hid s'; have B6 := Lw.hid b'
              have Z6 := Lw.hid ((Z5.out.go kx fx).log (BY := BY) (fun q hq => by have := Z5.out.lt q hq; omega))
              clear s' b' hBY kx fx S5 B5 Z5
              go_wp2_with fail
              have hfinY : (endF fz A').fin ≤ 1048576 := by
                rcases HST.out with ⟨_, ⟨t, hh⟩, _⟩ | ⟨_, _, _, _, bt, j, _, hh⟩
                · exact hh.fin
                · exact hh.fin
              refine (rows_w S6.out B6.out hfinY HLP.out).mono ?_
              rintro e w7 ⟨rg, vg, rfl, hog, hbg, hpg, k7⟩
              obtain ⟨adg, capg, rfl, hcg1, hcg2, _⟩ := own_slice hog
              have RG := Lw.hid (RdBB.of_rows hog hpg); have PG := Lw.hid hpg; have OG := Lw.hid hog
              have S7 := Lw.hid (S6.out.keptF k7); have B7 := Lw.hid (B6.out.keptF k7); have Z7 := Lw.hid (Z6.out.keptF k7); have K7 := Lw.hid k7
              rw [HNA'.out] at RG OG hcg1 ⊢
              unfold maxLen at hcg2
              clear hog hbg hpg k7
              have RGT : Hid (RdBB w7 (.slice adg na capg) A) := Lw.hid (by
                obtain ⟨t, h1, _⟩ := HAA.out
                have := RdBB.takeN RG.out na hnn.1 HNA'.out
                rwa [h1, List.take_append_of_le_length (by rw [HNA.out]; exact Nat.le_refl _), List.take_of_length_le (by rw [HNA.out]; exact Nat.le_refl _)] at this)
              have RAL : Hid (RdBB w7 (.slice ada na capa) A) := Lw.hid (by
                have := RdBB.of_rows Z7.out.own Z7.out.p
                exact this)
              have c1 : decide ((na' : Int) < (na : Int)) = false := by simp; omega
              have c2 : decide ((na : Int) + 1 < (na' : Int)) = false := by simp; omega
              go_wp2_with fail
              refine (same_any w7 _ _ A A RGT.out RAL.out true (by simp)).mono ?_
              rintro e _ ⟨rfl, rfl⟩
              have hcase := HCASE.out
              clear HCASE
              rcases hcase with hAeq | ⟨q, hq, hq60, hper, hl60, bt, hbt, hor⟩
              · as_aux_lemma =>
                  have hna2 : na' = na := by rw [← HNA'.out, hAeq, HNA.out]
                  have hgt : decide ((na : Int) < (na' : Int)) = false := by simp; omega
                  have hgtN : decide (na < na') = false := by simp; omega
                  rw [hAeq] at B7 HST
                  have HC' := Lw.hid hc'
                  clear hna2 hAeq c1 c2 hc'
                  go_wp2_with fail
                  go_meet
                  case rel => exact ⟨BY, v6, D', A, 0, bits, false, vs, last, T, rfl, rfl, rfl, rfl, ⟨S7.out.mono (by omega), B7.out, Z7.out, G.out.a60, by rw [HNA.out]; omega, HC'.out, ⟨Int.le_refl _, by decide⟩, G.out.bb, HST.out⟩⟩
              · as_aux_lemma =>
                  have hna2 : na' = na + 1 := by rw [← HNA'.out, hq, List.length_append, HNA.out]; rfl
                  subst hper
                  subst hbt
                  subst hna2
                  have hgt : decide ((na : Int) < ((na + 1 : Nat) : Int)) = true := decide_eq_true (by omega)
                  have hgt2 : decide ((na : Int) < (na : Int) + 1) = true := decide_eq_true (by omega)
                  have hgtN : decide (na < na + 1) = true := decide_eq_true (by omega)
                  have hbt9 : (bt : Int) ≤ 9223372036854775807 := G.out.bb.2
                  obtain ⟨u, hu⟩ : ∃ u, vg[na]? = some u := ⟨_, List.getElem?_eq_getElem (by rw [PG.out.1, HNA'.out]; omega)⟩
                  have hqq : A'[na]? = some q := by rw [hq, List.getElem?_append_right (by rw [HNA.out]; exact Nat.le_refl _), HNA.out, Nat.sub_self]; rfl
                  obtain ⟨hur, hub⟩ := PG.out.2 na u q hu hqq
                  obtain ⟨gg, og, hadg, hcell⟩ : ∃ gg og, adg = some ⟨gg, og, none⟩ ∧ w7.cell? ⟨gg, og + na, none⟩ = some u := by
                    obtain ⟨_, a', c', e, _, _, hcl⟩ := Rd.own OG.out
                    cases e
                    exact hcl na u hu
                  subst hadg
                  obtain ⟨adu, capu, rfl, _, _, _⟩ := hur.open
                  obtain ⟨ql, hql⟩ : ∃ ql, q.length = ql := ⟨_, rfl⟩
                  have HQL := Lw.hid hql
                  have HU := Lw.hid hur; have HUB := Lw.hid hub
                  have HLA := Lw.hid Z7.out.la
                  rw [hql] at HU HUB hcell hq60
                  rw [HNL.out] at hor hl60
                  have i0 : (0 : Int) ≤ (na : Int) := by omega
                  have i1 : (na : Int) < (na : Int) + 1 := by omega
                  have HQ := Lw.hid hq
                  have HC' := Lw.hid hc'
                  clear hu hqq hur hub hql hq c1 c2 hc'
                  go_wp2_with fail
                  refine (bequal_any w7 _ _ q last HU.out HLA.out (q == last) rfl).mono ?_
                  rintro e _ ⟨rfl, rfl⟩
                  have hnl60 : nl ≤ 60 := hl60
                  rcases hor with ⟨hge, hqle⟩ | ⟨hlt2, hch⟩
                  · as_aux_lemma =>
                      have hqe : (q == last) = true := by rw [beq_iff_eq]; exact hqle
                      rw [hqe]
                      have hbl : decide ((bt : Int) < 10 + (nl : Int)) = false := by simp; omega
                      have hlw : Hid (∀ q, T q → q < w6.heap.size) := Lw.hid Z6.out.lt
                      have hzw : Hid (∀ q, (q = g ∨ q = BY ∨ blk v6 q) → q < w6.heap.size) := Lw.hid (fun q hq => by
                        rcases hq with rfl | rfl | h
                        · exact heap_lt S6.out.d.box
                        · exact heap_lt B6.out.box
                        · exact own_lt S6.out.d.own q h)
                      have e7 : Hid ((w7.alloc (.cells #[.slice adu ql capu] 38)).ownsRow 0 38 1 (.slice ada na capa) na vs) := Lw.hid (by
                        have := own_kept ((Kept.refl (fun _ => False) w7).alloc (.cells #[.slice adu ql capu] 38)) Z7.out.own (fun _ _ h => h)
                        rwa [HNA.out] at this)
                      clear hqe hqle
                      go_wp2_with (at_builtin; refine wpList_app rfl _ _ _ rfl EL _ na _ rfl e7.out _ 1 _ rfl (Rd.lit w7 [.slice adu ql capu] 38 1 w7.heap.size 1 rfl rfl (by decide)) (oneS HU.out) (by unfold maxLen; omega) (by omega) ?_; intro ad' cap' w8 ho hg hf; have HO := Lw.hid ho; have HG := Lw.hid hg; have HF := Lw.hid hf; clear ho hg hf)
                      have KG : Hid (Kept (blk (.slice ada na capa)) w7 w8) := Lw.hid ((Kept.refl _ w7).alloc _ |>.grown HG.out (fun q e _ => e))
                      have Z8 := Lw.hid (Z7.out.push (n0 := w6.heap.size) hlw.out hzw.out S6.out.k.size K7.out.size (l := q) (by have := HU.out; rwa [← HQL.out] at this) (fun hn q hq => by
                        have h1 := HUB.out (by rw [← HQL.out]; exact hn) q hq
                        exact h1.1) HO.out (by rw [HNA.out]) HG.out HF.out)
                      have hva : ∀ q, blk (.slice ada na capa) q → q ≠ g ∧ q ≠ BY ∧ ¬ blk v6 q ∧ w.heap.size ≤ q := fun q hq => Z7.out.z q (Z7.out.oT q hq)
                      have S8 := Lw.hid (S7.out.kept KG.out (fun h => (hva _ h).1 rfl) (fun b hb h => (hva _ h).2.2.1 hb) (fun b hb => (hva b hb).2.2.2))
                      have B8 : Hid (Bx w w8 g v6 BY (endF fz (A ++ [q]))) := Lw.hid (by
                        have := (⟨KG.out.heap B7.out.box (fun h => (hva _ h).2.1 rfl), B7.out.ne, B7.out.ap, B7.out.lo⟩ : Bx w w8 g v6 BY (endF fz A'))
                        rwa [HQ.out] at this)
                      rw [HQ.out] at HST
                      clear hva
                      go_meet
                      case rel => exact ⟨BY, v6, D', A ++ [q], 0, bt, false, _, last, _, rfl, rfl, rfl, rfl, ⟨S8.out.mono (by omega), B8.out, Z8.out, fun r hr => by
                          rcases List.mem_append.1 hr with hr | hr
                          · exact G.out.a60 r hr
                          · rw [List.mem_singleton.1 hr, HQL.out]; exact hq60, by rw [List.length_append, HNA.out]; show na + 1 ≤ k + 1; omega, HC'.out, ⟨Int.le_refl _, by decide⟩, G.out.bb, HST.out⟩⟩
                  · as_aux_lemma =>
                      have hbl : decide ((bt : Int) < 10 + (nl : Int)) = true := decide_eq_true (by omega)
                      have hblN : decide (bt < 10 + nl) = true := decide_eq_true hlt2
                      have hblC : decide ((bt : Int) < ((10 + nl : Nat) : Int)) = true := decide_eq_true (by omega)
                      rw [← HNL.out] at hl60
                      rw [← HQL.out] at hq60
                      have HCHN : Hid (10 + last.length = 10 + nl) := Lw.hid (by rw [HNL.out])
                      rw [← HNL.out] at hch
                      cases hqe : q == last with
                      | false =>
                        go_wp2_with fail
                        refine (chance_any w7 _ _ _ A last q bt RAL.out HLA.out HU.out G.out.a60 hl60 hq60 (by rw [HNA.out]; omega) hbt9 S7.out.tab).mono ?_
                        rw [hch]
                        rintro e w8 ⟨rfl, k8⟩
                        go_wp2_with fail
                        go_ret
                        exact ⟨rfl, S7.out.k.trans k8 (fun _ _ h => h)⟩
                      | true =>
                        go_wp2_with fail
                        refine (chance_any w7 _ _ _ A last q bt RAL.out HLA.out HU.out G.out.a60 hl60 hq60 (by rw [HNA.out]; omega) hbt9 S7.out.tab).mono ?_
                        rw [hch]
                        rintro e w8 ⟨rfl, k8⟩
                        go_wp2_with fail
                        go_ret
                        exact ⟨rfl, S7.out.k.trans k8 (fun _ _ h => h)⟩
      case rest =>
        as_aux_lemma =>
          obtain ⟨BL2, v2', D2, A2, left2, bits2, perhaps2, vs2, last2, T2, rfl, rfl, rfl, rfl, hgd2⟩ := hcut
          have G2 := Lw.hid hgd2
          obtain ⟨ada2, capa2, rfl, _, _, _⟩ := own_slice hgd2.bz.own
          obtain ⟨na2, hna2⟩ : ∃ n, A2.length = n := ⟨_, rfl⟩
          have HNA2 := Lw.hid hna2
          rw [hna2] at G2 ⊢
          clear hgd2 hna2 b0 b1 b2 b3
          go_wp2_with fail
          refine (dstopped_any wc g v2' D2 G2.out.s.d).mono ?_
          rintro e _ ⟨rfl, rfl⟩
          cases hst2 : D2.stopped with
          | true =>
            go_wp2_with fail
            go_roundg (N - (k + 1))
            case measure => omega
            case rel => exact ⟨k + 1, rfl, hkn, by go_num, BL2, v2', D2, A2, left2, bits2, perhaps2, vs2, last2, T2, rfl, rfl, rfl, rfl, G2.out⟩
          | false =>
            obtain ⟨t2, hh2⟩ : ∃ t, Hold D2 A2 (zeros t) := by
              rcases G2.out.st with ⟨_, ⟨t, hh⟩, _⟩ | ⟨h1, _⟩
              · exact ⟨t, hh⟩
              · rw [hst2] at h1; cases h1
            have HH2 := Lw.hid hh2
            clear hh2
            go_wp2_with fail
            refine (lnext_any wc BL2 g _ G2.out.b.box).mono ?_
            rw [HH2.out.num, HNA2.out]
            rintro e _ ⟨rfl, rfl⟩
            have hnx : (((na2 + 1 : Nat) : Int) != (na2 : Int) + 1) = false := by rw [bne_eq_false_iff_eq]; omega
            go_wp2_with fail
            refine (rows_w G2.out.s G2.out.b HH2.out.fin HH2.out.logP).mono ?_
            rintro e w8 ⟨rg, vg, rfl, hog, _, hpg, k8⟩
            obtain ⟨adg, capg, rfl, _, _, _⟩ := own_slice hog
            have RG := Lw.hid (RdBB.of_rows hog hpg); have K8 := Lw.hid k8
            have RA2 : Hid (RdBB w8 (.slice ada2 na2 capa2) A2) := Lw.hid ((RdBB.of_rows G2.out.bz.own G2.out.bz.p).kept k8)
            rw [HNA2.out] at RG ⊢
            have G8 := Lw.hid (G2.out.keptF k8)
            clear hog hpg k8
            go_wp2_with fail
            refine (same_any w8 _ _ A2 A2 RG.out RA2.out true (by simp)).mono ?_
            rintro e _ ⟨rfl, rfl⟩
            go_wp2_with fail
            go_roundg (N - (k + 1))
            case measure => omega
            case rel => exact ⟨k + 1, rfl, hkn, by go_num, BL2, v2', D2, A2, left2, bits2, perhaps2, vs2, last2, T2, rfl, rfl, rfl, rfl, G8.out⟩
    · have hkd : decide ((k : Int) < (N : Int)) = false := by simp; omega
      go_wp2_with fail
      refine (lwakes_any wr G.out.s.tab).mono ?_
      rintro e w8 ⟨rfl, k8⟩
      go_wp2_with fail
      go_ret
      exact ⟨rfl, G.out.s.k.trans k8 (fun _ _ h => h)⟩
end Go.Proofs.YtfmebmaklakckaaDoor
