/- arith: all, the recursion, read, Right. -/
import Derived.Test.YtoedopgjonhemaaGreatDoorArith4
namespace Go.Proofs.YtoedopgjonhemaaGreatDoor
open Go Go.RowKit Go.Lw
set_option maxRecDepth 100000
set_option linter.unusedVariables false
set_option linter.unusedSimpArgs false
attribute [local go_sem] BA_toList
set_option maxHeartbeats 16000000 in
theorem all_step (B n : Nat) (hn9 : n ≤ 1000000) (HR0 : CRowA B 0 n) (HA0 : ∀ m, m < n → CAllA B m) : CAllA B n := by
  intro w lo g s d hE hg hgl hlo h hsn hd
  show Calls Tryz.prog 28 #[.pointer (some ⟨g, 0, none⟩)] w _
  have hgw := heap_lt h
  obtain ⟨wa, hwa⟩ : ∃ wa, w.alloc (.cells #[.pointer (some ⟨g, 0, none⟩)] 81) = wa := ⟨_, rfl⟩
  obtain ⟨c1, hc1⟩ : ∃ c1, w.heap.size = c1 := ⟨_, rfl⟩
  have HB1 : Hid (wa.heap[c1]? = some (.cells #[.pointer (some ⟨g, 0, none⟩)] 81 (0, 0))) := Lw.hid (by rw [← hwa, ← hc1]; exact heap_alloc w _)
  have KA : Hid (Kept (fun _ => False) w wa) := Lw.hid (by rw [← hwa]; exact (Kept.refl _ w).alloc _)
  have HEA := Lw.hid (hE.kept KA.out (fun _ h => h.elim)); have HAA := Lw.hid (h.kept KA.out (fun h => h))
  have hcr := HR0 wa lo g s d HEA.out hg hgl (Nat.le_trans hlo KA.out.size) HAA.out hsn hd
  have hcr2 : Calls Tryz.prog 43 #[.pointer (some ⟨g, 0, none⟩), .int .i64 0] wa fun e w' => RdPost lo g (rdA (.row 0) d s) d e w' ∧ KG g wa w' := hcr
  rw [rdA_allF]
  obtain ⟨R0, hR0⟩ : ∃ R, rdA (.row 0) d s = R := ⟨_, rfl⟩
  have HYL : Hid (∀ y, R0 = .ok y → y.2.length ≤ n) := Lw.hid (fun y hy => Nat.le_trans (rdA_len (hR0.trans hy)) hsn)
  rw [hR0] at hcr2 ⊢
  have HC := Lw.hid hcr2; have HWA := Lw.hid hwa; have HC1 := Lw.hid hc1; have HAR := Lw.hid HA0
  have n1 : c1 ≠ g := by omega
  clear h hE hcr hcr2 hR0 hwa hc1 HA0 HR0
  go_enter Tryz.func28, Tryz.ntmps28
  go_wp2_with fail
  rw [HWA.out, HC1.out]
  refine HC.out.mono ?_
  rintro x w1 ⟨hp, k1⟩
  have K1 := Lw.hid ((KG.of KA.out).tr k1)
  have HE1 := Lw.hid (HEA.out.kept k1 (fun i hi => by omega))
  have HB11 := Lw.hid (k1.heap HB1.out n1)
  have q1 := heap_cell HB11.out 0
  have hc1l : c1 < w1.heap.size := heap_lt HB11.out
  have n2 : w1.heap.size ≠ g := by have := K1.out.size; omega
  cases R0 with
  | error e =>
    obtain ⟨he, ⟨a, rfl⟩, d', ha⟩ := hp
    obtain ⟨w2, hw2⟩ : ∃ w2, w1.alloc (.cells #[.pointer (some a)] 53) = w2 := ⟨_, rfl⟩
    have hb2 : w2.heap[w1.heap.size]? = some (.cells #[.pointer (some a)] 53 (0, 0)) := by rw [← hw2]; exact heap_alloc w1 _
    have k2 : Kept (fun _ => False) w1 w2 := by rw [← hw2]; exact (Kept.refl _ w1).alloc _
    have HA2 := Lw.hid (ha.kept k2 (fun h => h))
    have HTB := Lw.hid (takes_bad w2 g [] [63] d' e HA2.out he)
    have q2 := heap_cell hb2 0
    have K2 := Lw.hid (K1.out.tr (KG.of k2)); have HW2 := Lw.hid hw2
    clear ha k1 HC hb2 k2 hw2
    go_wp2_with fail
    rw [HW2.out]
    refine HTB.out.mono ?_
    rintro e9 w2 ⟨rfl, rfl⟩
    go_wp2_with fail
    go_ret
    exact ⟨rp_err rfl he ⟨_, rfl⟩ d' HA2.out, K2.out⟩
  | ok y =>
    obtain ⟨p, rfl, hn, ha⟩ := hp
    obtain ⟨y1, y2⟩ := y
    obtain ⟨bp, rfl, _⟩ := hn.ptr
    have hy2 : y2.length ≤ n := HYL.out _ rfl
    obtain ⟨w2, hw2⟩ : ∃ w2, w1.alloc (.cells #[.pointer (some ⟨bp, 0, none⟩)] 53) = w2 := ⟨_, rfl⟩
    have hb2 : w2.heap[w1.heap.size]? = some (.cells #[.pointer (some ⟨bp, 0, none⟩)] 53 (0, 0)) := by rw [← hw2]; exact heap_alloc w1 _
    have k2 : Kept (fun _ => False) w1 w2 := by rw [← hw2]; exact (Kept.refl _ w1).alloc _
    have HA2 := Lw.hid (ha.kept k2 (fun h => h)); have HN2 := Lw.hid (hn.kept k2 (fun _ _ h => h)); have HB12 := Lw.hid (k2.heap HB11.out (fun h => h)); have HB2 := Lw.hid hb2
    have HE2 := Lw.hid (HE1.out.kept k2 (fun _ h => h.elim))
    have HTK := Lw.hid (takes_any B w2 g y2 [63] (d : Int) HE2.out hg HA2.out (Nat.le_trans hy2 hn9) (by decide))
    have K2 := Lw.hid (K1.out.tr (KG.of k2)); have HW2 := Lw.hid hw2; have HY2 := Lw.hid hy2
    have q2 := heap_cell HB12.out 0
    have hc1w : w1.heap.size < w2.heap.size := heap_lt hb2
    clear ha hn k1 HC hb2 k2 hw2 hy2
    by_cases hq : signF (trimA y2) = [63]
    · rw [(tk_hit hq).1, (tk_hit hq).2] at HTK
      have HLS := Lw.hid (drop_less hq (by decide))
      obtain ⟨S2, hS2⟩ : ∃ S, (trimA y2).drop ([63] : List UInt8).length = S := ⟨_, rfl⟩
      rw [hS2] at HTK HLS
      have HRE : Hid (allF d (.ok (y1, y2)) = dnF d (condF y1 (d + 1) (rdA .all (d + 1) S2))) := Lw.hid (by unfold allF; simp only; rw [if_pos hq, ← hS2]; rfl)
      clear hq hS2
      go_wp2_with fail
      rw [HW2.out]
      refine HTK.out.mono ?_
      rintro e9 w3 ⟨rfl, h3, k3⟩
      have K3 := Lw.hid (K2.out.tr k3); have H3 := Lw.hid h3
      have HE3 := Lw.hid (HE2.out.kept k3 (fun i hi => by omega))
      have HB13 := Lw.hid (k3.heap HB12.out n1); have HB23 := Lw.hid (k3.heap HB2.out n2); have HN3 := Lw.hid (HN2.out.kept k3 (fun b hb e => by omega))
      have q3 := heap_cell HB13.out 0
      have hdn := down_cl w3 lo g S2 d (condF y1 (d + 1) (rdA .all (d + 1) S2)) c1 w1.heap.size H3.out hd hgl (fun h16 w4 h4 k4 hz4 =>
        all1_any B (n - 1) (by omega) (fun j hj => HAR.out j (by have := HLS.out; have := HY2.out; omega)) w4 lo g c1 w1.heap.size S2 (d + 1) (.pointer (some ⟨bp, 0, none⟩)) y1 (HE3.out.kept k4 (fun i hi => by omega)) hg hgl (by rw [hz4]; exact Nat.le_trans hlo K3.out.size) h4 (by have := HLS.out; have := HY2.out; omega) h16 (k4.heap HB13.out n1) (k4.heap HB23.out n2) n1 n2 (HN3.out.kept k4 (fun b hb e => by omega)))
      obtain ⟨R1, hR1⟩ : ∃ R, dnF d (condF y1 (d + 1) (rdA .all (d + 1) S2)) = R := ⟨_, rfl⟩
      rw [hR1] at hdn HRE
      have HDN := Lw.hid hdn
      clear h3 k3 HTK q1 q2 hdn hR1
      go_wp2_with fail
      refine HDN.out.mono ?_
      rintro x w4 ⟨hp4, k4⟩
      obtain ⟨a, ha⟩ : ∃ a, x = .returned (.pointer (some a)) := by
        cases R1 with
        | error e => obtain ⟨_, h, _⟩ := hp4; exact h
        | ok y => obtain ⟨p, h, hn, _⟩ := hp4; obtain ⟨b, rfl, _⟩ := hn.ptr; exact ⟨_, h⟩
      subst ha
      have HP := Lw.hid hp4; have K4 := Lw.hid (K3.out.tr k4)
      clear hp4 k4 HDN
      go_wp2_with fail
      go_ret
      rw [HRE.out]
      exact ⟨HP.out, K4.out⟩
    · rw [(tk_miss hq).1, (tk_miss hq).2] at HTK
      have HRE : Hid (allF d (.ok (y1, y2)) = .ok (y1, trimA y2)) := Lw.hid (by unfold allF; simp only; rw [if_neg hq])
      clear hq
      go_wp2_with fail
      rw [HW2.out]
      refine HTK.out.mono ?_
      rintro e9 w3 ⟨rfl, h3, k3⟩
      have K3 := Lw.hid (K2.out.tr k3); have H3 := Lw.hid h3
      have HN3 := Lw.hid (HN2.out.kept k3 (fun b hb e => by omega))
      have q3 := heap_cell (k3.heap HB2.out n2) 0
      clear h3 k3 HTK q1 q2
      go_wp2_with fail
      go_ret
      exact ⟨rp_ok HRE.out rfl HN3.out H3.out, K3.out⟩
/-- All of them. -/
theorem reads_all (B : Nat) (n : Nat) : n ≤ 1000000 → COneA B n ∧ (∀ k, k ≤ 10 → CRowA B k n) ∧ CAllA B n := by
  induction n using Nat.strongRecOn with
  | ind n ih =>
    intro hn
    have h1 : COneA B n := one_all B n hn (fun m hm => (ih m hm (by omega)).1) (fun m hm => (ih m hm (by omega)).2.2)
    have h2 : ∀ j k, j + k = 10 → CRowA B k n := by
      intro j
      induction j with
      | zero => intro k hk; exact row_top B k n (by omega) h1
      | succ j ihj => intro k hk; exact row_step B k n (by omega) hn (ihj (k + 1) (by omega)) (fun m hm => (ih m hm (by omega)).2.1 (k + 1) (by omega))
    refine ⟨h1, fun k hk => h2 (10 - k) k (by omega), all_step B n hn (h2 10 0 rfl) (fun m hm => (ih m hm (by omega)).2.2)⟩
/-- What is left over. -/
def finT (R : Rx) : Except Nat Ex := match R with
  | .error e => .error e
  | .ok x => if trimA x.2 = [] then .ok x.1 else .error 5
theorem readT_fin (s : List UInt8) : readT s = finT (rdA .all 0 s) := by unfold readT finT; cases rdA .all 0 s <;> rfl
/-- What read tells. -/
def ReadPost (lo : Nat) (res : Except Nat Ex) (x : Ending) (w' : World) : Prop := match res with
  | .error e => e ≠ 0 ∧ ∃ a, x = .returned (.tuple #[.pointer (some a), .int .i64 (e : Int)])
  | .ok y => ∃ p, x = .returned (.tuple #[p, .int .i64 0]) ∧ NAt w' (fun b => lo ≤ b) p y
theorem rd_err {lo e : Nat} {res : Except Nat Ex} {x : Ending} {w' : World} (h : res = .error e) (h0 : e ≠ 0) (hx : ∃ a, x = .returned (.tuple #[.pointer (some a), .int .i64 (e : Int)])) : ReadPost lo res x w' := by subst h; exact ⟨h0, hx⟩
theorem rd_ok {lo : Nat} {res : Except Nat Ex} {x : Ending} {w' : World} {y : Ex} {p : Value} (h : res = .ok y) (hx : x = .returned (.tuple #[p, .int .i64 0])) (hn : NAt w' (fun b => lo ≤ b) p y) : ReadPost lo res x w' := by subst h; exact ⟨p, hx, hn⟩
set_option maxHeartbeats 8000000 in
/-- read. -/
theorem read_any (B : Nat) (w : World) (s : List UInt8) (hE : AEnv B w) (hs9 : s.length ≤ 1000000) :
    Calls Tryz.prog 17 #[.string (BA s)] w fun x w' => ReadPost w.heap.size (readT s) x w' ∧ Kept (fun _ => False) w w' := by
  obtain ⟨g, hg⟩ : ∃ g, w.heap.size = g := ⟨_, rfl⟩
  obtain ⟨wa, hwa⟩ : ∃ wa, w.alloc (.cells #[.string (BA s), .int .i64 0, .int .i64 0] 83) = wa := ⟨_, rfl⟩
  have KA : Hid (Kept (fun _ => False) w wa) := Lw.hid (by rw [← hwa]; exact (Kept.refl _ w).alloc _)
  have HAA : Hid (AR wa g s (0 : Int) 0) := Lw.hid (by rw [← hwa, ← hg]; exact heap_alloc w _)
  have HSZ : Hid (wa.heap.size = g + 1) := Lw.hid (by rw [← hwa, ← hg]; simp)
  have hBg : B ≤ g := by rw [← hg]; exact hE.lt
  have HEA := Lw.hid (hE.kept KA.out (fun _ h => h.elim))
  have hc := (reads_all B s.length hs9).2.2 wa (g + 1) g s 0 HEA.out hBg (by omega) (by rw [HSZ.out]; exact Nat.le_refl _) HAA.out (Nat.le_refl _) (by omega)
  have hc2 : Calls Tryz.prog 28 #[.pointer (some ⟨g, 0, none⟩)] wa fun e w' => RdPost (g + 1) g (rdA .all 0 s) 0 e w' ∧ KG g wa w' := hc
  obtain ⟨R0, hR0⟩ : ∃ R, rdA .all 0 s = R := ⟨_, rfl⟩
  have HYL : Hid (∀ y, R0 = .ok y → y.2.length ≤ 1000000) := Lw.hid (fun y hy => Nat.le_trans (rdA_len (hR0.trans hy)) hs9)
  have HRT : Hid (readT s = finT R0) := Lw.hid (by rw [readT_fin, hR0])
  rw [hR0] at hc2
  have HC := Lw.hid hc2; have HWA := Lw.hid hwa; have HGG := Lw.hid hg
  have KF : Hid (∀ w', KG g wa w' → Kept (fun _ => False) w w') := Lw.hid (fun w' k => KA.out.trans k (fun i hi e => by rw [hg] at hi; omega))
  have HGL : Hid (∀ w', KG g wa w' → ∀ p (y : Ex), NAt w' (fun b => g + 1 ≤ b) p y → NAt w' (fun b => w.heap.size ≤ b) p y) := Lw.hid (fun w' k p y h => h.mono (fun b _ hb => by rw [hg]; omega))
  clear hE hc hc2 hR0 hwa hg
  go_enter Tryz.func17, Tryz.ntmps17
  go_wp2_with fail
  rw [HWA.out, HGG.out]
  refine HC.out.mono ?_
  rintro x w1 ⟨hp, k1⟩
  have K1 := Lw.hid k1
  have HE1 := Lw.hid (HEA.out.kept k1 (fun i hi => by omega))
  cases R0 with
  | error e =>
    obtain ⟨he, ⟨a, rfl⟩, d', ha⟩ := hp
    have HSG := Lw.hid (sign_any B w1 g [] d' (e : Int) HE1.out hBg ha (Nat.zero_le _))
    clear ha k1 HC
    go_wp2_with fail
    refine HSG.out.mono ?_
    rintro x w2 ⟨rfl, h2, k2⟩
    have h2' : AR w2 g [] d' (e : Int) := h2
    obtain ⟨⟨x0, x1, x2⟩, -⟩ := h2'.cells
    have K2 := Lw.hid (K1.out.tr k2)
    have hx0 : w2.cell? ⟨g, 0, none⟩ = some (.string ⟨#[]⟩) := x0
    clear h2 h2' k2 HSG x0
    go_wp2_with fail
    go_quiet (fail)
    go_wp2_with fail
    go_ret2
    exact ⟨rd_err HRT.out he ⟨_, rfl⟩, by first | exact KF.out _ K2.out | exact (KF.out _ K2.out).drew | exact (KF.out _ K2.out).trans (kept_drewN' _ _) (fun _ _ h => h)⟩
  | ok y =>
    obtain ⟨p, rfl, hn, ha⟩ := hp
    obtain ⟨y1, y2⟩ := y
    obtain ⟨bp, rfl, _⟩ := hn.ptr
    have HSG := Lw.hid (sign_any B w1 g y2 ((0 : Nat) : Int) 0 HE1.out hBg ha (HYL.out _ rfl))
    have HN := Lw.hid hn
    clear ha hn k1 HC
    go_wp2_with fail
    refine HSG.out.mono ?_
    rintro x w2 ⟨rfl, h2, k2⟩
    have K2 := Lw.hid (K1.out.tr k2); have HN2 := Lw.hid (HN.out.kept k2 (fun b hb e => by omega))
    by_cases hz : trimA y2 = []
    · have HRT2 : Hid (readT s = .ok y1) := Lw.hid (by rw [HRT.out]; unfold finT; simp only; rw [if_pos hz])
      rw [hz] at h2
      obtain ⟨⟨x0, x1, x2⟩, -⟩ := h2.cells
      have hx0 : w2.cell? ⟨g, 0, none⟩ = some (.string ⟨#[]⟩) := x0
      have HN3 := Lw.hid (HGL.out _ K2.out _ _ HN2.out)
      clear h2 k2 HSG x0 hz
      go_wp2_with fail
      go_quiet (fail)
      go_wp2_with fail
      go_ret2
      first
        | exact ⟨rd_ok HRT2.out rfl HN3.out, KF.out _ K2.out⟩
        | exact ⟨rd_ok HRT2.out rfl (HN3.out.kept (kept_drewN' _ _) (fun _ _ h => h)), (KF.out _ K2.out).trans (kept_drewN' _ _) (fun _ _ h => h)⟩
    · have HRT2 : Hid (readT s = .error 5) := Lw.hid (by rw [HRT.out]; unfold finT; simp only; rw [if_neg hz])
      obtain ⟨⟨x0, x1, x2⟩, -⟩ := h2.cells
      have hne : (BA (trimA y2) != (⟨#[]⟩ : ByteArray)) = true := by rw [bne, BA_ne_nil hz]; rfl
      have hni : (trimA y2).isEmpty = false := by cases h : trimA y2 with
        | nil => exact absurd h hz
        | cons c l => rfl
      have H2 := Lw.hid h2
      clear h2 k2 HSG hz
      go_wp2_with fail
      refine (fail_any _ g _ _ 0 5 H2.out).mono ?_
      rintro x w5 ⟨⟨a2, rfl⟩, h5, k5⟩
      have K5 := Lw.hid (K2.out.tr k5)
      have h5' : AR w5 g [] ((0 : Nat) : Int) 5 := h5
      obtain ⟨⟨y0, y1', y2'⟩, -⟩ := h5'.cells
      clear h5 h5' k5 x0 x1 x2
      go_wp2_with fail
      go_quiet (fail)
      go_wp2_with fail
      go_ret2
      exact ⟨rd_err HRT2.out (by decide) ⟨_, rfl⟩, by first | exact KF.out _ K5.out | exact (KF.out _ K5.out).trans (kept_drewN' _ _) (fun _ _ h => h)⟩
/-- A text's error. -/
def errR (R : Except Nat Ex) : Nat := match R with
  | .error e => e
  | .ok _ => 0
def errT (s : List UInt8) : Nat := errR (readT s)
/-- Right. -/
theorem right_any (B : Nat) (w : World) (s : List UInt8) (hE : AEnv B w) (hs9 : s.length ≤ 1000000) :
    Calls Tryz.prog 7 #[.string (BA s)] w fun x w' => x = .returned (.int .i64 (errT s : Int)) ∧ Kept (fun _ => False) w w' := by
  have HC := Lw.hid (read_any B w s hE hs9)
  have HER : Hid (errT s = errR (readT s)) := Lw.hid rfl
  obtain ⟨R, hR⟩ : ∃ R, readT s = R := ⟨_, rfl⟩
  rw [hR] at HC HER
  clear hE hR
  go_enter Tryz.func7, Tryz.ntmps7
  go_wp2_with fail
  refine HC.out.mono ?_
  rintro x w1 ⟨hp, k1⟩
  have K1 := Lw.hid k1
  clear k1 HC
  cases R with
  | error e =>
    obtain ⟨he, a, rfl⟩ := hp
    go_wp2_with fail
    go_ret
    rw [HER.out]
    exact ⟨rfl, K1.out⟩
  | ok y =>
    obtain ⟨p, rfl, hn⟩ := hp
    obtain ⟨bp, rfl, _⟩ := hn.ptr
    clear hn
    go_wp2_with fail
    go_ret
    rw [HER.out]
    exact ⟨rfl, K1.out⟩
end Go.Proofs.YtoedopgjonhemaaGreatDoor
