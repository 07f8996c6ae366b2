/- ArithWorks: the machine's value of a name. -/
import Derived.Test.YtoedopgjonhemaaGreatDoorWorks4
namespace Go.Proofs.YtoedopgjonhemaaGreatDoor
open Go Go.RowKit Go.Lw
set_option maxRecDepth 100000
set_option linter.unusedVariables false
set_option linter.unusedSimpArgs false
attribute [local go_sem] BA_toList
theorem ET23 : ElemT Tryz.prog 30 9 1 16 := ElemT.of (z := .string ⟨#[]⟩) Tryz.underlying30 (by kernel_rfl) rfl (by decide)
/-- A name's text: the last one. -/
def envV (V : List (List UInt8 × List UInt8)) (s : List UInt8) : List UInt8 := V.foldl (fun acc p => if p.1 = s then p.2 else acc) []
theorem envV_snoc {V : List (List UInt8 × List UInt8)} {k : Nat} {p : List UInt8 × List UInt8} (h : V[k]? = some p) (s : List UInt8) : envV (V.take (k + 1)) s = if p.1 = s then p.2 else envV (V.take k) s := by
  obtain ⟨hk, rfl⟩ := List.getElem?_eq_some_iff.1 h
  unfold envV
  rw [List.take_succ_eq_append_getElem hk, List.foldl_append]
  rfl
theorem envV_len {V : List (List UInt8 × List UInt8)} (h : ∀ p ∈ V, p.1.length ≤ 1000 ∧ p.2.length ≤ 1000) (s : List UInt8) : (envV V s).length ≤ 1000 := by
  unfold envV
  have key : ∀ (V : List (List UInt8 × List UInt8)) (acc : List UInt8), (∀ p ∈ V, p.1.length ≤ 1000 ∧ p.2.length ≤ 1000) → acc.length ≤ 1000 → (V.foldl (fun acc p => if p.1 = s then p.2 else acc) acc).length ≤ 1000 := by
    intro V
    induction V with
    | nil => intro acc _ h; exact h
    | cons p V ih =>
      intro acc h h2
      rw [List.foldl_cons]
      refine ih _ (fun q hq => h q (List.mem_cons_of_mem _ hq)) ?_
      split
      · exact (h p List.mem_cons_self).2
      · exact h2
  exact key V [] h (by simp)
theorem negw {m : Nat} (h : m ≤ 9223372036854775808) : wrap64 (-wrap64 (m : Int)) = -(m : Int) := by unfold wrap64; omega
theorem posw {m : Nat} (h : m ≤ 9223372036854775808) (h2 : m ≠ 9223372036854775808) : wrap64 (m : Int) = (m : Int) := by unfold wrap64; omega
theorem value_quiet (w : World) (mb : Nat) (H : Nat → Prop) (vL vV vA : Value) (at_ d bd : Int) (sk wr : Nat) (s : List UInt8) (h : MC w mb vL vV vA at_ d (sk : Int) bd (wr : Int)) (hq : sk ≠ 0 ∨ wr ≠ 0) :
    Calls Tryz.prog 60 #[.pointer (some ⟨mb, 0, none⟩), .string (BA s)] w fun x w' => x = .returned (.int .i64 0) ∧ w' = w := by
  obtain ⟨⟨c0, c1, c2, c3, c4, c5, c6, c7⟩, f1, f2, f3, f4, f5, f7⟩ := h.cells
  clear h
  by_cases h1 : sk = 0
  · subst h1
    have hb : ((wr : Int) != 0) = true := by rw [bne_iff_ne]; omega
    go_enter Tryz.func60, Tryz.ntmps60
    go_wp2_with fail
    go_ret
    exact ⟨rfl, rfl⟩
  · have hb : decide (0 < (sk : Int)) = true := decide_eq_true (by omega)
    go_enter Tryz.func60, Tryz.ntmps60
    go_wp2_with fail
    go_ret
    exact ⟨rfl, rfl⟩
theorem getf5 {w : World} {o : Obj} {H : Nat → Prop} {v v' : Value} (hHw : ∀ i, w.heap.size ≤ i → H i) (h3 : ∀ k, blk v k → H k) (hf : Fresh (w.alloc o) v v') : ∀ k, blk v' k → H k := fun k hk => by
  rcases hf k hk with h | h
  · exact h3 k h
  · have : (w.alloc o).heap.size = w.heap.size + 1 := by simp
    exact hHw k (by omega)
set_option maxHeartbeats 16000000 in
theorem value_live (w : World) (mb : Nat) (H : Nat → Prop) (L : List Tok) (vL : Value) (V : List (List UInt8 × List UInt8)) (vV : Value) (at_ d bd : Int) (lq : List (List UInt8)) (s : List UInt8) (hE : MEnv w mb H L vL V vV) (h : MS w mb H vL vV at_ d 0 bd 0 lq) (hs9 : s.length ≤ 1000) (has : lq.length ≤ 100000) :
    Calls Tryz.prog 60 #[.pointer (some ⟨mb, 0, none⟩), .string (BA s)] w fun x w' => x = .returned (.int .i64 (valR (envV V s)).1) ∧ MS w' mb H vL vV at_ d 0 bd (valR (envV V s)).2 (lq ++ [s]) ∧ KM mb H w w' := by
  obtain ⟨ad, cap, hmc, h2, h3⟩ := h.st
  obtain ⟨n, hn⟩ : ∃ n, lq.length = n := ⟨_, rfl⟩
  rw [hn] at hmc h2 h3 has
  obtain ⟨⟨c0, c1, c2, c3, c4, c5, c6, c7⟩, f1, f2, f3, f4, f5, f7⟩ := hmc.cells
  have HMC := Lw.hid hmc; have H3 := Lw.hid h3; have HN := Lw.hid hn; have HE := Lw.hid hE
  have hHw := hE.lt
  have HO3 : Hid ((w.alloc (.cells #[.string (BA s)] 9)).ownsRow 0 9 1 (.slice ad n cap) n (lq.map sV2)) := Lw.hid (own_kept ((Kept.refl (fun _ => False) w).alloc _) h2 (fun _ _ h => h))
  have HR3 : Hid (Rd (w.alloc (.cells #[.string (BA s)] 9)) 1 (.slice (some ⟨w.heap.size, 0, none⟩) 1 1) 1 [.string (BA s)]) := Lw.hid (Rd.lit _ [.string (BA s)] 9 1 w.heap.size 1 (by simp) rfl (by decide))
  have HONE : Hid (∀ u ∈ ([.string (BA s)] : List Value), u.oneCell' = true) := Lw.hid (fun u hu => by rw [List.mem_singleton.1 hu]; rfl)
  have hmw : mb < w.heap.size := hHw.2.1
  clear h hE hmc h2 h3 hn
  go_enter Tryz.func60, Tryz.ntmps60
  go_wp2_with (at_builtin; refine wpList_app rfl _ _ _ rfl ET23 _ n _ rfl HO3.out _ 1 _ rfl HR3.out HONE.out (by unfold maxLen; omega) (by omega) ?_; intro ad' cap' w5 ho5 hg5 hf5; have K5 : Hid (Kept (fun k => H k) w w5) := Lw.hid ((((Kept.refl (fun k => H k) w).alloc _)).grown hg5 (fun i hi hl => H3.out i hi)); have HM5 := Lw.hid (HMC.out.kept K5.out hHw.1); have g5 := HM5.out.cells.1; have gf5 := HM5.out.cells.2; obtain ⟨a0, a1, a2, a3, a4, a5, a6, a7⟩ := g5; obtain ⟨e1, e2, e3, e4, e5, e7⟩ := gf5; have HO5 := Lw.hid ho5; have HF5 : Hid (∀ k, blk (.slice ad' (n + 1) cap') k → H k) := Lw.hid (getf5 hHw.2.2 H3.out hf5); clear ho5 hg5 hf5)
  obtain ⟨w6, hw6⟩ : ∃ w6, w5.setCell ⟨mb, 7, none⟩ (.slice ad' (n + 1) cap') = w6 := ⟨_, rfl⟩
  rw [hw6]
  have hm6 : MC w6 mb vL vV (.slice ad' (n + 1) cap') at_ d 0 bd ((0 : Nat) : Int) := by rw [← hw6]; exact HM5.out.setA _
  have K6 : Hid (KM mb H w w6) := Lw.hid (by rw [← hw6]; exact KM.set (K5.out.mono (fun _ _ h => .inr h)) 7 _)
  have HO6 : Hid (w6.ownsRow 0 9 1 (.slice ad' (n + 1) cap') (n + 1) (lq.map sV2 ++ [.string (BA s)])) := Lw.hid (by rw [← hw6]; exact own_setCell HO5.out (fun hb => hHw.1 (HF5.out _ hb)) _)
  have HMS : Hid (∀ w' wr', KB mb w6 w' → MC w' mb vL vV (.slice ad' (n + 1) cap') at_ d 0 bd ((wr' : Nat) : Int) → MS w' mb H vL vV at_ d 0 bd wr' (lq ++ [s])) := Lw.hid (fun w' wr' k h => by
    have hl : (lq ++ [s]).length = n + 1 := by rw [List.length_append, HN.out]; rfl
    refine ⟨ad', cap', ?_, ?_, ?_⟩
    · rw [hl]; exact h
    · rw [hl, List.map_append]
      exact own_kept k HO6.out (fun g hg hs => hHw.1 (hs ▸ HF5.out g hg))
    · rw [hl]; exact HF5.out)
  have HE6 := Lw.hid (HE.out.kept K6.out)
  obtain ⟨adV, capV, hvV, hcapV, hvar⟩ := HE6.out.var
  have HVAR := Lw.hid hvar
  obtain ⟨nv, hnv⟩ : ∃ nv, V.length = nv := ⟨_, rfl⟩
  have HNV := Lw.hid hnv
  have hnv9 := HE6.out.nV
  have HX := Lw.hid (envV_len HE6.out.nX)
  rw [hnv] at hvV hcapV hnv9
  subst hvV
  have HM6 := Lw.hid hm6
  obtain ⟨⟨b0, b1, b2, b3, b4, b5, b6, b7⟩, i1, i2, i3, i4, i5, i7⟩ := hm6.cells
  clear c0 c1 c2 c3 c4 c5 c6 c7 f1 f2 f3 f4 f5 f7 a0 a1 a2 a3 a4 a5 a6 a7 e1 e2 e3 e4 e5 e7 hvar hnv hm6 HO5 HM5 HMC H3 HO3 HR3 HONE hw6 K5 HF5
  go_loopg [5, 6] nv (fun gk s5 s6 wx => ∃ k : Nat, gk = nv - k ∧ k ≤ nv ∧ s6 = .int .i64 (k : Int) ∧ s5 = .string (BA (envV (V.take k) s)) ∧ wx = w6)
  case atStart => exact ⟨0, rfl, Nat.zero_le _, rfl, rfl, rfl⟩
  case round =>
    obtain ⟨k, rfl, hk, rfl, rfl, rfl⟩ := hrel
    by_cases hlt : k < nv
    · obtain ⟨⟨p1, p2⟩, hp⟩ : ∃ p, V[k]? = some p := ⟨_, List.getElem?_eq_getElem (by rw [HNV.out]; exact hlt)⟩
      obtain ⟨g0, off, rfl, t0, t1⟩ := HVAR.out k _ hp
      simp only at t0 t1
      have hs := envV_snoc hp s
      have hbe := BA_beq p1 s
      by_cases he : p1 = s
      · have hb : (p1 == s) = true := by simp [he]
        have HS : Hid (envV (V.take (k + 1)) s = p2) := Lw.hid (by rw [hs, if_pos he])
        clear hs hp hbe he
        go_wp2_with fail
        go_roundg (nv - (k + 1))
        case measure => omega
        case rel => exact ⟨k + 1, rfl, by omega, by go_num, by rw [HS.out], rfl⟩
      · have hb : (p1 == s) = false := by simp [he]
        have HS : Hid (envV (V.take (k + 1)) s = envV (V.take k) s) := Lw.hid (by rw [hs, if_neg he])
        clear hs hp hbe he
        go_wp2_with fail
        go_roundg (nv - (k + 1))
        case measure => omega
        case rel => exact ⟨k + 1, rfl, by omega, by go_num, by rw [HS.out], rfl⟩
    · obtain rfl : k = nv := by omega
      have HT : Hid (envV (V.take k) s = envV V s) := Lw.hid (by rw [List.take_of_length_le (by rw [HNV.out]; exact Nat.le_refl _)])
      rw [HT.out]
      obtain ⟨S, hS⟩ : ∃ S, envV V s = S := ⟨_, rfl⟩
      have hx9 := HX.out s
      rw [hS] at hx9 ⊢
      have HSV : Hid (envV V s = S) := Lw.hid hS
      clear hS HT
      cases S with
      | nil =>
        have HV : Hid (valR (envV V s) = (0, 0)) := Lw.hid (by rw [HSV.out]; rfl)
        have hb0 : (BA ([] : List UInt8) == (⟨#[]⟩ : ByteArray)) = true := rfl
        go_wp2_with fail
        go_ret
        rw [HV.out]
        exact ⟨rfl, HMS.out _ _ (KB.refl mb _) HM6.out, K6.out⟩
      | cons c0 r0 =>
        have hb0 : (BA (c0 :: r0) == (⟨#[]⟩ : ByteArray)) = false := BA_ne_nil (by simp)
        have g0 := BA_get (l := c0 :: r0) (k := 0) rfl
        have hz0 := BA_size (c0 :: r0)
        rw [List.length_cons] at hz0
        by_cases h45 : c0 = 45
        · subst h45
          have HBB : Hid (bareA (45 :: r0) = r0) := Lw.hid (by unfold bareA; simp)
          have hext : (BA (45 :: r0)).extract 1 (r0.length + 1) = BA r0 := BA_tail (45 :: r0) 1 (r0.length + 1) (by simp)
          go_wp2_with fail
          clear g0
          obtain ⟨nb, hnb⟩ : ∃ nb, r0.length = nb := ⟨_, rfl⟩
          have HNB := Lw.hid hnb
          have hzb := BA_size (r0)
          rw [hnb] at hzb
          have hnb9 : nb ≤ 1000 := by simp only [List.length_cons] at hx9 hnb; omega
          clear hnb
          go_loopg [8] nb (fun gk s8 wx => ∃ j : Nat, gk = nb - j ∧ j ≤ nb ∧ s8 = .int .i64 (j : Int) ∧ ((r0).take j).all digitB = true ∧ wx = wr)
          case atStart => exact ⟨0, rfl, Nat.zero_le _, rfl, rfl, rfl⟩
          case round =>
            obtain ⟨j, rfl, hj, rfl, hall, rfl⟩ := hrel
            have HALL := Lw.hid hall
            clear hall
            by_cases hjl : j < nb
            · obtain ⟨e, he⟩ : ∃ e, (r0)[j]? = some e := ⟨_, List.getElem?_eq_getElem (by rw [HNB.out]; exact hjl)⟩
              have g0 := BA_get he
              have HE2 := Lw.hid he
              clear he
              go_wp2_with fail
              refine (digit23_any _ e).mono ?_
              cases hdg : digitB e with
              | true =>
                have HALL2 : Hid (((r0).take (j + 1)).all digitB = true) := Lw.hid (by
                  obtain ⟨hl, he⟩ := List.getElem?_eq_some_iff.1 HE2.out
                  rw [List.take_succ_eq_append_getElem hl, List.all_append, HALL.out, he]; simp [hdg])
                clear hdg
                rintro x w7 ⟨rfl, h7⟩
                subst h7
                go_wp2_with fail
                go_roundg (nb - (j + 1))
                case measure => omega
                case rel => exact ⟨j + 1, rfl, by omega, by go_num, HALL2.out, rfl⟩
              | false =>
                have HV : Hid (valR (envV V s) = (0, 5)) := Lw.hid (by
                  have hno : (r0).all digitB = false := by
                    cases hx : (r0).all digitB with
                    | false => rfl
                    | true => rw [List.all_eq_true.1 hx e (List.mem_of_getElem? HE2.out)] at hdg; cases hdg
                  rw [HSV.out]
                  unfold valR
                  rw [if_neg (by simp), HBB.out, if_pos (.inl hno)])
                clear hdg
                rintro x w7 ⟨rfl, h7⟩
                subst h7
                go_wp2_with fail
                refine (wrong_any _ mb H vL (.slice adV k capV) (.slice ad' (n + 1) cap') at_ d 0 bd 0 5 HM6.out).mono ?_
                rintro x w7 ⟨rfl, h7, k7⟩
                have H7 := Lw.hid (HMS.out w7 _ k7 h7); have K7 := Lw.hid (K6.out.tr (KB.km k7))
                clear h7 k7
                go_wp2_with fail
                go_ret
                rw [HV.out]
                exact ⟨rfl, H7.out, K7.out⟩
            · obtain rfl : j = nb := by omega
              have HA : Hid ((r0).all digitB = true) := Lw.hid (by have := HALL.out; rw [List.take_of_length_le (by rw [HNB.out]; exact Nat.le_refl _)] at this; exact this)
              clear HALL
              by_cases hem : (r0) = []
              · have HV : Hid (valR (envV V s) = (0, 5)) := Lw.hid (by rw [HSV.out]; unfold valR; rw [if_neg (by simp), HBB.out, if_pos (.inr hem)])
                have hbe : (r0).isEmpty = true := by rw [hem]; rfl
                clear hem
                go_wp2_with fail
                refine (wrong_any _ mb H vL (.slice adV k capV) (.slice ad' (n + 1) cap') at_ d 0 bd 0 5 HM6.out).mono ?_
                rintro x w7 ⟨rfl, h7, k7⟩
                have H7 := Lw.hid (HMS.out w7 _ k7 h7); have K7 := Lw.hid (K6.out.tr (KB.km k7))
                clear h7 k7
                go_wp2_with fail
                go_ret
                rw [HV.out]
                exact ⟨rfl, H7.out, K7.out⟩
              · have hbe : (r0).isEmpty = false := by cases hx : (r0) with
                  | nil => exact absurd hx hem
                  | cons _ _ => rfl
                have hv : valR (envV V s) = (match numR (r0) 0 with
                  | none => (0, 24)
                  | some m => if (45 :: r0).head? ≠ some 45 ∧ m = 9223372036854775808 then (0, 24) else (if (45 :: r0).head? = some 45 then -(m : Int) else (m : Int), 0)) := by
                  rw [HSV.out]; unfold valR; rw [if_neg (by simp), HBB.out, if_neg (fun h => h.elim (fun h => by rw [HA.out] at h; cases h) hem)]
                  cases numR (r0) 0 <;> rfl
                have HNL := Lw.hid (fun m (h : numR (r0) 0 = some m) => numR_le HA.out h)
                have HQ := Lw.hid (number23_any wr (r0) (by rw [HNB.out]; omega) HA.out)
                clear hem
                cases hnr : numR (r0) 0 with
                | none =>
                  rw [hnr] at hv HQ
                  have HV : Hid (valR (envV V s) = (0, 24)) := Lw.hid hv
                  have HQ2 := Lw.hid HQ.out
                  unfold numV at HQ2
                  simp only at HQ2
                  clear hv hnr HQ
                  go_wp2_with fail
                  refine HQ2.out.mono ?_
                  rintro x w7 ⟨rfl, h7⟩
                  subst h7
                  go_wp2_with fail
                  refine (wrong_any _ mb H vL (.slice adV k capV) (.slice ad' (n + 1) cap') at_ d 0 bd 0 24 HM6.out).mono ?_
                  rintro x w7 ⟨rfl, h7, k7⟩
                  have H7 := Lw.hid (HMS.out w7 _ k7 h7); have K7 := Lw.hid (K6.out.tr (KB.km k7))
                  clear h7 k7
                  go_wp2_with fail
                  go_ret
                  rw [HV.out]
                  exact ⟨rfl, H7.out, K7.out⟩
                | some m =>
                  rw [hnr] at hv HQ
                  have hm9 := HNL.out m hnr
                  have HQ2 := Lw.hid HQ.out
                  unfold numV at HQ2
                  simp only at HQ2
                  clear hnr HQ
                  have HV : Hid (valR (envV V s) = (-(m : Int), 0)) := Lw.hid (by rw [hv]; simp)
                  clear hv
                  go_wp2_with fail
                  refine HQ2.out.mono ?_
                  rintro x w7 ⟨rfl, h7⟩
                  subst h7
                  go_wp2_with fail
                  go_ret
                  rw [HV.out]
                  refine ⟨congrArg (fun z => Ending.returned (.int .i64 z)) ?_, HMS.out _ _ (KB.refl mb _) HM6.out, K6.out⟩
                  all_goals exact negw hm9
        · have hq45 : ((c0.toNat : Int) == 45) = false := beq_eq_false_iff_ne.2 (fun e => h45 (UInt8.toNat_inj.1 (by show c0.toNat = 45; omega)))
          have HNM : Hid ((c0 :: r0).head? ≠ some 45) := Lw.hid (by simp [h45])
          by_cases h43 : c0 = 43
          · subst h43
            have HBB : Hid (bareA (43 :: r0) = r0) := Lw.hid (by unfold bareA; simp)
            have hext : (BA (43 :: r0)).extract 1 (r0.length + 1) = BA r0 := BA_tail (43 :: r0) 1 (r0.length + 1) (by simp)
            clear h45
            go_wp2_with fail
            clear g0
            obtain ⟨nb, hnb⟩ : ∃ nb, r0.length = nb := ⟨_, rfl⟩
            have HNB := Lw.hid hnb
            have hzb := BA_size (r0)
            rw [hnb] at hzb
            have hnb9 : nb ≤ 1000 := by simp only [List.length_cons] at hx9 hnb; omega
            clear hnb
            go_loopg [8] nb (fun gk s8 wx => ∃ j : Nat, gk = nb - j ∧ j ≤ nb ∧ s8 = .int .i64 (j : Int) ∧ ((r0).take j).all digitB = true ∧ wx = wr)
            case atStart => exact ⟨0, rfl, Nat.zero_le _, rfl, rfl, rfl⟩
            case round =>
              obtain ⟨j, rfl, hj, rfl, hall, rfl⟩ := hrel
              have HALL := Lw.hid hall
              clear hall
              by_cases hjl : j < nb
              · obtain ⟨e, he⟩ : ∃ e, (r0)[j]? = some e := ⟨_, List.getElem?_eq_getElem (by rw [HNB.out]; exact hjl)⟩
                have g0 := BA_get he
                have HE2 := Lw.hid he
                clear he
                go_wp2_with fail
                refine (digit23_any _ e).mono ?_
                cases hdg : digitB e with
                | true =>
                  have HALL2 : Hid (((r0).take (j + 1)).all digitB = true) := Lw.hid (by
                    obtain ⟨hl, he⟩ := List.getElem?_eq_some_iff.1 HE2.out
                    rw [List.take_succ_eq_append_getElem hl, List.all_append, HALL.out, he]; simp [hdg])
                  clear hdg
                  rintro x w7 ⟨rfl, h7⟩
                  subst h7
                  go_wp2_with fail
                  go_roundg (nb - (j + 1))
                  case measure => omega
                  case rel => exact ⟨j + 1, rfl, by omega, by go_num, HALL2.out, rfl⟩
                | false =>
                  have HV : Hid (valR (envV V s) = (0, 5)) := Lw.hid (by
                    have hno : (r0).all digitB = false := by
                      cases hx : (r0).all digitB with
                      | false => rfl
                      | true => rw [List.all_eq_true.1 hx e (List.mem_of_getElem? HE2.out)] at hdg; cases hdg
                    rw [HSV.out]
                    unfold valR
                    rw [if_neg (by simp), HBB.out, if_pos (.inl hno)])
                  clear hdg
                  rintro x w7 ⟨rfl, h7⟩
                  subst h7
                  go_wp2_with fail
                  refine (wrong_any _ mb H vL (.slice adV k capV) (.slice ad' (n + 1) cap') at_ d 0 bd 0 5 HM6.out).mono ?_
                  rintro x w7 ⟨rfl, h7, k7⟩
                  have H7 := Lw.hid (HMS.out w7 _ k7 h7); have K7 := Lw.hid (K6.out.tr (KB.km k7))
                  clear h7 k7
                  go_wp2_with fail
                  go_ret
                  rw [HV.out]
                  exact ⟨rfl, H7.out, K7.out⟩
              · obtain rfl : j = nb := by omega
                have HA : Hid ((r0).all digitB = true) := Lw.hid (by have := HALL.out; rw [List.take_of_length_le (by rw [HNB.out]; exact Nat.le_refl _)] at this; exact this)
                clear HALL
                by_cases hem : (r0) = []
                · have HV : Hid (valR (envV V s) = (0, 5)) := Lw.hid (by rw [HSV.out]; unfold valR; rw [if_neg (by simp), HBB.out, if_pos (.inr hem)])
                  have hbe : (r0).isEmpty = true := by rw [hem]; rfl
                  clear hem
                  go_wp2_with fail
                  refine (wrong_any _ mb H vL (.slice adV k capV) (.slice ad' (n + 1) cap') at_ d 0 bd 0 5 HM6.out).mono ?_
                  rintro x w7 ⟨rfl, h7, k7⟩
                  have H7 := Lw.hid (HMS.out w7 _ k7 h7); have K7 := Lw.hid (K6.out.tr (KB.km k7))
                  clear h7 k7
                  go_wp2_with fail
                  go_ret
                  rw [HV.out]
                  exact ⟨rfl, H7.out, K7.out⟩
                · have hbe : (r0).isEmpty = false := by cases hx : (r0) with
                    | nil => exact absurd hx hem
                    | cons _ _ => rfl
                  have hv : valR (envV V s) = (match numR (r0) 0 with
                    | none => (0, 24)
                    | some m => if (43 :: r0).head? ≠ some 45 ∧ m = 9223372036854775808 then (0, 24) else (if (43 :: r0).head? = some 45 then -(m : Int) else (m : Int), 0)) := by
                    rw [HSV.out]; unfold valR; rw [if_neg (by simp), HBB.out, if_neg (fun h => h.elim (fun h => by rw [HA.out] at h; cases h) hem)]
                    cases numR (r0) 0 <;> rfl
                  have HNL := Lw.hid (fun m (h : numR (r0) 0 = some m) => numR_le HA.out h)
                  have HQ := Lw.hid (number23_any wr (r0) (by rw [HNB.out]; omega) HA.out)
                  clear hem
                  cases hnr : numR (r0) 0 with
                  | none =>
                    rw [hnr] at hv HQ
                    have HV : Hid (valR (envV V s) = (0, 24)) := Lw.hid hv
                    have HQ2 := Lw.hid HQ.out
                    unfold numV at HQ2
                    simp only at HQ2
                    clear hv hnr HQ
                    go_wp2_with fail
                    refine HQ2.out.mono ?_
                    rintro x w7 ⟨rfl, h7⟩
                    subst h7
                    go_wp2_with fail
                    refine (wrong_any _ mb H vL (.slice adV k capV) (.slice ad' (n + 1) cap') at_ d 0 bd 0 24 HM6.out).mono ?_
                    rintro x w7 ⟨rfl, h7, k7⟩
                    have H7 := Lw.hid (HMS.out w7 _ k7 h7); have K7 := Lw.hid (K6.out.tr (KB.km k7))
                    clear h7 k7
                    go_wp2_with fail
                    go_ret
                    rw [HV.out]
                    exact ⟨rfl, H7.out, K7.out⟩
                  | some m =>
                    rw [hnr] at hv HQ
                    have hm9 := HNL.out m hnr
                    have HQ2 := Lw.hid HQ.out
                    unfold numV at HQ2
                    simp only at HQ2
                    clear hnr HQ
                    by_cases hbig : m = 9223372036854775808
                    · have HV : Hid (valR (envV V s) = (0, 24)) := Lw.hid (by rw [hv]; simp only; rw [if_pos ⟨HNM.out, hbig⟩])
                      have hbq : ((m : Int) == 9223372036854775808) = true := by rw [hbig]; rfl
                      clear hv hbig
                      go_wp2_with fail
                      refine HQ2.out.mono ?_
                      rintro x w7 ⟨rfl, h7⟩
                      subst h7
                      go_wp2_with fail
                      refine (wrong_any _ mb H vL (.slice adV k capV) (.slice ad' (n + 1) cap') at_ d 0 bd 0 24 HM6.out).mono ?_
                      rintro x w7 ⟨rfl, h7, k7⟩
                      have H7 := Lw.hid (HMS.out w7 _ k7 h7); have K7 := Lw.hid (K6.out.tr (KB.km k7))
                      clear h7 k7
                      go_wp2_with fail
                      go_ret
                      rw [HV.out]
                      exact ⟨rfl, H7.out, K7.out⟩
                    · have HV : Hid (valR (envV V s) = ((m : Int), 0)) := Lw.hid (by rw [hv]; simp only; rw [if_neg (fun h => hbig h.2), if_neg HNM.out])
                      have hbq : ((m : Int) == 9223372036854775808) = false := beq_eq_false_iff_ne.2 (by omega)
                      clear hv
                      go_wp2_with fail
                      refine HQ2.out.mono ?_
                      rintro x w7 ⟨rfl, h7⟩
                      subst h7
                      go_wp2_with fail
                      go_ret
                      rw [HV.out]
                      refine ⟨congrArg (fun z => Ending.returned (.int .i64 z)) ?_, HMS.out _ _ (KB.refl mb _) HM6.out, K6.out⟩
                      all_goals first | rfl | exact posw hm9 hbig
          · have hq43 : ((c0.toNat : Int) == 43) = false := beq_eq_false_iff_ne.2 (fun e => h43 (UInt8.toNat_inj.1 (by show c0.toNat = 43; omega)))
            have HBB : Hid (bareA (c0 :: r0) = c0 :: r0) := Lw.hid (by unfold bareA; simp [h45, h43])
            clear h45 h43
            go_wp2_with fail
            clear g0
            obtain ⟨nb, hnb⟩ : ∃ nb, (c0 :: r0).length = nb := ⟨_, rfl⟩
            have HNB := Lw.hid hnb
            have hzb := BA_size ((c0 :: r0))
            rw [hnb] at hzb
            have hnb9 : nb ≤ 1000 := by simp only [List.length_cons] at hx9 hnb; omega
            clear hnb
            go_loopg [8] nb (fun gk s8 wx => ∃ j : Nat, gk = nb - j ∧ j ≤ nb ∧ s8 = .int .i64 (j : Int) ∧ (((c0 :: r0)).take j).all digitB = true ∧ wx = wr)
            case atStart => exact ⟨0, rfl, Nat.zero_le _, rfl, rfl, rfl⟩
            case round =>
              obtain ⟨j, rfl, hj, rfl, hall, rfl⟩ := hrel
              have HALL := Lw.hid hall
              clear hall
              by_cases hjl : j < nb
              · obtain ⟨e, he⟩ : ∃ e, ((c0 :: r0))[j]? = some e := ⟨_, List.getElem?_eq_getElem (by rw [HNB.out]; exact hjl)⟩
                have g0 := BA_get he
                have HE2 := Lw.hid he
                clear he
                go_wp2_with fail
                refine (digit23_any _ e).mono ?_
                cases hdg : digitB e with
                | true =>
                  have HALL2 : Hid ((((c0 :: r0)).take (j + 1)).all digitB = true) := Lw.hid (by
                    obtain ⟨hl, he⟩ := List.getElem?_eq_some_iff.1 HE2.out
                    rw [List.take_succ_eq_append_getElem hl, List.all_append, HALL.out, he]; simp [hdg])
                  clear hdg
                  rintro x w7 ⟨rfl, h7⟩
                  subst h7
                  go_wp2_with fail
                  go_roundg (nb - (j + 1))
                  case measure => omega
                  case rel => exact ⟨j + 1, rfl, by omega, by go_num, HALL2.out, rfl⟩
                | false =>
                  have HV : Hid (valR (envV V s) = (0, 5)) := Lw.hid (by
                    have hno : ((c0 :: r0)).all digitB = false := by
                      cases hx : ((c0 :: r0)).all digitB with
                      | false => rfl
                      | true => rw [List.all_eq_true.1 hx e (List.mem_of_getElem? HE2.out)] at hdg; cases hdg
                    rw [HSV.out]
                    unfold valR
                    rw [if_neg (by simp), HBB.out, if_pos (.inl hno)])
                  clear hdg
                  rintro x w7 ⟨rfl, h7⟩
                  subst h7
                  go_wp2_with fail
                  refine (wrong_any _ mb H vL (.slice adV k capV) (.slice ad' (n + 1) cap') at_ d 0 bd 0 5 HM6.out).mono ?_
                  rintro x w7 ⟨rfl, h7, k7⟩
                  have H7 := Lw.hid (HMS.out w7 _ k7 h7); have K7 := Lw.hid (K6.out.tr (KB.km k7))
                  clear h7 k7
                  go_wp2_with fail
                  go_ret
                  rw [HV.out]
                  exact ⟨rfl, H7.out, K7.out⟩
              · obtain rfl : j = nb := by omega
                have HA : Hid (((c0 :: r0)).all digitB = true) := Lw.hid (by have := HALL.out; rw [List.take_of_length_le (by rw [HNB.out]; exact Nat.le_refl _)] at this; exact this)
                clear HALL
                by_cases hem : ((c0 :: r0)) = []
                · cases hem
                · have hbe : ((c0 :: r0)).isEmpty = false := by cases hx : ((c0 :: r0)) with
                    | nil => exact absurd hx hem
                    | cons _ _ => rfl
                  have hv : valR (envV V s) = (match numR ((c0 :: r0)) 0 with
                    | none => (0, 24)
                    | some m => if (c0 :: r0).head? ≠ some 45 ∧ m = 9223372036854775808 then (0, 24) else (if (c0 :: r0).head? = some 45 then -(m : Int) else (m : Int), 0)) := by
                    rw [HSV.out]; unfold valR; rw [if_neg (by simp), HBB.out, if_neg (fun h => h.elim (fun h => by rw [HA.out] at h; cases h) hem)]
                    cases numR ((c0 :: r0)) 0 <;> rfl
                  have HNL := Lw.hid (fun m (h : numR ((c0 :: r0)) 0 = some m) => numR_le HA.out h)
                  have HQ := Lw.hid (number23_any wr ((c0 :: r0)) (by rw [HNB.out]; omega) HA.out)
                  clear hem
                  cases hnr : numR ((c0 :: r0)) 0 with
                  | none =>
                    rw [hnr] at hv HQ
                    have HV : Hid (valR (envV V s) = (0, 24)) := Lw.hid hv
                    have HQ2 := Lw.hid HQ.out
                    unfold numV at HQ2
                    simp only at HQ2
                    clear hv hnr HQ
                    go_wp2_with fail
                    refine HQ2.out.mono ?_
                    rintro x w7 ⟨rfl, h7⟩
                    subst h7
                    go_wp2_with fail
                    refine (wrong_any _ mb H vL (.slice adV k capV) (.slice ad' (n + 1) cap') at_ d 0 bd 0 24 HM6.out).mono ?_
                    rintro x w7 ⟨rfl, h7, k7⟩
                    have H7 := Lw.hid (HMS.out w7 _ k7 h7); have K7 := Lw.hid (K6.out.tr (KB.km k7))
                    clear h7 k7
                    go_wp2_with fail
                    go_ret
                    rw [HV.out]
                    exact ⟨rfl, H7.out, K7.out⟩
                  | some m =>
                    rw [hnr] at hv HQ
                    have hm9 := HNL.out m hnr
                    have HQ2 := Lw.hid HQ.out
                    unfold numV at HQ2
                    simp only at HQ2
                    clear hnr HQ
                    by_cases hbig : m = 9223372036854775808
                    · have HV : Hid (valR (envV V s) = (0, 24)) := Lw.hid (by rw [hv]; simp only; rw [if_pos ⟨HNM.out, hbig⟩])
                      have hbq : ((m : Int) == 9223372036854775808) = true := by rw [hbig]; rfl
                      clear hv hbig
                      go_wp2_with fail
                      refine HQ2.out.mono ?_
                      rintro x w7 ⟨rfl, h7⟩
                      subst h7
                      go_wp2_with fail
                      refine (wrong_any _ mb H vL (.slice adV k capV) (.slice ad' (n + 1) cap') at_ d 0 bd 0 24 HM6.out).mono ?_
                      rintro x w7 ⟨rfl, h7, k7⟩
                      have H7 := Lw.hid (HMS.out w7 _ k7 h7); have K7 := Lw.hid (K6.out.tr (KB.km k7))
                      clear h7 k7
                      go_wp2_with fail
                      go_ret
                      rw [HV.out]
                      exact ⟨rfl, H7.out, K7.out⟩
                    · have HV : Hid (valR (envV V s) = ((m : Int), 0)) := Lw.hid (by rw [hv]; simp only; rw [if_neg (fun h => hbig h.2), if_neg HNM.out])
                      have hbq : ((m : Int) == 9223372036854775808) = false := beq_eq_false_iff_ne.2 (by omega)
                      clear hv
                      go_wp2_with fail
                      refine HQ2.out.mono ?_
                      rintro x w7 ⟨rfl, h7⟩
                      subst h7
                      go_wp2_with fail
                      go_ret
                      rw [HV.out]
                      refine ⟨congrArg (fun z => Ending.returned (.int .i64 z)) ?_, HMS.out _ _ (KB.refl mb _) HM6.out, K6.out⟩
                      all_goals first | rfl | exact posw hm9 hbig
end Go.Proofs.YtoedopgjonhemaaGreatDoor
