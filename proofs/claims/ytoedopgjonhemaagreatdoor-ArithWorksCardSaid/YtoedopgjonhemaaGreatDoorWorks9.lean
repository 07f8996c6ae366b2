/- ArithWorks: the document's tokens. -/
import Derived.Test.YtoedopgjonhemaaGreatDoorWorks3
namespace Go.Proofs.YtoedopgjonhemaaGreatDoor
open Go Go.RowKit Go.Lw
set_option maxRecDepth 100000
set_option linter.unusedVariables false
set_option linter.unusedSimpArgs false
attribute [local go_sem] BA_toList
theorem drop_consT {α : Type} {L : List α} {k : Nat} {x : α} {l : List α} (h : L.drop k = x :: l) : L[k]? = some x ∧ L.drop (k + 1) = l ∧ k < L.length := by
  have hk : k < L.length := by
    rcases Nat.lt_or_ge k L.length with h' | h'
    · exact h'
    · rw [List.drop_eq_nil_of_le h'] at h; cases h
  rw [List.drop_eq_getElem_cons hk] at h
  cases h
  exact ⟨List.getElem?_eq_getElem hk, rfl, hk⟩
theorem step_blank {c : UInt8} {r : List UInt8} (h : blankA c = true) : tokF (c :: r) = tokF r := by
  rw [tokF_cons]; unfold stepT; rw [if_pos (by simpa using h)]; rfl
theorem step_num {c : UInt8} {r : List UInt8} (h : blankA c = false) (h1 : digitB c = true) : tokF (c :: r) = (1, (c :: r).takeWhile digitB) :: tokF ((c :: r).dropWhile digitB) := by
  rw [tokF_cons]; unfold stepT; rw [if_neg (by simp [h]), if_pos (by simpa using h1)]; rfl
theorem step_name {c : UInt8} {r : List UInt8} (h : blankA c = false) (h1 : digitB c = false) (h2 : nameA (c :: r) ≠ []) : tokF (c :: r) = (2, nameA (c :: r)) :: tokF ((c :: r).drop (nameA (c :: r)).length) := by
  rw [tokF_cons]; unfold stepT; rw [if_neg (by simp [h]), if_neg (by simp [h1]), if_pos h2]; rfl
theorem step_sign {c : UInt8} {r : List UInt8} (h : blankA c = false) (h1 : digitB c = false) (h2 : nameA (c :: r) = []) (h3 : signF (c :: r) ≠ []) : tokF (c :: r) = (3, signF (c :: r)) :: tokF ((c :: r).drop (signF (c :: r)).length) := by
  rw [tokF_cons]; unfold stepT; rw [if_neg (by simp [h]), if_neg (by simp [h1]), if_neg (by rw [h2]; simp), if_pos h3]; rfl
theorem step_odd {c : UInt8} {r : List UInt8} (h : blankA c = false) (h1 : digitB c = false) (h2 : nameA (c :: r) = []) (h3 : signF (c :: r) = []) : tokF (c :: r) = (3, [35]) :: tokF ((c :: r).drop 1) := by
  rw [tokF_cons]; unfold stepT; rw [if_neg (by simp [h]), if_neg (by simp [h1]), if_neg (by rw [h2]; simp), if_neg (by rw [h3]; simp)]; rfl
theorem stepT_txt (c : UInt8) (r : List UInt8) : ∀ t ∈ (stepT (c :: r)).1, t.2.length ≤ (c :: r).length := by
  intro t ht
  unfold stepT at ht
  split at ht
  · cases ht
  · split at ht
    · cases ht; exact (List.takeWhile_sublist digitB).length_le
    · split at ht
      · cases ht; exact nameA_len (c :: r)
      · split at ht
        · rename_i h; cases ht; exact (signF_len h).2.1
        · cases ht; simp
theorem tokG_txt : ∀ (n : Nat) (s : List UInt8), (∀ t ∈ tokG n s, t.2.length ≤ s.length) ∧ (tokG n s).length ≤ s.length
  | _, [] => ⟨fun t h => (by unfold tokG at h; cases h), (by unfold tokG; exact Nat.le_refl _)⟩
  | 0, _ :: _ => ⟨fun t h => (by unfold tokG at h; cases h), (by unfold tokG; exact Nat.zero_le _)⟩
  | n + 1, c :: r => by
    have hl := stepT_len c r
    obtain ⟨h1, h2⟩ := tokG_txt n (stepT (c :: r)).2
    have ht := stepT_txt c r
    unfold tokG
    refine ⟨fun t h => ?_, ?_⟩
    · rcases List.mem_append.1 h with h | h
      · exact ht t (by simpa using h)
      · have := h1 t h; omega
    · rw [List.length_append]
      have : (stepT (c :: r)).1.toList.length ≤ 1 := by cases (stepT (c :: r)).1 <;> simp
      omega
theorem tokF_txt (s : List UInt8) : (∀ t ∈ tokF s, t.2.length ≤ s.length) ∧ (tokF s).length ≤ s.length := tokG_txt _ s
theorem ETok : ElemT Tryz.prog 47 79 2 24 := ElemT.of (z := .agg #[.int .i64 0, .string ⟨#[]⟩]) Tryz.underlying47 (by kernel_rfl) rfl (by decide)
/-- Tokens under way. -/
structure TSt (w wx : World) (n : Nat) (s : List UInt8) (a : Nat) (v : Value) (dn : List Tok) : Prop where
  row : ∃ ad cap, v = .slice ad dn.length cap ∧ wx.ownsRow 0 79 2 v dn.length (dn.flatMap tkC)
  new : ∀ k, blk v k → w.heap.size ≤ k
  kept : Kept (fun _ => False) w wx
  rest : tokF s = dn ++ tokF (s.drop a)
  few : dn.length ≤ a
theorem TSt.keep {w wx wy : World} {n : Nat} {s : List UInt8} {a : Nat} {v : Value} {dn : List Tok} (h : TSt w wx n s a v dn) (k : Kept (fun _ => False) wx wy) : TSt w wy n s a v dn := by
  obtain ⟨ad, cap, e, ho⟩ := h.row
  exact ⟨⟨ad, cap, e, own_kept k ho (fun _ _ h => h)⟩, h.new, h.kept.trans k (fun _ _ h => h), h.rest, h.few⟩
theorem TSt.skip {w wx : World} {n : Nat} {s : List UInt8} {a b : Nat} {v : Value} {dn : List Tok} (h : TSt w wx n s a v dn) (hab : a ≤ b) (e : tokF (s.drop a) = tokF (s.drop b)) : TSt w wx n s b v dn :=
  ⟨h.row, h.new, h.kept, by rw [h.rest, e], Nat.le_trans h.few hab⟩
theorem TSt.more {w wx w5 : World} {n : Nat} {s : List UInt8} {a b : Nat} {v : Value} {dn : List Tok} {t : Tok} {o : Obj} {ad' : Option Addr} {cap' kd : Nat} (h : TSt w wx n s a v dn) (hk : dn.length = kd) (hab : a < b) (e : tokF (s.drop a) = t :: tokF (s.drop b))
    (ho : w5.ownsRow 0 79 2 (.slice ad' (kd + 1) cap') (kd + 1) (dn.flatMap tkC ++ tkC t)) (hg : (wx.alloc o).grownBy w5 v.ownBlock) (hf : Fresh (wx.alloc o) v (.slice ad' (kd + 1) cap')) : TSt w w5 n s b (.slice ad' (kd + 1) cap') (dn ++ [t]) := by
  subst hk
  have hl : (dn ++ [t]).length = dn.length + 1 := by simp
  refine ⟨⟨ad', cap', by rw [hl], ?_⟩, fun k hk => ?_, ?_, ?_, ?_⟩
  · rw [hl, List.flatMap_append]
    simpa using ho
  · rcases hf k hk with h' | h'
    · exact h.new k h'
    · have : (wx.alloc o).heap.size = wx.heap.size + 1 := by simp
      have := h.kept.size
      omega
  · exact (h.kept.alloc o).grown hg (fun k hk hl => by have := h.new k hk; omega)
  · rw [h.rest, e, List.append_assoc]; rfl
  · rw [hl]; have := h.few; omega
set_option maxHeartbeats 16000000 in
theorem tokens_any (w : World) (s : List UInt8) (hs9 : s.length ≤ 1000) : Calls Tryz.prog 14 #[.string (BA s)] w fun x w' => (∃ ad cap, x = .returned (.slice ad (tokF s).length cap) ∧ w'.ownsRow 0 79 2 (.slice ad (tokF s).length cap) (tokF s).length ((tokF s).flatMap tkC) ∧ ∀ k, blk (.slice ad (tokF s).length cap) k → w.heap.size ≤ k) ∧ Kept (fun _ => False) w w' := by
  have hs := BA_size s
  obtain ⟨n, hn⟩ : ∃ n, s.length = n := ⟨_, rfl⟩
  have HN := Lw.hid hn
  rw [hn] at hs hs9
  clear hn
  go_enter Tryz.func14, Tryz.ntmps14
  go_wp2_with fail
  go_loopg [3, 4] n (fun gk s3 s4 wx => ∃ (a : Nat) (dn : List Tok), gk = n - a ∧ a ≤ n ∧ s4 = .int .i64 (a : Int) ∧ TSt w wx n s a s3 dn)
  case atStart => exact ⟨0, [], rfl, Nat.zero_le _, rfl, ⟨⟨none, 0, rfl, World.ownsRow_nil _ _ _ _⟩, fun k hk => (blk_none hk).elim, Kept.refl _ _, rfl, Nat.le_refl _⟩⟩
  case round =>
    obtain ⟨a, dn, rfl, ha, rfl, hst⟩ := hrel
    obtain ⟨ad, cap, hvv, hown⟩ := hst.row
    subst hvv
    have HST := Lw.hid hst; have HOWN := Lw.hid hown
    obtain ⟨kd, hkd⟩ : ∃ k, dn.length = k := ⟨_, rfl⟩
    have HKD := Lw.hid hkd
    have hkd9 : kd ≤ a := by rw [← hkd]; exact hst.few
    rw [hkd] at HST HOWN ⊢
    clear hst hown hkd
    by_cases hlt : a < n
    · obtain ⟨c, r, hS⟩ : ∃ c r, s.drop a = c :: r := by
        cases hx : s.drop a with
        | nil => exact absurd (congrArg List.length hx) (by rw [List.length_drop, HN.out]; simp; omega)
        | cons c r => exact ⟨c, r, rfl⟩
      obtain ⟨hc, hdr, _⟩ := drop_consT hS
      have g0 := BA_get hc
      have HS := Lw.hid hS
      have HC := Lw.hid hc
      have HRL : Hid ((c :: r).length = n - a) := Lw.hid (by rw [← hS, List.length_drop, HN.out])
      have HDR := Lw.hid hdr
      clear hS hdr hc
      go_wp2_with fail
      refine (blank23_any _ c).mono ?_
      cases hbl : blankA c with
      | true =>
        have HB := Lw.hid hbl
        clear hbl
        rintro x w2 ⟨rfl, h2⟩
        subst h2
        go_wp2_with fail
        go_roundg (n - (a + 1))
        case measure => omega
        case rel => exact ⟨a + 1, dn, rfl, hlt, by go_num, HST.out.skip (Nat.le_succ a) (by rw [HS.out, HDR.out]; exact step_blank HB.out)⟩
      | false =>
        have HB := Lw.hid hbl
        clear hbl
        rintro x w2 ⟨rfl, h2⟩
        subst h2
        go_wp2_with fail
        clear g0
        obtain ⟨tw, htw⟩ : ∃ l, ((c :: r).takeWhile digitB).length = l := ⟨_, rfl⟩
        have HTW := Lw.hid htw
        have htw9 : tw ≤ n - a := by have := (List.takeWhile_sublist digitB (l := c :: r)).length_le; rw [HRL.out, htw] at this; exact this
        clear htw
        go_loopg [4] (n - a) (fun gk s4 wx => ∃ m : Nat, gk = n - a - m ∧ m ≤ tw ∧ s4 = .int .i64 ((a + m : Nat) : Int) ∧ wx = w2)
        case atStart => exact ⟨0, rfl, Nat.zero_le _, rfl, rfl⟩
        case round =>
          obtain ⟨m, rfl, hm, rfl, hwx⟩ := hrel
          have hwx2 := hwx.symm
          clear hwx
          subst hwx2
          by_cases hl : a + m < n
          · have hlz : decide (((a + m : Nat) : Int) < (n : Int)) = true := decide_eq_true (by omega)
            obtain ⟨e, he⟩ : ∃ e, (c :: r)[m]? = some e := ⟨_, List.getElem?_eq_getElem (by rw [HRL.out]; omega)⟩
            have hes : s[a + m]? = some e := by rw [← he, ← HS.out, List.getElem?_drop]
            have g1 := BA_get hes
            have HAL : Hid ((decide (m + 1 ≤ tw)) = digitB e) := Lw.hid (by
              have h1 := all_take (f := digitB) (c :: r) (m + 1) (by rw [HRL.out]; omega)
              have h2 := all_take (f := digitB) (c :: r) m (by rw [HRL.out]; omega)
              rw [HTW.out] at h1 h2
              obtain ⟨hl1, he1⟩ := List.getElem?_eq_some_iff.1 he
              rw [List.take_succ_eq_append_getElem hl1, List.all_append, h2, he1] at h1
              rw [← h1, decide_eq_true hm]; simp)
            clear he hes
            go_wp2_with fail
            refine (digit23_any _ e).mono ?_
            cases hdg : digitB e with
            | true =>
              have hm2 : m + 1 ≤ tw := of_decide_eq_true (HAL.out.trans hdg)
              clear hdg HAL
              rintro x w3 ⟨rfl, h3⟩
              subst h3
              go_wp2_with fail
              go_roundg (n - a - (m + 1))
              case measure => omega
              case rel => exact ⟨m + 1, rfl, hm2, by first | rfl | go_num, rfl⟩
            | false =>
              have hm2 : tw = m := by have := of_decide_eq_false (HAL.out.trans hdg); omega
              subst hm2
              clear hdg HAL
              rintro x w3 ⟨rfl, h3⟩
              subst h3
              clear g1
              by_cases htz : tw = 0
              · have HD1 : Hid (digitB c = false) := Lw.hid (by
                  cases hx : digitB c with
                  | false => rfl
                  | true =>
                    exfalso
                    have := HTW.out
                    rw [List.takeWhile_cons, if_pos hx, htz] at this
                    simp at this)
                subst htz
                obtain ⟨nw, hnw⟩ : ∃ l, (nameA (c :: r)).length = l := ⟨_, rfl⟩
                have HNW := Lw.hid hnw
                have hnw9 : nw ≤ n - a := by have := nameA_len (c :: r); rw [HRL.out, hnw] at this; exact this
                clear hnw hlz
                go_wp2_with fail
                go_loopg [4] (n - a) (fun gk s4 wx => ∃ m : Nat, gk = n - a - m ∧ m ≤ nw ∧ s4 = .int .i64 ((a + m : Nat) : Int) ∧ wx = w3)
                case atStart => exact ⟨0, rfl, Nat.zero_le _, rfl, rfl⟩
                case round =>
                  obtain ⟨m, rfl, hm, rfl, hwx⟩ := hrel
                  have hwx2 := hwx.symm
                  clear hwx
                  subst hwx2
                  by_cases hl : a + m < n
                  · have hlz : decide (((a + m : Nat) : Int) < (n : Int)) = true := decide_eq_true (by omega)
                    have hext : (BA s).extract a (a + m + 1) = BA ((c :: r).take (m + 1)) := by rw [BA_extract, List.drop_take, show a + m + 1 - a = m + 1 by omega, HS.out]
                    have HNB := Lw.hid (name16_any w3 ((c :: r).take (m + 1)) (by have := HRL.out; rw [List.length_take]; omega))
                    rw [nameA_step (s := c :: r) (by rw [HRL.out]; omega) (by rw [HNW.out]; exact hm), HNW.out] at HNB
                    go_wp2_with fail
                    refine HNB.out.mono ?_
                    have HAL : Hid ((decide (m + 1 ≤ nw)) = decide (m < nw)) := Lw.hid rfl
                    cases hdg : decide (m < nw) with
                    | true =>
                      have hm2 : m + 1 ≤ nw := of_decide_eq_true (HAL.out.trans hdg)
                      clear hdg HAL
                      rintro x w3 ⟨rfl, h3⟩
                      subst h3
                      go_wp2_with fail
                      go_roundg (n - a - (m + 1))
                      case measure => omega
                      case rel => exact ⟨m + 1, rfl, hm2, by first | rfl | go_num, rfl⟩
                    | false =>
                      have hm2 : nw = m := by have := of_decide_eq_false (HAL.out.trans hdg); omega
                      subst hm2
                      clear hdg HAL
                      rintro x w3 ⟨rfl, h3⟩
                      subst h3
                      clear hext
                      by_cases hnz : nw = 0
                      · have HNM : Hid (nameA (c :: r) = []) := Lw.hid (List.eq_nil_of_length_eq_zero (by rw [HNW.out]; exact hnz))
                        subst hnz
                        have HSG := Lw.hid (sign23_any w3 s a (by rw [HN.out]; omega) (by rw [HN.out]; exact hlt))
                        rw [HS.out] at HSG
                        obtain ⟨sg, hsg⟩ : ∃ g, signF (c :: r) = g := ⟨_, rfl⟩
                        rw [hsg] at HSG
                        have HGE := Lw.hid hsg
                        have HSN := Lw.hid (fun h : sg ≠ [] => signF_len (r := c :: r) (by rw [hsg]; exact h))
                        have hsz := BA_size sg
                        clear hsg
                        go_wp2_with fail
                        refine HSG.out.mono ?_
                        rintro x w3 ⟨rfl, k3⟩
                        have HST3 := HST.out.keep k3
                        have HOWN3 : Hid (w3.ownsRow 0 79 2 (.slice ad kd cap) kd (dn.flatMap tkC)) := Lw.hid (own_kept k3 HOWN.out (fun _ _ h => h))
                        replace HST := Lw.hid HST3
                        replace HOWN := HOWN3
                        clear k3 HST3 HOWN3 HSG
                        by_cases hse : sg = []
                        · have hie : sg.isEmpty = true := by rw [hse]; rfl
                          have HX : Hid (tokF (c :: r) = (3, [35]) :: tokF (s.drop (a + 1))) := Lw.hid (by rw [step_odd HB.out HD1.out HNM.out (by rw [HGE.out]; exact hse), ← HS.out, List.drop_drop])
                          clear hse hsz
                          have HO3 : Hid ((w3.alloc (.cells #[.int .i64 3, .string (BA [35])] 79)).ownsRow 0 79 2 (.slice ad kd cap) kd (dn.flatMap tkC)) := Lw.hid (own_kept ((Kept.refl (fun _ => False) w3).alloc _) HOWN.out (fun _ _ h => h))
                          have HR3 : Hid (Rd (w3.alloc (.cells #[.int .i64 3, .string (BA [35])] 79)) 2 (.slice (some ⟨w3.heap.size, 0, none⟩) 1 1) 1 [.int .i64 3, .string (BA [35])]) := Lw.hid (Rd.lit _ [.int .i64 3, .string (BA [35])] 79 2 w3.heap.size 1 (by simp) rfl (by decide))
                          have HONE : Hid (∀ u ∈ ([.int .i64 3, .string (BA [35])] : List Value), u.oneCell' = true) := Lw.hid (fun u hu => by
                            simp only [List.mem_cons, List.not_mem_nil, or_false] at hu
                            rcases hu with rfl | rfl <;> rfl)
                          go_wp2_with (at_builtin; refine wpList_app rfl _ _ _ rfl ETok _ kd _ rfl HO3.out _ 1 _ rfl HR3.out HONE.out (by unfold maxLen; omega) (by omega) ?_; intro ad' cap' w5 ho5 hg5 hf5; have HO5 := Lw.hid ho5; have HG5 := Lw.hid hg5; have HF5 := Lw.hid hf5; clear ho5 hg5 hf5)
                          go_roundg (n - (a + 1))
                          case measure => omega
                          case rel => exact ⟨a + 1, dn ++ [(3, [35])], rfl, by omega, by first | rfl | go_num, HST.out.more HKD.out (by omega) (by rw [HS.out]; exact HX.out) HO5.out HG5.out HF5.out⟩
                        · have hie : sg.isEmpty = false := by
                            cases sg with
                            | nil => exact absurd rfl hse
                            | cons _ _ => rfl
                          obtain ⟨ls, hls⟩ : ∃ l, sg.length = l := ⟨_, rfl⟩
                          have hl1 : 1 ≤ ls ∧ ls ≤ n - a ∧ ls ≤ 2 := by have := HSN.out hse; rw [HRL.out, HGE.out, hls] at this; exact this
                          have HX : Hid (tokF (c :: r) = (3, sg) :: tokF (s.drop (a + ls))) := Lw.hid (by rw [step_sign HB.out HD1.out HNM.out (by rw [HGE.out]; exact hse), HGE.out, ← HS.out, List.drop_drop, hls])
                          rw [hls] at hsz
                          clear hse hls
                          have HO3 : Hid ((w3.alloc (.cells #[.int .i64 3, .string (BA sg)] 79)).ownsRow 0 79 2 (.slice ad kd cap) kd (dn.flatMap tkC)) := Lw.hid (own_kept ((Kept.refl (fun _ => False) w3).alloc _) HOWN.out (fun _ _ h => h))
                          have HR3 : Hid (Rd (w3.alloc (.cells #[.int .i64 3, .string (BA sg)] 79)) 2 (.slice (some ⟨w3.heap.size, 0, none⟩) 1 1) 1 [.int .i64 3, .string (BA sg)]) := Lw.hid (Rd.lit _ [.int .i64 3, .string (BA sg)] 79 2 w3.heap.size 1 (by simp) rfl (by decide))
                          have HONE : Hid (∀ u ∈ ([.int .i64 3, .string (BA sg)] : List Value), u.oneCell' = true) := Lw.hid (fun u hu => by
                            simp only [List.mem_cons, List.not_mem_nil, or_false] at hu
                            rcases hu with rfl | rfl <;> rfl)
                          go_wp2_with (at_builtin; refine wpList_app rfl _ _ _ rfl ETok _ kd _ rfl HO3.out _ 1 _ rfl HR3.out HONE.out (by unfold maxLen; omega) (by omega) ?_; intro ad' cap' w5 ho5 hg5 hf5; have HO5 := Lw.hid ho5; have HG5 := Lw.hid hg5; have HF5 := Lw.hid hf5; clear ho5 hg5 hf5)
                          go_roundg (n - (a + ls))
                          case measure => omega
                          case rel => exact ⟨a + ls, dn ++ [(3, sg)], rfl, by omega, by first | rfl | go_num, HST.out.more HKD.out (by omega) (by rw [HS.out]; exact HX.out) HO5.out HG5.out HF5.out⟩
                      · have hext : (BA s).extract a (a + nw) = BA (nameA (c :: r)) := by rw [BA_extract, List.drop_take, Nat.add_sub_cancel_left, HS.out, ← HNW.out, nameA_take]
                        have HX : Hid (tokF (c :: r) = (2, nameA (c :: r)) :: tokF (s.drop (a + nw))) := Lw.hid (by rw [step_name HB.out HD1.out (fun e => hnz (by rw [← HNW.out, e]; rfl)), ← HS.out, List.drop_drop, HS.out, HNW.out])
                        have hnpos : decide ((a : Int) < ((a + nw : Nat) : Int)) = true := decide_eq_true (by omega)
                        obtain ⟨tx, htx⟩ : ∃ l, nameA (c :: r) = l := ⟨_, rfl⟩
                        rw [htx] at hext HX
                        clear htx
                        have HO3 : Hid ((w3.alloc (.cells #[.int .i64 2, .string (BA tx)] 79)).ownsRow 0 79 2 (.slice ad kd cap) kd (dn.flatMap tkC)) := Lw.hid (own_kept ((Kept.refl (fun _ => False) w3).alloc _) HOWN.out (fun _ _ h => h))
                        have HR3 : Hid (Rd (w3.alloc (.cells #[.int .i64 2, .string (BA tx)] 79)) 2 (.slice (some ⟨w3.heap.size, 0, none⟩) 1 1) 1 [.int .i64 2, .string (BA tx)]) := Lw.hid (Rd.lit _ [.int .i64 2, .string (BA tx)] 79 2 w3.heap.size 1 (by simp) rfl (by decide))
                        have HONE : Hid (∀ u ∈ ([.int .i64 2, .string (BA tx)] : List Value), u.oneCell' = true) := Lw.hid (fun u hu => by
                          simp only [List.mem_cons, List.not_mem_nil, or_false] at hu
                          rcases hu with rfl | rfl <;> rfl)
                        go_wp2_with (at_builtin; refine wpList_app rfl _ _ _ rfl ETok _ kd _ rfl HO3.out _ 1 _ rfl HR3.out HONE.out (by unfold maxLen; omega) (by omega) ?_; intro ad' cap' w5 ho5 hg5 hf5; have HO5 := Lw.hid ho5; have HG5 := Lw.hid hg5; have HF5 := Lw.hid hf5; clear ho5 hg5 hf5)
                        go_roundg (n - (a + nw))
                        case measure => omega
                        case rel => exact ⟨a + nw, dn ++ [(2, tx)], rfl, by omega, by first | rfl | go_num, HST.out.more HKD.out (by omega) (by rw [HS.out]; exact HX.out) HO5.out HG5.out HF5.out⟩
                  · have hm2 : nw = m := by omega
                    subst hm2
                    have hlz : decide (((a + nw : Nat) : Int) < (n : Int)) = false := decide_eq_false (by omega)
                    have hnz : ¬ nw = 0 := by omega
                    · have hext : (BA s).extract a (a + nw) = BA (nameA (c :: r)) := by rw [BA_extract, List.drop_take, Nat.add_sub_cancel_left, HS.out, ← HNW.out, nameA_take]
                      have HX : Hid (tokF (c :: r) = (2, nameA (c :: r)) :: tokF (s.drop (a + nw))) := Lw.hid (by rw [step_name HB.out HD1.out (fun e => hnz (by rw [← HNW.out, e]; rfl)), ← HS.out, List.drop_drop, HS.out, HNW.out])
                      have hnpos : decide ((a : Int) < ((a + nw : Nat) : Int)) = true := decide_eq_true (by omega)
                      obtain ⟨tx, htx⟩ : ∃ l, nameA (c :: r) = l := ⟨_, rfl⟩
                      rw [htx] at hext HX
                      clear htx
                      have HO3 : Hid ((w3.alloc (.cells #[.int .i64 2, .string (BA tx)] 79)).ownsRow 0 79 2 (.slice ad kd cap) kd (dn.flatMap tkC)) := Lw.hid (own_kept ((Kept.refl (fun _ => False) w3).alloc _) HOWN.out (fun _ _ h => h))
                      have HR3 : Hid (Rd (w3.alloc (.cells #[.int .i64 2, .string (BA tx)] 79)) 2 (.slice (some ⟨w3.heap.size, 0, none⟩) 1 1) 1 [.int .i64 2, .string (BA tx)]) := Lw.hid (Rd.lit _ [.int .i64 2, .string (BA tx)] 79 2 w3.heap.size 1 (by simp) rfl (by decide))
                      have HONE : Hid (∀ u ∈ ([.int .i64 2, .string (BA tx)] : List Value), u.oneCell' = true) := Lw.hid (fun u hu => by
                        simp only [List.mem_cons, List.not_mem_nil, or_false] at hu
                        rcases hu with rfl | rfl <;> rfl)
                      go_wp2_with (at_builtin; refine wpList_app rfl _ _ _ rfl ETok _ kd _ rfl HO3.out _ 1 _ rfl HR3.out HONE.out (by unfold maxLen; omega) (by omega) ?_; intro ad' cap' w5 ho5 hg5 hf5; have HO5 := Lw.hid ho5; have HG5 := Lw.hid hg5; have HF5 := Lw.hid hf5; clear ho5 hg5 hf5)
                      go_roundg (n - (a + nw))
                      case measure => omega
                      case rel => exact ⟨a + nw, dn ++ [(2, tx)], rfl, by omega, by first | rfl | go_num, HST.out.more HKD.out (by omega) (by rw [HS.out]; exact HX.out) HO5.out HG5.out HF5.out⟩
              · have hext : (BA s).extract a (a + tw) = BA ((c :: r).takeWhile digitB) := by rw [BA_extract, List.drop_take, Nat.add_sub_cancel_left, HS.out, takeWhile_take digitB (c :: r), HTW.out]
                have HD1 : Hid (digitB c = true) := Lw.hid (by
                  cases hx : digitB c with
                  | true => rfl
                  | false =>
                    exfalso
                    have := HTW.out
                    rw [List.takeWhile_cons, if_neg (by rw [hx]; simp)] at this
                    exact htz this.symm)
                have HX : Hid (tokF (c :: r) = (1, (c :: r).takeWhile digitB) :: tokF (s.drop (a + tw))) := Lw.hid (by
                  rw [step_num HB.out HD1.out]
                  have h1 : (c :: r).dropWhile digitB = (c :: r).drop tw := by
                    have h2 := List.takeWhile_append_dropWhile (p := digitB) (l := c :: r)
                    conv => rhs; rw [← h2, ← HTW.out, List.drop_left]
                  rw [h1, ← HS.out, List.drop_drop])
                have hnpos : decide ((a : Int) < ((a + tw : Nat) : Int)) = true := decide_eq_true (by omega)
                obtain ⟨tx, htx⟩ : ∃ l, (c :: r).takeWhile digitB = l := ⟨_, rfl⟩
                rw [htx] at hext HX
                clear htx
                have HO3 : Hid ((w3.alloc (.cells #[.int .i64 1, .string (BA tx)] 79)).ownsRow 0 79 2 (.slice ad kd cap) kd (dn.flatMap tkC)) := Lw.hid (own_kept ((Kept.refl (fun _ => False) w3).alloc _) HOWN.out (fun _ _ h => h))
                have HR3 : Hid (Rd (w3.alloc (.cells #[.int .i64 1, .string (BA tx)] 79)) 2 (.slice (some ⟨w3.heap.size, 0, none⟩) 1 1) 1 [.int .i64 1, .string (BA tx)]) := Lw.hid (Rd.lit _ [.int .i64 1, .string (BA tx)] 79 2 w3.heap.size 1 (by simp) rfl (by decide))
                have HONE : Hid (∀ u ∈ ([.int .i64 1, .string (BA tx)] : List Value), u.oneCell' = true) := Lw.hid (fun u hu => by
                  simp only [List.mem_cons, List.not_mem_nil, or_false] at hu
                  rcases hu with rfl | rfl <;> rfl)
                go_wp2_with (at_builtin; refine wpList_app rfl _ _ _ rfl ETok _ kd _ rfl HO3.out _ 1 _ rfl HR3.out HONE.out (by unfold maxLen; omega) (by omega) ?_; intro ad' cap' w5 ho5 hg5 hf5; have HO5 := Lw.hid ho5; have HG5 := Lw.hid hg5; have HF5 := Lw.hid hf5; clear ho5 hg5 hf5)
                go_roundg (n - (a + tw))
                case measure => omega
                case rel => exact ⟨a + tw, dn ++ [(1, tx)], rfl, by omega, by first | rfl | go_num, HST.out.more HKD.out (by omega) (by rw [HS.out]; exact HX.out) HO5.out HG5.out HF5.out⟩
          · have hm2 : tw = m := by omega
            subst hm2
            have hlz : decide (((a + tw : Nat) : Int) < (n : Int)) = false := decide_eq_false (by omega)
            have htz : ¬ tw = 0 := by omega
            · have hext : (BA s).extract a (a + tw) = BA ((c :: r).takeWhile digitB) := by rw [BA_extract, List.drop_take, Nat.add_sub_cancel_left, HS.out, takeWhile_take digitB (c :: r), HTW.out]
              have HD1 : Hid (digitB c = true) := Lw.hid (by
                cases hx : digitB c with
                | true => rfl
                | false =>
                  exfalso
                  have := HTW.out
                  rw [List.takeWhile_cons, if_neg (by rw [hx]; simp)] at this
                  exact htz this.symm)
              have HX : Hid (tokF (c :: r) = (1, (c :: r).takeWhile digitB) :: tokF (s.drop (a + tw))) := Lw.hid (by
                rw [step_num HB.out HD1.out]
                have h1 : (c :: r).dropWhile digitB = (c :: r).drop tw := by
                  have h2 := List.takeWhile_append_dropWhile (p := digitB) (l := c :: r)
                  conv => rhs; rw [← h2, ← HTW.out, List.drop_left]
                rw [h1, ← HS.out, List.drop_drop])
              have hnpos : decide ((a : Int) < ((a + tw : Nat) : Int)) = true := decide_eq_true (by omega)
              obtain ⟨tx, htx⟩ : ∃ l, (c :: r).takeWhile digitB = l := ⟨_, rfl⟩
              rw [htx] at hext HX
              clear htx
              have HO3 : Hid ((w2.alloc (.cells #[.int .i64 1, .string (BA tx)] 79)).ownsRow 0 79 2 (.slice ad kd cap) kd (dn.flatMap tkC)) := Lw.hid (own_kept ((Kept.refl (fun _ => False) w2).alloc _) HOWN.out (fun _ _ h => h))
              have HR3 : Hid (Rd (w2.alloc (.cells #[.int .i64 1, .string (BA tx)] 79)) 2 (.slice (some ⟨w2.heap.size, 0, none⟩) 1 1) 1 [.int .i64 1, .string (BA tx)]) := Lw.hid (Rd.lit _ [.int .i64 1, .string (BA tx)] 79 2 w2.heap.size 1 (by simp) rfl (by decide))
              have HONE : Hid (∀ u ∈ ([.int .i64 1, .string (BA tx)] : List Value), u.oneCell' = true) := Lw.hid (fun u hu => by
                simp only [List.mem_cons, List.not_mem_nil, or_false] at hu
                rcases hu with rfl | rfl <;> rfl)
              go_wp2_with (at_builtin; refine wpList_app rfl _ _ _ rfl ETok _ kd _ rfl HO3.out _ 1 _ rfl HR3.out HONE.out (by unfold maxLen; omega) (by omega) ?_; intro ad' cap' w5 ho5 hg5 hf5; have HO5 := Lw.hid ho5; have HG5 := Lw.hid hg5; have HF5 := Lw.hid hf5; clear ho5 hg5 hf5)
              go_roundg (n - (a + tw))
              case measure => omega
              case rel => exact ⟨a + tw, dn ++ [(1, tx)], rfl, by omega, by first | rfl | go_num, HST.out.more HKD.out (by omega) (by rw [HS.out]; exact HX.out) HO5.out HG5.out HF5.out⟩
    · obtain rfl : a = n := by omega
      go_wp2_with fail
      go_ret
      have hfin : tokF s = dn := by
        have := HST.out.rest
        rw [List.drop_eq_nil_of_le (by rw [HN.out]; exact Nat.le_refl _), tokF_nil, List.append_nil] at this
        exact this
      rw [hfin, HKD.out]
      exact ⟨⟨ad, cap, rfl, HOWN.out, HST.out.new⟩, HST.out.kept⟩
end Go.Proofs.YtoedopgjonhemaaGreatDoor
