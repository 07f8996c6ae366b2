/- package word: Same. -/
import Derived.Test.YtifcgeanippepaaDoorWord5
namespace Go.Proofs.YtifcgeanippepaaDoor
open Go Go.RowKit Go.Lw
set_option maxRecDepth 100000
set_option linter.unusedVariables false
set_option linter.unusedSimpArgs false
attribute [local go_sem] BA_toList
/-- How large a part is. -/
def szP : Prt → Nat
  | .mk _ _ o _ => 1 + szL o
where szL : List Prt → Nat
  | [] => 1
  | p :: l => szP p + szL l
abbrev szL := szP.szL
theorem szL_pos : ∀ l : List Prt, 1 ≤ szL l
  | [] => by show 1 ≤ szP.szL _; rw [szP.szL]; omega
  | p :: l => by have := szL_pos l; show 1 ≤ szP.szL _; rw [szP.szL]; exact Nat.le_trans this (Nat.le_add_left _ _)
theorem szL_mem : ∀ {l : List Prt} {p : Prt}, p ∈ l → szP p < szL l
  | [], p, h => by cases h
  | x :: l, p, h => by
    have e : szL (x :: l) = szP x + szL l := by show szP.szL _ = _; rw [szP.szL]
    rw [e]
    rcases List.mem_cons.1 h with rfl | h
    · have := szL_pos l; omega
    · have := szL_mem h; omega
theorem WAt.max {w : World} {F : Nat → Prop} {a : Option Addr} {n c : Nat} {J : List Prt} (h : WAt w F (.slice a n c) J) : n ≤ 9223372036854775807 := by
  obtain ⟨ps, rfl, ⟨_, a', c', e, h1, h2, _⟩, _⟩ := h.open
  cases e
  unfold maxLen at h2
  omega
/-- The contract of Same, for words of a size. -/
def CSame (n : Nat) : Prop := ∀ (w : World) (F G : Nat → Prop) (va vb : Value) (a b : List Prt), szL a ≤ n → WAt w F va a → WAt w G vb b →
  Calls Tryd.prog 34 #[va, vb] w fun x w' => x = .returned (.bool (sameW a b)) ∧ Kept (fun _ => False) w w'
theorem same_mk (k : Int) (t : List UInt8) (o : List Prt) (q : Bool) (k' : Int) (t' : List UInt8) (o' : List Prt) (q' : Bool) : sameP (.mk k t o q) (.mk k' t' o' q') = (decide (k = k') && decide (t = t') && (q == q') && sameW o o') := by
  rw [sameP]
theorem same_cons (p q : Prt) (l m : List Prt) : sameW (p :: l) (q :: m) = (sameP p q && sameW l m) := by
  show sameP.sameL (p :: l) (q :: m) = _
  rw [sameP.sameL]
theorem same_len : ∀ (l m : List Prt), l.length ≠ m.length → sameW l m = false
  | [], [], h => absurd rfl h
  | [], _ :: _, _ => by show sameP.sameL _ _ = _; rw [sameP.sameL]
  | _ :: _, [], _ => by show sameP.sameL _ _ = _; rw [sameP.sameL]
  | p :: l, q :: m, h => by
    rw [same_cons, same_len l m (by simpa using h), Bool.and_false]
theorem same_nil : sameW [] [] = true := by show sameP.sameL _ _ = _; rw [sameP.sameL]
/-- Same's function of two parts. -/
theorem same1_any (n : Nat) (HS : Hid (CSame n)) (w : World) (F G : Nat → Prop) (k : Int) (t : List UInt8) (o : List Prt) (q : Bool) (oa : Option Addr) (on oc : Nat) (k' : Int) (t' : List UInt8) (o' : List Prt) (q' : Bool) (oa' : Option Addr) (on' oc' : Nat)
    (hn : szL o ≤ n) (ho : WAt w F (.slice oa on oc) o) (ho' : WAt w G (.slice oa' on' oc') o') :
    Calls Tryd.prog 62 #[.agg #[.int .i64 k, .string (BA t), .slice oa on oc, .bool q], .agg #[.int .i64 k', .string (BA t'), .slice oa' on' oc', .bool q']] w fun x w' => x = .returned (.bool (sameP (.mk k t o q) (.mk k' t' o' q'))) ∧ Kept (fun _ => False) w w' := by
  have HK : Hid (Kept (fun _ => False) w ((w.alloc (.cells #[.int .i64 k, .string (BA t), .slice oa on oc, .bool q] 46)).alloc (.cells #[.int .i64 k', .string (BA t'), .slice oa' on' oc', .bool q'] 46))) := Lw.hid (((Kept.refl _ w).alloc _).alloc _)
  have HC := Lw.hid (HS.out _ F G (.slice oa on oc) (.slice oa' on' oc') o o' hn (ho.kept HK.out (fun _ _ h => h)) (ho'.kept HK.out (fun _ _ h => h)))
  have HM := Lw.hid (same_mk k t o q k' t' o' q')
  clear ho ho' hn HS
  by_cases h1 : k = k'
  · have b1 : (k == k') = true := by simpa using h1
    have c1 : decide (k = k') = true := decide_eq_true h1
    by_cases h2 : t = t'
    · have b2 : (BA t == BA t') = true := by rw [BA_beq]; simpa using h2
      have b2' : (t == t') = true := by simpa using h2
      have c2 : decide (t = t') = true := decide_eq_true h2
      by_cases h3 : q = q'
      · have b3 : (q == q') = true := by simpa using h3
        rw [c1, c2, b3] at HM
        clear h1 h2 h3
        go_enter Tryd.func62, Tryd.ntmps62
        go_wp2_with fail
        refine HC.out.mono ?_
        rintro x w4 ⟨rfl, k4⟩
        have K4 := Lw.hid (HK.out.trans k4 (fun _ _ h => h))
        go_wp2_with fail
        go_ret
        rw [HM.out]
        exact ⟨by simp, K4.out⟩
      · have b3 : (q == q') = false := by simpa using h3
        rw [c1, c2, b3] at HM
        clear h1 h2 h3
        go_enter Tryd.func62, Tryd.ntmps62
        go_wp2_with fail
        go_ret
        rw [HM.out]
        exact ⟨by simp, HK.out⟩
    · have b2 : (BA t == BA t') = false := by rw [BA_beq]; simpa using h2
      have b2' : (t == t') = false := by simpa using h2
      have c2 : decide (t = t') = false := decide_eq_false h2
      rw [c1, c2] at HM
      clear h1 h2
      go_enter Tryd.func62, Tryd.ntmps62
      go_wp2_with fail
      go_ret
      rw [HM.out]
      exact ⟨by simp, HK.out⟩
  · have b1 : (k == k') = false := by simpa using h1
    have c1 : decide (k = k') = false := decide_eq_false h1
    rw [c1] at HM
    clear h1
    go_enter Tryd.func62, Tryd.ntmps62
    go_wp2_with fail
    go_ret
    rw [HM.out]
    exact ⟨by simp, HK.out⟩
theorem sizeOf_orw (p : Prt) : szL p.orw < szP p := by
  obtain ⟨k, t, o, q⟩ := p
  show szL o < szP (Prt.mk k t o q)
  rw [szP]
  exact Nat.lt_add_of_pos_left (by decide)
set_option maxHeartbeats 8000000 in
theorem eqfw_any (n : Nat) (HS : Hid (CSame n)) (w : World) (F G : Nat → Prop) (va vb : Value) (a b : List Prt) (hsz : szL a ≤ n + 1) (ha : WAt w F va a) (hb : WAt w G vb b) :
    Calls Tryd.prog 61 #[va, vb, .func (.func 62) #[] #[]] w fun x w' => x = .returned (.bool (sameW a b)) ∧ Kept (fun _ => False) w w' := by
  obtain ⟨aa, n1, c1, rfl⟩ := ha.slice
  obtain ⟨ab, n2, c2, rfl⟩ := hb.slice
  have h1 := ha.elem.1; have h2 := hb.elem.1
  have HA := Lw.hid ha; have HB := Lw.hid hb; have HSZ := Lw.hid hsz
  have HN1 := Lw.hid h1; have HN2 := Lw.hid h2
  have hn9 := ha.max
  clear ha hb hsz
  by_cases hne : n1 = n2
  · obtain ⟨N, hN⟩ : ∃ N, n1 = N := ⟨_, rfl⟩
    obtain rfl : n2 = N := by omega
    subst hN
    clear h1 h2
    have hbb : ((n1 : Int) != (n1 : Int)) = false := by simp
    obtain ⟨R0, hR0⟩ : ∃ R0, sameW a b = R0 := ⟨_, rfl⟩
    have HR0 := Lw.hid hR0
    rw [hR0]
    clear hR0
    go_enter Tryd.func61, Tryd.ntmps61
    go_wp2_with fail
    go_loopg [17] n1 (fun gk s17 wx => ∃ k : Nat, gk = n1 - k ∧ k ≤ n1 ∧ s17 = .int .i64 (k : Int) ∧ sameW (a.drop k) (b.drop k) = R0 ∧ Kept (fun _ => False) w wx)
    case atStart => exact ⟨0, rfl, Nat.zero_le _, rfl, HR0.out, Kept.refl _ _⟩
    case round =>
      obtain ⟨k, rfl, hk, rfl, hsm, hkk⟩ := hrel
      have HKK := Lw.hid hkk; have HSM := Lw.hid hsm
      clear hkk hsm
      by_cases hlt : k < n1
      · obtain ⟨p, hp⟩ : ∃ p, a[k]? = some p := ⟨_, List.getElem?_eq_getElem (by rw [← HN1.out]; exact hlt)⟩
        obtain ⟨q, hq⟩ : ∃ q, b[k]? = some q := ⟨_, List.getElem?_eq_getElem (by rw [← HN2.out]; exact hlt)⟩
        have hka : k < a.length := by rw [← HN1.out]; exact hlt
        have hkb : k < b.length := by rw [← HN2.out]; exact hlt
        have hda : a.drop k = p :: a.drop (k + 1) := by
          rw [List.getElem?_eq_getElem hka] at hp
          rw [List.drop_eq_getElem_cons hka, Option.some.inj hp]
        have hdb : b.drop k = q :: b.drop (k + 1) := by
          rw [List.getElem?_eq_getElem hkb] at hq
          rw [List.drop_eq_getElem_cons hkb, Option.some.inj hq]
        have hpm : p ∈ a := List.mem_of_getElem? hp
        have hps : szL p.orw ≤ n := by
          have h1 : szP p < szL a := szL_mem hpm
          have h2 := sizeOf_orw p
          have h3 := HSZ.out
          omega
        obtain ⟨b1, o1, oa, on, oc, e1, p0, p1, p2, p3, hao⟩ := (HA.out.kept HKK.out (fun _ _ h => h)).elem.2 k p hp
        have hbo := HB.out.kept (HKK.out.trans ((Kept.refl (fun _ => False) wr).alloc (.cells #[.int .i64 p.kind, .string (BA p.text), .slice oa on oc, .bool p.quoted] 46)) (fun _ _ h => h)) (fun _ _ h => h)
        obtain ⟨b2, o2, oa', on', oc', e2, q0, q1, q2, q3, hbq⟩ := hbo.elem.2 k q hq
        subst e1
        subst e2
        have K2 : Hid (Kept (fun _ => False) wr ((wr.alloc (.cells #[.int .i64 p.kind, .string (BA p.text), .slice oa on oc, .bool p.quoted] 46)).alloc (.cells #[.int .i64 q.kind, .string (BA q.text), .slice oa' on' oc', .bool q.quoted] 46))) := Lw.hid (((Kept.refl _ wr).alloc _).alloc _)
        have HAO := Lw.hid (hao.kept K2.out (fun _ _ h => h)); have HBO := Lw.hid (hbq.kept ((Kept.refl (fun _ => False) _).alloc (.cells #[.int .i64 q.kind, .string (BA q.text), .slice oa' on' oc', .bool q.quoted] 46)) (fun _ _ h => h))
        have hbl : b1 < wr.heap.size := World.block_lt_of_cell? wr _ p0
        have HC := Lw.hid (same1_any n HS _ F G p.kind p.text p.orw p.quoted oa on oc q.kind q.text q.orw q.quoted oa' on' oc' hps HAO.out HBO.out)
        have HSM2 : Hid ((sameP (.mk p.kind p.text p.orw p.quoted) (.mk q.kind q.text q.orw q.quoted) && sameW (a.drop (k + 1)) (b.drop (k + 1))) = R0) := Lw.hid (by
          rw [← HSM.out, hda, hdb, same_cons]
          obtain ⟨_, _, _, _⟩ := p
          obtain ⟨_, _, _, _⟩ := q
          rfl)
        obtain ⟨sp, hsp⟩ : ∃ sp, sameP (.mk p.kind p.text p.orw p.quoted) (.mk q.kind q.text q.orw q.quoted) = sp := ⟨_, rfl⟩
        rw [hsp] at HC HSM2
        clear hp hq hda hdb hpm hps hao hbo hbq hka hkb hsp
        cases sp with
        | true =>
          go_wp2_with fail
          refine HC.out.mono ?_
          rintro x w4 ⟨rfl, k4⟩
          have K4 := Lw.hid (HKK.out.trans (K2.out.trans k4 (fun _ _ h => h)) (fun _ _ h => h))
          clear k4
          go_wp2_with fail
          go_roundg (n1 - (k + 1))
          case measure => omega
          case rel => exact ⟨k + 1, rfl, hlt, by go_num, HSM2.out, K4.out⟩
        | false =>
          have HF : Hid (R0 = false) := Lw.hid HSM2.out.symm
          go_wp2_with fail
          refine HC.out.mono ?_
          rintro x w4 ⟨rfl, k4⟩
          have K4 := Lw.hid (HKK.out.trans (K2.out.trans k4 (fun _ _ h => h)) (fun _ _ h => h))
          clear k4
          go_wp2_with fail
          go_ret
          rw [HF.out]
          exact ⟨rfl, K4.out⟩
      · have hke : k = n1 := by omega
        have HT : Hid (R0 = true) := Lw.hid (by
          rw [← HSM.out, List.drop_eq_nil_of_le (by rw [← HN1.out, hke]; exact Nat.le_refl _), List.drop_eq_nil_of_le (by rw [← HN2.out, hke]; exact Nat.le_refl _)]
          exact same_nil)
        go_wp2_with fail
        go_ret
        rw [HT.out]
        exact ⟨rfl, HKK.out⟩
  · have hbb : ((n1 : Int) != (n2 : Int)) = true := by simp [bne]; omega
    have HF : Hid (sameW a b = false) := Lw.hid (same_len a b (by omega))
    clear h1 h2
    go_enter Tryd.func61, Tryd.ntmps61
    go_wp2_with fail
    go_ret
    rw [HF.out]
    exact ⟨rfl, Kept.refl _ _⟩
/-- Same. -/
theorem same_all (n : Nat) : CSame n := by
    induction n using Nat.strongRecOn with
    | ind n ih =>
      intro w F G va vb a b hn ha hb
      have hpos := szL_pos a
      have HS : Hid (CSame (n - 1)) := Lw.hid (ih (n - 1) (by omega))
      have HC := Lw.hid (eqfw_any (n - 1) HS w F G va vb a b (by omega) ha hb)
      clear ih ha hb hn hpos
      go_enter Tryd.func34, Tryd.ntmps34
      go_wp2_with fail
      refine HC.out.mono ?_
      rintro x w4 ⟨rfl, k4⟩
      go_wp2_with fail
      go_ret
      exact ⟨rfl, k4⟩
theorem same_any {w : World} {F G : Nat → Prop} {va vb : Value} {a b : List Prt} (ha : WAt w F va a) (hb : WAt w G vb b) :
    Calls Tryd.prog 34 #[va, vb] w fun x w' => x = .returned (.bool (sameW a b)) ∧ Kept (fun _ => False) w w' := same_all (szL a) w F G va vb a b (Nat.le_refl _) ha hb
end Go.Proofs.YtifcgeanippepaaDoor
