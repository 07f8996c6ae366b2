/- package word: Same. -/
import Derived.Test.YtifcgeanippepaaDoorWord5M
import Derived.Test.YtifcgeanippepaaDoorLib
namespace Go.Proofs.YtifcgeanippepaaDoor
open Go Go.RowKit Go.Lw
set_option maxRecDepth 100000
set_option linter.unusedVariables false
set_option linter.unusedSimpArgs false
attribute [local go_sem] BA_toList
/-- How large a part is. -/
def szP : Prt → Nat
  | .mk _ _ o _ => 1 + szL o
where szL : List Prt → Nat
  | [] => 1
  | p :: l => szP p + szL l
abbrev szL := szP.szL
theorem szL_pos : ∀ l : List Prt, 1 ≤ szL l
  | [] => by show 1 ≤ szP.szL _; rw [szP.szL]; omega
  | p :: l => by have := szL_pos l; show 1 ≤ szP.szL _; rw [szP.szL]; exact Nat.le_trans this (Nat.le_add_left _ _)
theorem szL_mem : ∀ {l : List Prt} {p : Prt}, p ∈ l → szP p < szL l
  | [], p, h => by cases h
  | x :: l, p, h => by
    have e : szL (x :: l) = szP x + szL l := by show szP.szL _ = _; rw [szP.szL]
    rw [e]
    rcases List.mem_cons.1 h with rfl | h
    · have := szL_pos l; omega
    · have := szL_mem h; omega
theorem WAt.max {w : World} {F : Nat → Prop} {a : Option Addr} {n c : Nat} {J : List Prt} (h : WAt w F (.slice a n c) J) : n ≤ 9223372036854775807 := by
  obtain ⟨ps, rfl, ⟨_, a', c', e, h1, h2, _⟩, _⟩ := h.open
  cases e
  unfold maxLen at h2
  omega
/-- The contract of Same, for words of a size. -/
def CSame (n : Nat) : Prop := ∀ (w : World) (F G : Nat → Prop) (va vb : Value) (a b : List Prt), szL a ≤ n → WAt w F va a → WAt w G vb b →
  Calls Tryd.prog 34 #[va, vb] w fun x w' => x = .returned (.bool (sameW a b)) ∧ Kept (fun _ => False) w w'
theorem same_mk (k : Int) (t : List UInt8) (o : List Prt) (q : Bool) (k' : Int) (t' : List UInt8) (o' : List Prt) (q' : Bool) : sameP (.mk k t o q) (.mk k' t' o' q') = (decide (k = k') && decide (t = t') && (q == q') && sameW o o') := by
  rw [sameP]
theorem same_cons (p q : Prt) (l m : List Prt) : sameW (p :: l) (q :: m) = (sameP p q && sameW l m) := by
  show sameP.sameL (p :: l) (q :: m) = _
  rw [sameP.sameL]
theorem same_len : ∀ (l m : List Prt), l.length ≠ m.length → sameW l m = false
  | [], [], h => absurd rfl h
  | [], _ :: _, _ => by show sameP.sameL _ _ = _; rw [sameP.sameL]
  | _ :: _, [], _ => by show sameP.sameL _ _ = _; rw [sameP.sameL]
  | p :: l, q :: m, h => by
    rw [same_cons, same_len l m (by simpa using h), Bool.and_false]
theorem same_nil : sameW [] [] = true := by show sameP.sameL _ _ = _; rw [sameP.sameL]
/-- Same's function of two parts. -/
theorem same1_any (n : Nat) (HS : Hid (CSame n)) (w : World) (F G : Nat → Prop) (k : Int) (t : List UInt8) (o : List Prt) (q : Bool) (oa : Option Addr) (on oc : Nat) (k' : Int) (t' : List UInt8) (o' : List Prt) (q' : Bool) (oa' : Option Addr) (on' oc' : Nat)
    (hn : szL o ≤ n) (ho : WAt w F (.slice oa on oc) o) (ho' : WAt w G (.slice oa' on' oc') o') :
    Calls Tryd.prog 62 #[.agg #[.int .i64 k, .string (BA t), .slice oa on oc, .bool q], .agg #[.int .i64 k', .string (BA t'), .slice oa' on' oc', .bool q']] w fun x w' => x = .returned (.bool (sameP (.mk k t o q) (.mk k' t' o' q'))) ∧ Kept (fun _ => False) w w' := by
  have HK : Hid (Kept (fun _ => False) w ((w.alloc (.cells #[.int .i64 k, .string (BA t), .slice oa on oc, .bool q] 46)).alloc (.cells #[.int .i64 k', .string (BA t'), .slice oa' on' oc', .bool q'] 46))) := Lw.hid (((Kept.refl _ w).alloc _).alloc _)
  have HC := Lw.hid (HS.out _ F G (.slice oa on oc) (.slice oa' on' oc') o o' hn (ho.kept HK.out (fun _ _ h => h)) (ho'.kept HK.out (fun _ _ h => h)))
  have HM := Lw.hid (same_mk k t o q k' t' o' q')
  clear ho ho' hn HS
  by_cases h1 : k = k'
  · have b1 : (k == k') = true := by simpa using h1
    have c1 : decide (k = k') = true := decide_eq_true h1
    by_cases h2 : t = t'
    · have b2 : (BA t == BA t') = true := by rw [BA_beq]; simpa using h2
      have b2' : (t == t') = true := by simpa using h2
      have c2 : decide (t = t') = true := decide_eq_true h2
      by_cases h3 : q = q'
      · have b3 : (q == q') = true := by simpa using h3
        rw [c1, c2, b3] at HM
        clear h1 h2 h3
        go_enter Tryd.func62, Tryd.ntmps62
        go_wp2_with fail
        refine HC.out.mono ?_
        rintro x w4 ⟨rfl, k4⟩
        have K4 := Lw.hid (HK.out.trans k4 (fun _ _ h => h))
        go_wp2_with fail
        go_ret
        rw [HM.out]
        exact ⟨by simp, K4.out⟩
      · have b3 : (q == q') = false := by simpa using h3
        rw [c1, c2, b3] at HM
        clear h1 h2 h3
        go_enter Tryd.func62, Tryd.ntmps62
        go_wp2_with fail
        go_ret
        rw [HM.out]
        exact ⟨by simp, HK.out⟩
    · have b2 : (BA t == BA t') = false := by rw [BA_beq]; simpa using h2
      have b2' : (t == t') = false := by simpa using h2
      have c2 : decide (t = t') = false := decide_eq_false h2
      rw [c1, c2] at HM
      clear h1 h2
      go_enter Tryd.func62, Tryd.ntmps62
      go_wp2_with fail
      go_ret
      rw [HM.out]
      exact ⟨by simp, HK.out⟩
  · have b1 : (k == k') = false := by simpa using h1
    have c1 : decide (k = k') = false := decide_eq_false h1
    rw [c1] at HM
    clear h1
    go_enter Tryd.func62, Tryd.ntmps62
    go_wp2_with fail
    go_ret
    rw [HM.out]
    exact ⟨by simp, HK.out⟩
theorem sizeOf_orw (p : Prt) : szL p.orw < szP p := by
  obtain ⟨k, t, o, q⟩ := p
  show szL o < szP (Prt.mk k t o q)
  rw [szP]
  exact Nat.lt_add_of_pos_left (by decide)
set_option maxHeartbeats 8000000 in
theorem eqfw_any (n : Nat) (HS : Hid (CSame n)) (w : World) (F G : Nat → Prop) (va vb : Value) (a b : List Prt) (hsz : szL a ≤ n + 1) (ha : WAt w F va a) (hb : WAt w G vb b) :
    Calls Tryd.prog 61 #[va, vb, .func (.func 62) #[] #[]] w fun x w' => x = .returned (.bool (sameW a b)) ∧ Kept (fun _ => False) w w' := by
  obtain ⟨aa, n1, c1, rfl⟩ := ha.slice
  obtain ⟨ab, n2, c2, rfl⟩ := hb.slice
  have h1 := ha.elem.1; have h2 := hb.elem.1
  have HA := Lw.hid ha; have HB := Lw.hid hb; have HSZ := Lw.hid hsz
  have HN1 := Lw.hid h1; have HN2 := Lw.hid h2
  have hn9 := ha.max
  clear ha hb hsz
  by_cases hne : n1 = n2
  · obtain ⟨N, hN⟩ : ∃ N, n1 = N := ⟨_, rfl⟩
    obtain rfl : n2 = N := by omega
    subst hN
    clear h1 h2
    have hbb : ((n1 : Int) != (n1 : Int)) = false := by simp
    obtain ⟨R0, hR0⟩ : ∃ R0, sameW a b = R0 := ⟨_, rfl⟩
    have HR0 := Lw.hid hR0
    rw [hR0]
    clear hR0
    go_enter Tryd.func61, Tryd.ntmps61
    go_wp2_with fail
    go_loopg [17] n1 (fun gk s17 wx => ∃ k : Nat, gk = n1 - k ∧ k ≤ n1 ∧ s17 = .int .i64 (k : Int) ∧ sameW (a.drop k) (b.drop k) = R0 ∧ Kept (fun _ => False) w wx)
    case atStart => exact ⟨0, rfl, Nat.zero_le _, rfl, HR0.out, Kept.refl _ _⟩
    case round =>
      obtain ⟨k, rfl, hk, rfl, hsm, hkk⟩ := hrel
      have HKK := Lw.hid hkk; have HSM := Lw.hid hsm
      clear hkk hsm
      by_cases hlt : k < n1
      · obtain ⟨p, hp⟩ : ∃ p, a[k]? = some p := ⟨_, List.getElem?_eq_getElem (by rw [← HN1.out]; exact hlt)⟩
        obtain ⟨q, hq⟩ : ∃ q, b[k]? = some q := ⟨_, List.getElem?_eq_getElem (by rw [← HN2.out]; exact hlt)⟩
        have hka : k < a.length := by rw [← HN1.out]; exact hlt
        have hkb : k < b.length := by rw [← HN2.out]; exact hlt
        have hda : a.drop k = p :: a.drop (k + 1) := by
          rw [List.getElem?_eq_getElem hka] at hp
          rw [List.drop_eq_getElem_cons hka, Option.some.inj hp]
        have hdb : b.drop k = q :: b.drop (k + 1) := by
          rw [List.getElem?_eq_getElem hkb] at hq
          rw [List.drop_eq_getElem_cons hkb, Option.some.inj hq]
        have hpm : p ∈ a := List.mem_of_getElem? hp
        have hps : szL p.orw ≤ n := by
          have h1 : szP p < szL a := szL_mem hpm
          have h2 := sizeOf_orw p
          have h3 := HSZ.out
          omega
        obtain ⟨b1, o1, oa, on, oc, e1, p0, p1, p2, p3, hao⟩ := (HA.out.kept HKK.out (fun _ _ h => h)).elem.2 k p hp
        have hbo := HB.out.kept (HKK.out.trans ((Kept.refl (fun _ => False) wr).alloc (.cells #[.int .i64 p.kind, .string (BA p.text), .slice oa on oc, .bool p.quoted] 46)) (fun _ _ h => h)) (fun _ _ h => h)
        obtain ⟨b2, o2, oa', on', oc', e2, q0, q1, q2, q3, hbq⟩ := hbo.elem.2 k q hq
        subst e1
        subst e2
        have K2 : Hid (Kept (fun _ => False) wr ((wr.alloc (.cells #[.int .i64 p.kind, .string (BA p.text), .slice oa on oc, .bool p.quoted] 46)).alloc (.cells #[.int .i64 q.kind, .string (BA q.text), .slice oa' on' oc', .bool q.quoted] 46))) := Lw.hid (((Kept.refl _ wr).alloc _).alloc _)
        have HAO := Lw.hid (hao.kept K2.out (fun _ _ h => h)); have HBO := Lw.hid (hbq.kept ((Kept.refl (fun _ => False) _).alloc (.cells #[.int .i64 q.kind, .string (BA q.text), .slice oa' on' oc', .bool q.quoted] 46)) (fun _ _ h => h))
        have hbl : b1 < wr.heap.size := World.block_lt_of_cell? wr _ p0
        have HC := Lw.hid (same1_any n HS _ F G p.kind p.text p.orw p.quoted oa on oc q.kind q.text q.orw q.quoted oa' on' oc' hps HAO.out HBO.out)
        have HSM2 : Hid ((sameP (.mk p.kind p.text p.orw p.quoted) (.mk q.kind q.text q.orw q.quoted) && sameW (a.drop (k + 1)) (b.drop (k + 1))) = R0) := Lw.hid (by
          rw [← HSM.out, hda, hdb, same_cons]
          obtain ⟨_, _, _, _⟩ := p
          obtain ⟨_, _, _, _⟩ := q
          rfl)
        obtain ⟨sp, hsp⟩ : ∃ sp, sameP (.mk p.kind p.text p.orw p.quoted) (.mk q.kind q.text q.orw q.quoted) = sp := ⟨_, rfl⟩
        rw [hsp] at HC HSM2
        clear hp hq hda hdb hpm hps hao hbo hbq hka hkb hsp
        cases sp with
        | true =>
          go_wp2_with fail
          refine HC.out.mono ?_
          rintro x w4 ⟨rfl, k4⟩
          have K4 := Lw.hid (HKK.out.trans (K2.out.trans k4 (fun _ _ h => h)) (fun _ _ h => h))
          clear k4
          go_wp2_with fail
          go_roundg (n1 - (k + 1))
          case measure => omega
          case rel => exact ⟨k + 1, rfl, hlt, by go_num, HSM2.out, K4.out⟩
        | false =>
          have HF : Hid (R0 = false) := Lw.hid HSM2.out.symm
          go_wp2_with fail
          refine HC.out.mono ?_
          rintro x w4 ⟨rfl, k4⟩
          have K4 := Lw.hid (HKK.out.trans (K2.out.trans k4 (fun _ _ h => h)) (fun _ _ h => h))
          clear k4
          go_wp2_with fail
          go_ret
          rw [HF.out]
          exact ⟨rfl, K4.out⟩
      · have hke : k = n1 := by omega
        have HT : Hid (R0 = true) := Lw.hid (by
          rw [← HSM.out, List.drop_eq_nil_of_le (by rw [← HN1.out, hke]; exact Nat.le_refl _), List.drop_eq_nil_of_le (by rw [← HN2.out, hke]; exact Nat.le_refl _)]
          exact same_nil)
        go_wp2_with fail
        go_ret
        rw [HT.out]
        exact ⟨rfl, HKK.out⟩
  · have hbb : ((n1 : Int) != (n2 : Int)) = true := by simp [bne]; omega
    have HF : Hid (sameW a b = false) := Lw.hid (same_len a b (by omega))
    clear h1 h2
    go_enter Tryd.func61, Tryd.ntmps61
    go_wp2_with fail
    go_ret
    rw [HF.out]
    exact ⟨rfl, Kept.refl _ _⟩
/-- Same. -/
theorem same_all (n : Nat) : CSame n := by
    induction n using Nat.strongRecOn with
    | ind n ih =>
      intro w F G va vb a b hn ha hb
      have hpos := szL_pos a
      have HS : Hid (CSame (n - 1)) := Lw.hid (ih (n - 1) (by omega))
      have HC := Lw.hid (eqfw_any (n - 1) HS w F G va vb a b (by omega) ha hb)
      clear ih ha hb hn hpos
      go_enter Tryd.func34, Tryd.ntmps34
      go_wp2_with fail
      refine HC.out.mono ?_
      rintro x w4 ⟨rfl, k4⟩
      go_wp2_with fail
      go_ret
      exact ⟨rfl, k4⟩
theorem same_any {w : World} {F G : Nat → Prop} {va vb : Value} {a b : List Prt} (ha : WAt w F va a) (hb : WAt w G vb b) :
    Calls Tryd.prog 34 #[va, vb] w fun x w' => x = .returned (.bool (sameW a b)) ∧ Kept (fun _ => False) w w' := same_all (szL a) w F G va vb a b (Nat.le_refl _) ha hb
end Go.Proofs.YtifcgeanippepaaDoor
/- A region that draws its order, walked once, each operation by itself: what each yields is said by a property that later operations keep. Over any program. -/
namespace Go.Lw
open Go Go.RowKit
section
variable {P : Program} {Q : Exit → Act → World → Prop}
theorem wp_then {o : Oper} {a : Act} {w : World} {K K' : Act → World → Prop} (h : o.wp P a w K (Exit.then K' Q)) : o.wp P a w K Q := by
  unfold Oper.wp at *
  generalize (execOp a.eval o).run P w = r at *
  cases r with
  | ok n w' =>
    cases n <;> simp only [Oper.upon] at h ⊢ <;>
      first
        | exact h
        | exact Calls.mono h (fun e w'' he => by cases e <;> exact he)
  | halt x w' => cases x <;> simp only [Oper.upon] at h ⊢ <;> exact h
/-- The slots that the region's operations write. -/
def softDst (l : List Oper) : List Nat := l.filterMap (·.dst)
/-- What is known of an operation that has come up. -/
def SFact (l : List Oper) (Φ : Nat → Value → World → Prop) (k : Nat) (a : Act) (w : World) : Prop :=
  match l[k]? with
  | some o => match o.dst with
    | some d => ∃ v, a.tmps[d]? = some v ∧ Φ k v w
    | none => True
  | none => True
def SFacts (l : List Oper) (Φ : Nat → Value → World → Prop) (a : Act) (w : World) : List Nat → Prop
  | [] => True
  | k :: ks => SFact l Φ k a w ∧ SFacts l Φ a w ks
/-- Those that have come up ahead of an operation. -/
def sdeps (o : Oper) : List Nat := ((o.after.toList.filter fun e => Region.binds .any e).map (·.on)).eraseDups
/-- The frame but for the region's slots is as it was. -/
structure SAgree (l : List Oper) (a0 a : Act) : Prop where
  size : a.tmps.size = a0.tmps.size
  same : ∀ s, s ∉ softDst l → a.tmps[s]? = a0.tmps[s]?
  defs : a.defers = a0.defers
def SStep (P : Program) (Q : Exit → Act → World → Prop) (l : List Oper) (I : World → Prop) (R : World → World → Prop) (Φ : Nat → Value → World → Prop) (a0 : Act) (j : Nat) (o : Oper) : Prop :=
  ∀ a w, I w → SAgree l a0 a → SFacts l Φ a w (sdeps o) → ∀ K : Act → World → Prop, (∀ v w', I w' → R w w' → Φ j v w' → K (a.put o.dst v) w') → wpList P l.toArray (Exit.then K Q) [o] a w
def SSteps (P : Program) (Q : Exit → Act → World → Prop) (l : List Oper) (I : World → Prop) (R : World → World → Prop) (Φ : Nat → Value → World → Prop) (a0 : Act) : Nat → List Oper → Prop
  | _, [] => True
  | j, o :: rest => SStep P Q l I R Φ a0 j o ∧ SSteps P Q l I R Φ a0 (j + 1) rest
theorem ssteps_at {l : List Oper} {I : World → Prop} {R : World → World → Prop} {Φ : Nat → Value → World → Prop} {a0 : Act} : ∀ (m : List Oper) (k j : Nat) (o : Oper), SSteps P Q l I R Φ a0 k m → m[j]? = some o → SStep P Q l I R Φ a0 (k + j) o
  | [], _, _, _, _, h => by simp at h
  | o' :: m, k, 0, o, hs, h => by
    simp at h; subst h; exact hs.1
  | o' :: m, k, j + 1, o, hs, h => by
    have := ssteps_at m (k + 1) j o hs.2 (by simpa using h)
    rw [show k + (j + 1) = k + 1 + j by omega]; exact this
theorem sfacts_of {l : List Oper} {Φ : Nat → Value → World → Prop} {a : Act} {w : World} : ∀ ks : List Nat, (∀ k ∈ ks, SFact l Φ k a w) → SFacts l Φ a w ks
  | [], _ => trivial
  | k :: ks, h => ⟨h k (List.mem_cons_self ..), sfacts_of ks fun j hj => h j (List.mem_cons_of_mem _ hj)⟩
theorem softDst_mem {l : List Oper} {k : Nat} {o : Oper} {d : Nat} (hk : l[k]? = some o) (hd : o.dst = some d) : d ∈ softDst l :=
  List.mem_filterMap.2 ⟨o, List.mem_of_getElem? hk, hd⟩
theorem softDst_ne : ∀ {l : List Oper} (_ : (softDst l).Nodup) {j k : Nat} {oj ok : Oper} {d e : Nat}, l[j]? = some oj → l[k]? = some ok → oj.dst = some d → ok.dst = some e → j ≠ k → d ≠ e
  | [], _, _, _, _, _, _, _, h, _, _, _, _ => by simp at h
  | x :: l, hn, j, k, oj, ok, d, e, hj, hk, hd, he, hne => by
    have hcons : ∀ y, x.dst = some y → y ∉ softDst l := fun y hy => by
      unfold softDst at hn
      rw [List.filterMap_cons_some hy] at hn
      exact (List.nodup_cons.1 hn).1
    have htail : (softDst l).Nodup := by
      unfold softDst at hn ⊢
      cases hx : x.dst with
      | none => rwa [List.filterMap_cons_none hx] at hn
      | some y => rw [List.filterMap_cons_some hx] at hn; exact (List.nodup_cons.1 hn).2
    cases j with
    | zero =>
      cases k with
      | zero => exact absurd rfl hne
      | succ k =>
        simp at hj hk
        subst hj
        intro h; subst h
        exact hcons _ hd (softDst_mem hk he)
    | succ j =>
      cases k with
      | zero =>
        simp at hj hk
        subst hk
        intro h; subst h
        exact hcons _ he (softDst_mem hj hd)
      | succ k =>
        simp at hj hk
        exact softDst_ne htail hj hk hd he (by omega)
theorem put_same (a : Act) (d : Nat) (v : Value) (h : d < a.tmps.size) : (a.put (some d) v).tmps[d]? = some v := by
  simp [Act.put, h]
theorem put_other (a : Act) (dst : Option Nat) (s : Nat) (v : Value) (h : ∀ d, dst = some d → d ≠ s) : (a.put dst v).tmps[s]? = a.tmps[s]? := by
  cases dst with
  | none => rfl
  | some d => simp [Act.put, Array.getElem?_setIfInBounds_ne (h d rfl)]
theorem put_size (a : Act) (dst : Option Nat) (v : Value) : (a.put dst v).tmps.size = a.tmps.size := by
  cases dst <;> simp [Act.put]
theorem put_defs (a : Act) (dst : Option Nat) (v : Value) : (a.put dst v).defers = a.defers := by
  cases dst <;> rfl
theorem soft_any {l : List Oper} {I : World → Prop} {R : World → World → Prop} {Φ : Nat → Value → World → Prop} {a0 : Act}
    (hd : (softDst l).Nodup) (hlt : ∀ d ∈ softDst l, d < a0.tmps.size) (hR : ∀ k v w w', R w w' → Φ k v w → Φ k v w') (hs : SSteps P Q l I R Φ a0 0 l)
    (hend : ∀ a w, I w → SAgree l a0 a → (∀ k, k < l.length → SFact l Φ k a w) → Q .normal a w) :
    ∀ (fuel : Nat) (listed : Array Bool) (a : Act) (w : World), listed.size = l.length → (∀ k, k < l.length → listed.getD k true = false → fuel ≠ 0) → I w → SAgree l a0 a → (∀ k, listed.getD k false = true → SFact l Φ k a w) →
      ((listed.toList.filter (· = false)).length = fuel) → (∀ k o, l[k]? = some o → ∀ e ∈ o.after, Region.binds .any e = true → e.on < k) → wpAny P .any l.toArray Q fuel listed a w := by
  intro fuel
  have allListed : ∀ (listed : Array Bool), listed.size = l.length → (∀ k o, l[k]? = some o → ∀ e ∈ o.after, Region.binds .any e = true → e.on < k) → Region.ready .any l.toArray listed = [] → ∀ k, k < l.length → listed.getD k false = true := by
    intro listed hsz hord hr k
    induction k using Nat.strongRecOn with
    | ind k ih =>
      intro hk
      rcases hc : listed.getD k false with _ | _
      · exfalso
        have hk' : k < listed.size := by omega
        have : k ∈ Region.ready .any l.toArray listed := by
          refine mem_ready.2 ⟨?_, l[k], by simp [hk], fun e he hb => ?_⟩
          · simp [hk'] at hc ⊢; exact hc
          · have hlt := hord k l[k] (List.getElem?_eq_getElem hk) e he hb
            exact ih e.on hlt (by omega)
        rw [hr] at this; cases this
      · rfl
  induction fuel with
  | zero =>
    intro listed a w hsz hf hI ha hl hc hord
    have hall : ∀ k, k < l.length → listed.getD k false = true := fun k hk => by
      rcases hx : listed.getD k true with _ | _
      · exact absurd rfl (hf k hk hx)
      · have hk' : k < listed.size := by omega
        simp [hk'] at hx ⊢; exact hx
    refine ⟨?_, hend a w hI ha fun k hk => hl k (hall k hk)⟩
    rcases hr : Region.ready .any l.toArray listed with _ | ⟨i, rs⟩
    · rfl
    · exfalso
      have hi : i ∈ Region.ready .any l.toArray listed := by rw [hr]; exact List.mem_cons_self ..
      obtain ⟨h0, o, ho, _⟩ := mem_ready.1 hi
      have hil : i < l.length := by
        rcases Nat.lt_or_ge i l.length with h | h
        · exact h
        · simp [h] at ho
      exact hf i hil h0 rfl
  | succ fuel ih =>
    intro listed a w hsz hf hI ha hl hc hord
    refine ⟨fun hr => hend a w hI ha fun k hk => hl k (allListed listed hsz hord hr k hk), fun i hi => ?_⟩
    obtain ⟨h0, o, ho, hafter⟩ := mem_ready.1 hi
    have ho' : l[i]? = some o := by simpa using ho
    have hil : i < l.length := by
      rcases Nat.lt_or_ge i l.length with h | h
      · exact h
      · simp [h] at ho
    have hstep := ssteps_at l 0 i o hs ho'
    rw [Nat.zero_add] at hstep
    have hfacts : SFacts l Φ a w (sdeps o) := sfacts_of _ fun k hk => by
      unfold sdeps at hk
      rw [List.mem_eraseDups] at hk
      obtain ⟨e, he, rfl⟩ := List.mem_map.1 hk
      rw [List.mem_filter] at he
      exact hl _ (hafter e (by simpa using he.1) (by simpa using he.2))
    have next : ∀ v w', I w' → R w w' → Φ i v w' → wpAny P .any l.toArray Q fuel (listed.setIfInBounds i true) (a.put o.dst v) w' := by
      intro v w' hI' hR' hΦ
      have hcnt : ∀ (m : List Bool) (i : Nat), m[i]? = some false → ((m.set i true).filter (· = false)).length + 1 = (m.filter (· = false)).length := by
        intro m
        induction m with
        | nil => intro i h; simp at h
        | cons b m ihm =>
          intro i h
          cases i with
          | zero => simp at h; subst h; simp
          | succ i =>
            have := ihm i (by simpa using h)
            rw [List.set_cons_succ, List.filter_cons, List.filter_cons]
            split <;> simp_all
      have hfuel : ((listed.setIfInBounds i true).toList.filter (· = false)).length = fuel := by
        have := hcnt listed.toList i (by
          have hk' : i < listed.size := by omega
          simp [hk'] at h0 ⊢; exact h0)
        rw [Array.toList_setIfInBounds]; omega
      refine ih (listed.setIfInBounds i true) (a.put o.dst v) w' (by simpa using hsz) (fun k hk hx h0' => ?_) hI' ?_ (fun k hk => ?_) hfuel hord
      · rw [h0'] at hfuel
        have hmem : false ∈ (listed.setIfInBounds i true).toList.filter (· = false) := by
          rw [List.mem_filter]
          refine ⟨?_, by simp⟩
          have hk' : k < (listed.setIfInBounds i true).size := by simpa [hsz] using hk
          have : (listed.setIfInBounds i true)[k]? = some false := by
            rw [Array.getElem?_eq_getElem hk']
            simp only [Array.getD, hk', dif_pos] at hx
            simpa using hx
          exact Array.mem_toList_iff.2 (Array.mem_of_getElem? this)
        rw [List.eq_nil_of_length_eq_zero hfuel] at hmem
        cases hmem
      · refine ⟨by rw [put_size]; exact ha.size, fun s hs => ?_, by rw [put_defs]; exact ha.defs⟩
        rw [put_other _ _ _ _ (fun d hd e => by subst e; exact hs (softDst_mem ho' hd))]
        exact ha.same s hs
      · by_cases hki : k = i
        · subst hki
          cases hdd : o.dst with
          | none => simp only [SFact, ho', hdd]
          | some d =>
            simp only [SFact, ho', hdd]
            exact ⟨v, put_same _ _ _ (by rw [ha.size]; exact hlt d (softDst_mem ho' hdd)), hΦ⟩
        · have hk' : listed.getD k false = true := by rw [getD_set_ne false (Ne.symm hki)] at hk; exact hk
          have hkf := hl k hk'
          cases hlk : l[k]? with
          | none => simp only [SFact, hlk]
          | some ok =>
            cases hdk : ok.dst with
            | none => simp only [SFact, hlk, hdk]
            | some d =>
              simp only [SFact, hlk, hdk] at hkf ⊢
              obtain ⟨u, hu, hΦu⟩ := hkf
              exact ⟨u, by rw [put_other _ _ _ _ (fun d' hd' => softDst_ne hd ho' hlk hd' hdk (Ne.symm hki))]; exact hu, hR _ _ _ _ hR' hΦu⟩
    have := hstep a w hI ha hfacts _ next
    unfold wpOp
    rw [ho]
    simp only [wpList] at this ⊢
    split
    · rename_i hw
      rw [if_pos hw] at this
      rcases this with h | ⟨h1, a', w', h2⟩
      · exact .inl (wp_then h)
      · exact .inr ⟨h1, a', w', h2⟩
    · rename_i hw
      rw [if_neg hw] at this
      exact this
/-- Each operation comes behind those that it waits for, in the text. -/
def softOrd : Nat → List Oper → Bool
  | _, [] => true
  | k, o :: rest => (o.after.toList.all fun e => !Region.binds .any e || decide (e.on < k)) && softOrd (k + 1) rest
theorem softOrd_at : ∀ (m : List Oper) (k j : Nat) (o : Oper), softOrd k m = true → m[j]? = some o → ∀ e ∈ o.after, Region.binds .any e = true → e.on < k + j
  | [], _, _, _, _, h => by simp at h
  | o' :: m, k, 0, o, hs, h => by
    simp at h; subst h
    intro e he hb
    simp only [softOrd, Bool.and_eq_true, List.all_eq_true] at hs
    have := hs.1 e (by simpa using he)
    simpa [hb] using this
  | o' :: m, k, j + 1, o, hs, h => by
    simp only [softOrd, Bool.and_eq_true] at hs
    have := softOrd_at m (k + 1) j o hs.2 (by simpa using h)
    rw [show k + (j + 1) = k + 1 + j by omega]; exact this
def softOk (n : Nat) (l : List Oper) : Bool := decide (softDst l).Nodup && (softDst l).all (fun d => decide (d < n)) && softOrd 0 l
/-- THE LAW. -/
theorem wp_region_soft {id : Nat} {l : List Oper} {a0 : Act} {w0 : World} (I : World → Prop) (R : World → World → Prop) (Φ : Nat → Value → World → Prop)
    (hm : P.follows .mixedOrders = true) (hok : softOk a0.tmps.size l = true) (h0 : I w0.drew) (hR : ∀ k v w w', R w w' → Φ k v w → Φ k v w')
    (hs : SSteps P Q l I R Φ a0 0 l)
    (hend : ∀ a w, I w → SAgree l a0 a → (∀ k, k < l.length → SFact l Φ k a w) → Q .normal a w) : (Code.region id l.toArray true).wp P Q a0 w0 := by
  simp only [softOk, Bool.and_eq_true, decide_eq_true_eq, List.all_eq_true] at hok
  obtain ⟨⟨h1, h2⟩, h3⟩ := hok
  refine wp_region_any hm (soft_any h1 h2 hR hs hend _ _ _ _ (by simp) (fun k hk hx h => ?_) h0 ⟨rfl, fun _ _ => rfl, rfl⟩ (fun k hk => ?_) (by simp) (fun k o hk e he hb => by have := softOrd_at l 0 k o h3 hk e he hb; omega))
  · simp at h; subst h; simp at hk
  · simp [Array.getD] at hk
theorem ssteps_cons {l : List Oper} {I : World → Prop} {R : World → World → Prop} {Φ : Nat → Value → World → Prop} {a0 : Act} {j : Nat} {o : Oper} {rest : List Oper} (h : SStep P Q l I R Φ a0 j o) (k : SSteps P Q l I R Φ a0 (j + 1) rest) : SSteps P Q l I R Φ a0 j (o :: rest) := ⟨h, k⟩
/-- A property of a value that lasts while nothing that was there turns. -/
def Stable : Type := { p : Value → World → Prop // ∀ v w w', Kept (fun _ => False) w w' → p v w → p v w' }
def stV (c : Value) : Stable := ⟨fun v _ => v = c, fun _ _ _ _ h => h⟩
def stB (L : List UInt8) : Stable := ⟨fun v w => RdB w v L, fun _ _ _ hk h => h.kept hk (fun _ _ h => h)⟩
def sphi (specs : List Stable) (k : Nat) (v : Value) (w : World) : Prop :=
  match specs[k]? with
  | some p => p.1 v w
  | none => True
/-- THE LAW, for operations that turn nothing that was there. -/
theorem wp_region_kept {id : Nat} {l : List Oper} {a0 : Act} {w0 : World} (specs : List Stable)
    (hm : P.follows .mixedOrders = true) (hok : softOk a0.tmps.size l = true)
    (hs : SSteps P Q l (Kept (fun _ => False) w0) (Kept (fun _ => False)) (sphi specs) a0 0 l)
    (hend : ∀ a w, Kept (fun _ => False) w0 w → SAgree l a0 a → (∀ k, k < l.length → SFact l (sphi specs) k a w) → Q .normal a w) : (Code.region id l.toArray true).wp P Q a0 w0 := by
  refine wp_region_soft (Kept (fun _ => False) w0) (Kept (fun _ => False)) (sphi specs) hm hok ((Kept.refl _ _).drew) (fun k v w w' hr h => ?_) hs hend
  unfold sphi at *
  split
  · rename_i p hp
    rw [hp] at h
    exact p.2 v w w' hr h
  · trivial
end
end Go.Lw
