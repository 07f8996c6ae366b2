/- WordTells: the document's Parse and May. -/
import Derived.Test.YtifcgeanippepaaDoorTell5M
import Derived.Test.YtifcgeanippepaaDoorM44
import Derived.Test.YtifcgeanippepaaDoorTelleM
namespace Go.Proofs.YtifcgeanippepaaDoor
open Go Go.RowKit Go.Lw
set_option maxRecDepth 100000
set_option linter.unusedVariables false
set_option linter.unusedSimpArgs false
attribute [local go_sem] BA_toList
theorem tkz_cell {w : World} {g n c : Nat} {l : List Tk} (h : w.ownsRow 0 139 3 (.slice (some ⟨g, 0, none⟩) n c) l.length (l.flatMap Tk.cells)) (i : Nat) (u : Value) (hu : (l.flatMap Tk.cells)[i]? = some u) : w.cell? ⟨g, i, none⟩ = some u := by
  obtain ⟨_, a, cap, e, _, _, hc⟩ := Rd.own h
  cases e
  obtain ⟨g', off, e2, h2⟩ := hc i u hu
  cases e2
  rw [Nat.zero_add] at h2
  exact h2
theorem tkz_at {w : World} {g n c : Nat} {l : List Tk} (h : w.ownsRow 0 139 3 (.slice (some ⟨g, 0, none⟩) n c) l.length (l.flatMap Tk.cells)) (k : Nat) (t : Tk) (hk : l[k]? = some t) :
    w.cell? ⟨g, k * 3, none⟩ = some (.int .i64 (t.kind : Int)) ∧ w.cell? ⟨g, k * 3 + 1, none⟩ = some (.string (BA t.text)) ∧ w.cell? ⟨g, k * 3 + 2, none⟩ = some (.int .i64 (t.pos : Int)) := by
  have key := fun j hj => flatMap_at Tk.cells 3 l (fun _ _ => rfl) k t j hk hj
  exact ⟨tkz_cell h (k * 3 + 0) _ (key 0 (by decide)), tkz_cell h _ _ (key 1 (by decide)), tkz_cell h _ _ (key 2 (by decide))⟩
set_option maxHeartbeats 16000000 in
theorem z_parse (w : World) (s : List UInt8) (hs9 : s.length ≤ 1000000) :
    Calls Tryd.prog 60 #[.string (BA s)] w fun x w' => ParsePost w s x w' ∧ Kept (fun _ => False) w w' := by
  have HL := Lw.hid (t16_lex w s hs9)
  cases hlx : lexT s with
  | error e =>
    have HP : Hid (parseW s = .error e) := Lw.hid (by rw [← parse17_same]; unfold parse17; rw [hlx])
    have he0 : ((e : Int) != 0) = true := by
      have : e ≠ 0 := fun h => by subst h; exact lexT_ne0 hlx
      simp [bne]; omega
    have HLX := Lw.hid hlx
    clear hlx
    go_enter Tryd.func60, Tryd.ntmps60
    go_wp2_with fail
    refine HL.out.mono ?_
    rintro x w1 ⟨hx, k1⟩
    unfold LexZ at hx
    rw [HLX.out] at hx
    subst hx
    have K1 := Lw.hid k1
    clear k1
    go_wp2_with fail
    go_ret2
    exact ⟨pp_error HP.out rfl, K1.out⟩
  | ok toks =>
    have hshort := lexT_short hlx
    have HLX := Lw.hid hlx
    by_cases hone : toks.length = 1
    · obtain ⟨⟨tk, tx, tp⟩, rfl⟩ : ∃ t, toks = [t] := List.length_eq_one_iff.1 hone
      by_cases hk : tk = 1
      · by_cases ht : tx = s
        · have HP : Hid (parseW s = if (readG refR .bare false [] ⟨s, false⟩).2.bad then .error 5 else .ok (readG refR .bare false [] ⟨s, false⟩).1) := Lw.hid (by
            rw [← parse17_same]; unfold parse17
            rw [hlx]
            simp only [hk, ht]
            exact if_pos (by simp))
          have hk1 : ((tk : Int) != 1) = false := by rw [hk]; rfl
          have ht1 : (BA tx == BA s) = true := by rw [BA_beq, ht]; simp
          have ht2 : (tx == s) = true := by rw [ht]; simp
          have ht3 : (tx != s) = false := by rw [ht]; simp [bne]
          clear hlx hone
          go_enter Tryd.func60, Tryd.ntmps60
          go_wp2_with fail
          refine HL.out.mono ?_
          rintro x w1 ⟨hx, k1⟩
          unfold LexZ at hx
          rw [HLX.out] at hx
          obtain ⟨v, rfl, hown, hblk, _⟩ := hx
          obtain ⟨ad, cap, rfl, _, _, hsome⟩ := own_slice hown
          obtain ⟨gt, rfl⟩ := hsome (by simp)
          obtain ⟨a0, a1, a2⟩ := tkz_at hown 0 _ rfl
          simp only [Nat.zero_mul, Nat.zero_add] at a0 a1 a2
          have K1 := Lw.hid k1
          have HRD : Hid (RdZ (w1.alloc (.cells #[.string (BA s), .int .i64 0, .bool false] 142)) w1.heap.size s 0 false) := Lw.hid (heap_alloc w1 _)
          have K2 := Lw.hid (k1.alloc (.cells #[.string (BA s), .int .i64 0, .bool false] 142))
          have hsz1 := k1.size
          clear k1 hown hblk hsome hk ht
          go_wp2_with fail
          generalize w1.alloc (.cells #[.string (BA s), .int .i64 0, .bool false] 142) = w2 at *
          obtain ⟨g, hg⟩ : ∃ g, w1.heap.size = g := ⟨_, rfl⟩
          rw [hg] at HRD hsz1 ⊢
          clear hg
          obtain ⟨J, ⟨u, b⟩, hW⟩ : ∃ J st, readG refR .bare false [] ⟨s, false⟩ = (J, st) := ⟨_, _, rfl⟩
          rw [hW] at HP
          have hwd := wordz_all s.length .bare false w2 g s 0 (by omega) (Nat.zero_le _) (Nat.le_refl _) HRD.out
          unfold WordZ at hwd
          rw [List.drop_zero, hW] at hwd
          have HWD := Lw.hid hwd
          clear hwd hW
          refine HWD.out.mono ?_
          rintro x w3 ⟨v3, l3, c3, bad3, rfl, hr3, ha3, k3, hbd3, him3, _, _, _, _⟩
          obtain rfl : b = bad3 := hbd3
          have HR3 := Lw.hid hr3
          have K3 : Hid (Kept (fun _ => False) w w3) := Lw.hid (K2.out.trans k3 (fun i hi e => by have e' : i = g := e; omega))
          have hsz2 := K2.out.size
          have HA3 := Lw.hid (ha3.mono (G := fun b => w.heap.size ≤ b) (fun b _ hb => by omega))
          obtain ⟨⟨g0, g1, g2⟩, gf0, gf1, gf2⟩ := hr3.cells
          have HIM := Lw.hid him3
          clear him3
          clear hr3 ha3 k3 hsz2
          cases b with
          | true =>
            go_wp2_with fail
            go_ret2
            exact ⟨pp_error (e := 5) (by rw [HP.out]; rfl) rfl, K3.out⟩
          | false =>
            go_wp2_with fail
            go_ret2
            have e3 : l3 = J := (HIM.out (by first | rfl | trivial)).1
            exact ⟨pp_ok (by rw [HP.out]; rfl) rfl (by rw [← e3]; exact HA3.out), K3.out⟩
        · have HP : Hid (parseW s = .error 5) := Lw.hid (by
            rw [← parse17_same]; unfold parse17
            rw [hlx]
            exact if_neg (fun h => ht (by simpa using h.2.2)))
          have hk1 : ((tk : Int) != 1) = false := by rw [hk]; rfl
          have ht1 : (BA tx == BA s) = false := by rw [BA_beq]; simpa using ht
          have ht2 : (tx == s) = false := by simpa using ht
          have ht3 : (tx != s) = true := by simpa [bne] using ht
          clear hlx hone
          go_enter Tryd.func60, Tryd.ntmps60
          go_wp2_with fail
          refine HL.out.mono ?_
          rintro x w1 ⟨hx, k1⟩
          unfold LexZ at hx
          rw [HLX.out] at hx
          obtain ⟨v, rfl, hown, hblk, _⟩ := hx
          obtain ⟨ad, cap, rfl, _, _, hsome⟩ := own_slice hown
          obtain ⟨gt, rfl⟩ := hsome (by simp)
          obtain ⟨a0, a1, a2⟩ := tkz_at hown 0 _ rfl
          simp only [Nat.zero_mul, Nat.zero_add] at a0 a1 a2
          have K1 := Lw.hid k1
          clear k1 hown hblk hsome hk ht
          go_wp2_with fail
          go_ret2
          exact ⟨pp_error HP.out rfl, K1.out⟩
      · have HP : Hid (parseW s = .error 5) := Lw.hid (by
          rw [← parse17_same]; unfold parse17
          rw [hlx]
          exact if_neg (fun h => hk (by simpa using h.2.1)))
        have hk1 : ((tk : Int) != 1) = true := by simp [bne]; omega
        clear hlx hone
        go_enter Tryd.func60, Tryd.ntmps60
        go_wp2_with fail
        refine HL.out.mono ?_
        rintro x w1 ⟨hx, k1⟩
        unfold LexZ at hx
        rw [HLX.out] at hx
        obtain ⟨v, rfl, hown, hblk, _⟩ := hx
        obtain ⟨ad, cap, rfl, _, _, hsome⟩ := own_slice hown
        obtain ⟨gt, rfl⟩ := hsome (by simp)
        obtain ⟨a0, a1, a2⟩ := tkz_at hown 0 _ rfl
        simp only [Nat.zero_mul, Nat.zero_add] at a0 a1 a2
        have K1 := Lw.hid k1
        clear k1 hown hblk hsome hk
        go_wp2_with fail
        go_ret2
        exact ⟨pp_error HP.out rfl, K1.out⟩
    · have HP : Hid (parseW s = .error 5) := Lw.hid (by
        rw [← parse17_same]; unfold parse17
        rw [hlx]
        exact if_neg (fun h => hone h.1))
      obtain ⟨n, hn⟩ : ∃ n, toks.length = n := ⟨_, rfl⟩
      have HN := Lw.hid hn
      have hn1 : ((n : Int) != 1) = true := by simp [bne]; omega
      clear hlx hone hn
      go_enter Tryd.func60, Tryd.ntmps60
      go_wp2_with fail
      refine HL.out.mono ?_
      rintro x w1 ⟨hx, k1⟩
      unfold LexZ at hx
      rw [HLX.out] at hx
      obtain ⟨v, rfl, hown, hblk, _⟩ := hx
      obtain ⟨ad, cap, rfl, _, _, hsome⟩ := own_slice hown
      rw [HN.out]
      have K1 := Lw.hid k1
      clear k1 hown hblk hsome
      go_wp2_with fail
      go_ret2
      exact ⟨pp_error HP.out rfl, K1.out⟩
set_option maxHeartbeats 8000000 in
/-- May. -/
theorem z_may (w : World) (F : Nat → Prop) (v : Value) (l : List Prt) (hv : WAt w F v l) (hl : (textW l).length ≤ 1000000) :
    Calls Tryd.prog 33 #[v] w fun x w' => x = .returned (.bool (mayF l)) ∧ Kept (fun _ => False) w w' := by
  have HT := Lw.hid (z_text hl hv)
  have HV := Lw.hid hv
  obtain ⟨t, ht⟩ : ∃ t, textW l = t := ⟨_, rfl⟩
  rw [ht] at HT hl
  have HM : Hid (mayF l = match parseW t with | .ok v => sameW v l | .error _ => false) := Lw.hid (by unfold mayF; rw [ht]; first | done | rfl | (cases parseW t <;> rfl))
  clear hv ht
  cases hp : parseW t with
  | error e =>
    have he0 : ((e : Int) == 0) = false := by
      have : e ≠ 0 := by
        intro h0; subst h0
        unfold parseW at hp
        split at hp
        · rename_i e' he; cases hp; exact lexT_ne0 he
        · split at hp
          · split at hp
            · cases hp
            · cases hp
          · cases hp
      simp; omega
    have HP := Lw.hid hp
    rw [hp] at HM
    clear hp
    go_enter Tryd.func33, Tryd.ntmps33
    go_wp2_with fail
    refine HT.out.mono ?_
    rintro x w1 ⟨rfl, k1⟩
    have K1 := Lw.hid k1
    have HPA := Lw.hid (z_parse w1 t hl)
    clear k1
    go_wp2_with fail
    refine HPA.out.mono ?_
    rintro x w2 ⟨hx, k2⟩
    unfold ParsePost at hx
    rw [HP.out] at hx
    subst hx
    have K2 := Lw.hid (K1.out.trans k2 (fun _ _ h => h))
    clear k2
    go_wp2_with fail
    go_ret
    rw [HM.out]
    exact ⟨rfl, K2.out⟩
  | ok m =>
    have HP := Lw.hid hp
    rw [hp] at HM
    clear hp
    go_enter Tryd.func33, Tryd.ntmps33
    go_wp2_with fail
    refine HT.out.mono ?_
    rintro x w1 ⟨rfl, k1⟩
    have K1 := Lw.hid k1
    have HPA := Lw.hid (z_parse w1 t hl)
    clear k1
    go_wp2_with fail
    refine HPA.out.mono ?_
    rintro x w2 ⟨hx, k2⟩
    obtain ⟨vm, rfl, hvm⟩ := pp_at hx HP.out
    have K2 := Lw.hid (K1.out.trans k2 (fun _ _ h => h))
    have S1 := Lw.hid (z_same hvm (HV.out.kept K2.out (fun _ _ h => h)))
    clear k2 hx hvm
    go_wp2_with fail
    refine S1.out.mono ?_
    rintro x w3 ⟨rfl, k3⟩
    have K3 := Lw.hid (K2.out.trans k3 (fun _ _ h => h))
    clear k3
    go_wp2_with fail
    go_ret
    rw [HM.out]
    exact ⟨rfl, K3.out⟩
end Go.Proofs.YtifcgeanippepaaDoor
/- package word: Bare. -/
namespace Go.Proofs.YtifcgeanippepaaDoor
open Go Go.RowKit Go.Lw
set_option maxRecDepth 100000
set_option linter.unusedVariables false
set_option linter.unusedSimpArgs false
attribute [local go_sem] BA_toList
/-- A word that is just an unquoted Plain. -/
def bareF : List Prt → Option (List UInt8)
  | [.mk k t _ q] => if k = 1 ∧ q = false then some t else none
  | _ => none
def bareV (l : List Prt) : Value := match bareF l with
  | some t => .tuple #[.string (BA t), .bool true]
  | none => .tuple #[.string (BA []), .bool false]
theorem bare_any (w : World) (F : Nat → Prop) (v : Value) (l : List Prt) (h : WAt w F v l) :
    Calls Tryd.prog 22 #[v] w fun x w' => x = .returned (bareV l) ∧ w' = w := by
  obtain ⟨a, n, c, rfl⟩ := h.slice
  have hn := h.elem.1
  by_cases h1 : l.length = 1
  · obtain ⟨⟨k, t, o, q⟩, rfl⟩ : ∃ p, l = [p] := List.length_eq_one_iff.1 h1
    obtain ⟨b, off, oa, on, oc, rfl, c0, c1, c2, c3, _⟩ := h.elem.2 0 _ rfl
    simp only [Nat.zero_mul, Nat.add_zero, Prt.kind, Prt.text, Prt.quoted] at c0 c1 c3
    have hn1 : n = 1 := hn
    clear h hn h1
    subst hn1
    by_cases hk : k = 1
    · have bk : (k != 1) = false := by rw [hk]; rfl
      cases q with
      | true =>
        have HB : Hid (bareV [.mk k t o true] = .tuple #[.string (BA []), .bool false]) := Lw.hid (by unfold bareV bareF; simp)
        clear hk
        go_enter Tryd.func22, Tryd.ntmps22
        go_wp2_with fail
        go_ret2
        rw [HB.out]
        exact ⟨rfl, rfl⟩
      | false =>
        have HB : Hid (bareV [.mk k t o false] = .tuple #[.string (BA t), .bool true]) := Lw.hid (by unfold bareV bareF; simp [hk])
        clear hk
        go_enter Tryd.func22, Tryd.ntmps22
        go_wp2_with fail
        go_ret2
        rw [HB.out]
        exact ⟨rfl, rfl⟩
    · have bk : (k != 1) = true := by simpa [bne] using hk
      have HB : Hid (bareV [.mk k t o q] = .tuple #[.string (BA []), .bool false]) := Lw.hid (by unfold bareV bareF; simp [hk])
      clear hk
      go_enter Tryd.func22, Tryd.ntmps22
      go_wp2_with fail
      go_ret2
      rw [HB.out]
      exact ⟨rfl, rfl⟩
  · have bn : ((n : Int) != 1) = true := by simp [bne]; omega
    have HB : Hid (bareV l = .tuple #[.string (BA []), .bool false]) := Lw.hid (by
      unfold bareV bareF
      split
      · rename_i heq
        split at heq
        · simp at h1
        · cases heq
      · rfl)
    clear h hn h1
    go_enter Tryd.func22, Tryd.ntmps22
    go_wp2_with fail
    go_ret2
    rw [HB.out]
    exact ⟨rfl, rfl⟩
end Go.Proofs.YtifcgeanippepaaDoor
