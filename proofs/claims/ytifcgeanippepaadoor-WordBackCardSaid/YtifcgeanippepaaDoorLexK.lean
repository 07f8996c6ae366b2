/- LexKnown's inner function: the kinds of a text's tokens, as letters. -/
import Derived.Test.YtifcgeanippepaaDoorLex3
namespace Go.Proofs.YtifcgeanippepaaDoor
open Go Go.RowKit Go.Lw
set_option maxRecDepth 100000
set_option linter.unusedVariables false
set_option linter.unusedSimpArgs false
attribute [local go_sem] BA_toList
theorem flatMap_at {α β : Type} (f : α → List β) (m : Nat) : ∀ (l : List α), (∀ x ∈ l, (f x).length = m) → ∀ (k : Nat) (x : α) (j : Nat), l[k]? = some x → j < m → (l.flatMap f)[k * m + j]? = (f x)[j]?
  | [], _, k, x, j, h, _ => by simp at h
  | y :: l, hl, 0, x, j, h, hj => by
    simp at h; subst h
    rw [List.flatMap_cons, Nat.zero_mul, Nat.zero_add, List.getElem?_append_left (by rw [hl y List.mem_cons_self]; exact hj)]
  | y :: l, hl, k + 1, x, j, h, hj => by
    rw [List.flatMap_cons, List.getElem?_append_right (by rw [hl y List.mem_cons_self, Nat.succ_mul]; omega), hl y List.mem_cons_self]
    rw [show (k + 1) * m + j - m = k * m + j by rw [Nat.succ_mul]; omega]
    exact flatMap_at f m l (fun z hz => hl z (List.mem_cons_of_mem _ hz)) k x j (by simpa using h) hj
theorem tk_at {w : World} {g n c : Nat} {l : List Tk} (h : w.ownsRow 0 28 3 (.slice (some ⟨g, 0, none⟩) n c) l.length (l.flatMap Tk.cells)) (k : Nat) (t : Tk) (hk : l[k]? = some t) :
    w.cell? ⟨g, k * 3, none⟩ = some (.int .i64 (t.kind : Int)) ∧ w.cell? ⟨g, k * 3 + 1, none⟩ = some (.string (BA t.text)) ∧ w.cell? ⟨g, k * 3 + 2, none⟩ = some (.int .i64 (t.pos : Int)) := by
  have key := fun j hj => flatMap_at Tk.cells 3 l (fun _ _ => rfl) k t j hk hj
  exact ⟨tk_cell h (k * 3 + 0) _ (key 0 (by decide)), tk_cell h _ _ (key 1 (by decide)), tk_cell h _ _ (key 2 (by decide))⟩
theorem lexF_kinds : ∀ (n N : Nat) (r : List UInt8) (l : List Tk), lexF n N r = .ok l → ∀ t ∈ l, t.kind ≤ 11
  | 0, _, _, _, h => by cases h
  | n + 1, N, [], l, h => by cases h; intro t ht; simp at ht
  | n + 1, N, c :: r, l, h => by
    by_cases h1 : c = 32 ∨ c = 9
    · rw [lex_blank h1] at h; exact lexF_kinds n N r l h
    · by_cases h2 : c = 35
      · rw [lex_hash h1 h2] at h; exact lexF_kinds n N _ l h
      · cases hop : operF (c :: r) with
        | some o =>
          obtain ⟨k, t⟩ := o
          rw [lex_some h1 h2 hop] at h
          split at h
          · cases h
          · cases hx : lexF n N ((c :: r).drop t.length) with
            | error e => rw [hx] at h; cases h
            | ok y =>
              rw [hx] at h
              cases h
              intro u hu
              rcases List.mem_cons.1 hu with rfl | hu
              · exact (operF_len hop).2.2.1
              · exact lexF_kinds n N _ y hx u hu
        | none =>
          cases hw : wordF (r.length + 2) (c :: r) with
          | error e => rw [lex_bad h1 h2 hop hw] at h; cases h
          | ok r' =>
            rw [lex_word h1 h2 hop hw] at h
            cases hx : lexF n N r' with
            | error e => rw [hx] at h; cases h
            | ok y =>
              rw [hx] at h
              cases h
              intro u hu
              rcases List.mem_cons.1 hu with rfl | hu
              · show 1 ≤ 11; decide
              · exact lexF_kinds n N _ y hx u hu
theorem lexT_kinds {s : List UInt8} {l : List Tk} (h : lexT s = .ok l) : ∀ t ∈ l, t.kind ≤ 11 := by
  unfold lexT at h
  split at h
  · cases h
  · split at h
    · cases h
    · exact lexF_kinds _ _ _ _ h
theorem untilF_ne0 {c : UInt8} : ∀ {r : List UInt8}, untilF c r ≠ .error 0
  | [], h => by cases h
  | d :: r, h => by
    unfold untilF at h
    split at h
    · cases h
    · exact untilF_ne0 h
theorem pairF_ne0 {r : List UInt8} (h : pairF r = .error 0) : False := by
  unfold pairF at h
  split at h
  · cases h
  · split at h
    · cases h
    · cases h
theorem arithF_ne0 : ∀ {r : List UInt8} {o : Nat}, arithF o r ≠ .error 0
  | [], o, h => by cases h
  | c :: r, o, h => by
    unfold arithF at h
    split at h
    · cases h
    · split at h
      · exact arithF_ne0 h
      · split at h
        · exact arithF_ne0 h
        · split at h
          · cases h
          · exact arithF_ne0 h
theorem scan_ne0 : ∀ (n : Nat) (m : Md) (d : Nat) {r : List UInt8}, scan n m d r ≠ .error 0
  | 0, m, d, r, h => by unfold scan at h; cases h
  | n + 1, .piece q, d, r, h => by
    unfold scan at h
    split at h
    · cases h
    · split at h
      · exact pairF_ne0 h
      · split at h
        · exact untilF_ne0 h
        · split at h
          · split at h
            · cases h
            · exact scan_ne0 n _ _ h
          · split at h
            · split at h
              · exact arithF_ne0 h
              · split at h
                · cases h
                · split at h
                  · split at h
                    · cases h
                    · exact scan_ne0 n _ _ h
                  · split at h
                    · cases h
                    · cases h
            · split at h
              · cases h
              · cases h
  | n + 1, .double, d, r, h => by
    unfold scan at h
    split at h
    · cases h
    · split at h
      · cases h
      · split at h
        · rename_i e1 h1
          cases h
          exact scan_ne0 n _ _ h1
        · exact scan_ne0 n _ _ h
  | n + 1, .brace, d, r, h => by
    unfold scan at h
    split at h
    · cases h
    · split at h
      · cases h
      · split at h
        · cases h
        · split at h
          · exact scan_ne0 n _ _ h
          · split at h
            · rename_i e1 h1
              cases h
              exact scan_ne0 n _ _ h1
            · exact scan_ne0 n _ _ h
theorem wordF_ne0 : ∀ (n : Nat) {r : List UInt8}, wordF n r ≠ .error 0
  | 0, r, h => by cases h
  | n + 1, [], h => by cases h
  | n + 1, c :: r, h => by
    unfold wordF at h
    split at h
    · cases h
    · split at h
      · rename_i e1 h1
        cases h
        exact scan_ne0 _ _ _ h1
      · exact wordF_ne0 n h
theorem lexF_ne0 : ∀ (n N : Nat) (r : List UInt8), lexF n N r ≠ .error 0
  | 0, _, _, h => by cases h
  | n + 1, N, [], h => by cases h
  | n + 1, N, c :: r, h => by
    by_cases h1 : c = 32 ∨ c = 9
    · rw [lex_blank h1] at h; exact lexF_ne0 n N r h
    · by_cases h2 : c = 35
      · rw [lex_hash h1 h2] at h; exact lexF_ne0 n N _ h
      · cases hop : operF (c :: r) with
        | some o =>
          obtain ⟨k, t⟩ := o
          rw [lex_some h1 h2 hop] at h
          split at h
          · cases h
          · cases hx : lexF n N ((c :: r).drop t.length) with
            | error e => rw [hx] at h; cases h; exact lexF_ne0 n N _ hx
            | ok y => rw [hx] at h; cases h
        | none =>
          cases hw : wordF (r.length + 2) (c :: r) with
          | error e => rw [lex_bad h1 h2 hop hw] at h; cases h; exact wordF_ne0 _ hw
          | ok r' =>
            rw [lex_word h1 h2 hop hw] at h
            cases hx : lexF n N r' with
            | error e => rw [hx] at h; cases h; exact lexF_ne0 n N _ hx
            | ok y => rw [hx] at h; cases h
theorem lexT_ne0 {s : List UInt8} (h : lexT s = .error 0) : False := by
  unfold lexT at h
  split at h
  · cases h
  · split at h
    · cases h
    · exact lexF_ne0 _ _ _ h
def kindC (t : Tk) : UInt8 := UInt8.ofNat (97 + t.kind)
def kindsF (s : List UInt8) : List UInt8 := match lexT s with
  | .error _ => [33]
  | .ok l => l.map kindC
set_option maxHeartbeats 8000000 in
theorem kinds_any (w : World) (s : List UInt8) (hE : LEnv w) (hs9 : s.length ≤ 1000000) :
    Calls Tryd.prog 24 #[.string (BA s)] w fun x w' => x = .returned (.string (BA (kindsF s))) ∧ Kept (fun _ => False) w w' := by
  have HE := Lw.hid hE
  clear hE
  cases hl : lexT s with
  | error e =>
    have HK : Hid (kindsF s = [33]) := Lw.hid (by unfold kindsF; rw [hl])
    have HL := Lw.hid hl
    have HE0 : Hid (e ≠ 0) := Lw.hid (fun h0 => by
      subst h0
      exact lexT_ne0 hl)
    have hen : ((e : Int) != 0) = true := by have := HE0.out; simp [bne]; omega
    clear hl
    go_enter Tryd.func24, Tryd.ntmps24
    go_wp2_with fail
    refine (lex_err w s e HE.out HL.out hs9).mono ?_
    rintro x w1 ⟨rfl, k1⟩
    go_wp2_with fail
    go_ret
    rw [HK.out]
    exact ⟨rfl, k1⟩
  | ok l =>
    have HKF : Hid (kindsF s = l.map kindC) := Lw.hid (by unfold kindsF; rw [hl])
    have HL := Lw.hid hl
    have HKD := Lw.hid (lexT_kinds hl)
    clear hl
    go_enter Tryd.func24, Tryd.ntmps24
    go_wp2_with fail
    refine (lex_ok w s l HE.out HL.out hs9).mono ?_
    rintro x w1 ⟨⟨v, rfl, ho, hb, hl9⟩, k1⟩
    obtain ⟨ad, cap, rfl, hc1, hc2, hc3⟩ := own_slice ho
    unfold maxLen at hc2
    have HO := Lw.hid ho; have K1 := Lw.hid k1; have HC3 := Lw.hid hc3
    obtain ⟨n, hn⟩ : ∃ n, l.length = n := ⟨_, rfl⟩
    have HN := Lw.hid hn
    rw [hn] at hc1 hl9 ⊢
    clear ho k1 hb hn hc3
    go_wp2_with fail
    go_loopg [5, 17] n (fun gk s5 s17 wx => ∃ k : Nat, gk = n - k ∧ k ≤ n ∧ s5 = .string (BA ((l.take k).map kindC)) ∧ s17 = .int .i64 (k : Int) ∧ Kept (fun _ => False) w1 wx)
    case atStart => exact ⟨0, rfl, Nat.zero_le _, rfl, rfl, Kept.refl _ _⟩
    case round =>
      obtain ⟨k, rfl, hk, rfl, rfl, hkk⟩ := hrel
      have HKK := Lw.hid hkk
      have HOW := Lw.hid (own_kept hkk HO.out (fun _ _ h => h))
      clear hkk
      by_cases hlt : k < n
      · obtain ⟨t, ht⟩ : ∃ t, l[k]? = some t := ⟨_, List.getElem?_eq_getElem (by rw [HN.out]; exact hlt)⟩
        obtain ⟨g, rfl⟩ := HC3.out (by rw [HN.out]; omega)
        obtain ⟨c0, c1, c2⟩ := tk_at HOW.out k t ht
        have hkd := HKD.out t (List.mem_of_getElem? ht)
        obtain ⟨q, hq⟩ : ∃ q, (l.take k).map kindC = q := ⟨_, rfl⟩
        have HQ : Hid ((l.take (k + 1)).map kindC = q ++ [kindC t]) := Lw.hid (by
          rw [take_snoc l k (List.getElem?_eq_some_iff.1 ht).1, List.map_append, hq]
          congr 1
          rw [List.getElem?_eq_getElem (List.getElem?_eq_some_iff.1 ht).1] at ht
          rw [Option.some.inj ht]; rfl)
        have zq : (BA q).size ≤ 2048 := by rw [BA_size, ← hq, List.length_map]; have := List.length_take_le k l; omega
        rw [hq]
        obtain ⟨kd, hkd2⟩ : ∃ kd, t.kind = kd := ⟨_, rfl⟩
        obtain ⟨c, hc⟩ : ∃ c, kindC t = c := ⟨_, rfl⟩
        rw [hkd2] at c0 hkd
        have hcc : (97 : Int) + (kd : Int) = (c.toNat : Int) := by
          rw [← hc]; unfold kindC; rw [hkd2]; simp only [UInt8.toNat_ofNat']; omega
        rw [hc] at HQ
        have aq := BA_append q [c]
        have z1 : (BA [c]).size = 1 := BA_size _
        have hc9 := c.toNat_lt
        clear hq hkd2 hc ht
        go_wp2_with (refine wpList_strBA rfl _ _ _ rfl _ [c] rfl (RdB.mark (wr.alloc _) [c] _ (0, 0) _ 1 (by simp) rfl (by decide)) Tryd.underlying36 Tryd.underlying5 Tryd.underlying9 ?_)
        go_roundg (n - (k + 1))
        case measure => omega
        case rel => exact ⟨k + 1, rfl, hlt, by rw [HQ.out], by go_num, (HKK.out.alloc _).alloc _⟩
      · obtain rfl : k = n := by omega
        have HT : Hid (l.take k = l) := Lw.hid (List.take_of_length_le (by rw [HN.out]; exact Nat.le_refl _))
        go_wp2_with fail
        go_ret
        rw [HKF.out, HT.out]
        exact ⟨rfl, K1.out.trans HKK.out (fun _ _ h => h)⟩
end Go.Proofs.YtifcgeanippepaaDoor
