/- package lex: Piece; Join of nothing. -/
import Derived.Test.YtifcgeanippepaaDoorLex2M
import Derived.ChangeMaps5
namespace Go.Proofs.YtifcgeanippepaaDoor
open Go Go.RowKit Go.Lw
set_option maxRecDepth 100000
set_option linter.unusedVariables false
set_option linter.unusedSimpArgs false
attribute [local go_sem] BA_toList
def pieceT : List UInt8 → Nat × Nat
  | [] => (0, 4)
  | c :: r => if endB c then (0, 1) else match pieceR false 0 (c :: r) with
    | .error e => (0, e)
    | .ok r' => (r.length + 1 - r'.length, 0)
set_option maxHeartbeats 4000000 in
theorem piece_fn (w : World) (s : List UInt8) (hs9 : s.length ≤ 1000000) :
    Calls Tryd.prog 26 #[.string (BA s)] w fun x w' => x = .returned (.tuple #[.int .i64 ((pieceT s).1 : Int), .int .i64 ((pieceT s).2 : Int)]) ∧ Kept (fun _ => False) w w' := by
  have lend : (⟨#[32, 9, 10, 59, 38, 124, 60, 62]⟩ : ByteArray) = BA endL := rfl
  cases s with
  | nil =>
    have hn : (BA ([] : List UInt8) == (⟨#[]⟩ : ByteArray)) = true := rfl
    go_enter Tryd.func26, Tryd.ntmps26
    go_wp2_with fail
    go_ret2
    exact ⟨rfl, Kept.refl _ _⟩
  | cons c r =>
    have hn : (BA (c :: r) == (⟨#[]⟩ : ByteArray)) = false := BA_ne_nil (by simp)
    have hs : (BA (c :: r)).size = r.length + 1 := BA_size _
    have g0 := BA_get (l := c :: r) (k := 0) (c := c) rfl
    have HS9 := Lw.hid hs9
    rw [List.length_cons] at hs9
    cases hec : endB c with
    | true =>
      have HP : Hid (pieceT (c :: r) = (0, 1)) := Lw.hid (by simp only [pieceT]; rw [hec]; rfl)
      have HI := Lw.hid ((idx_in endL c).1 (by rw [endL_has]; exact hec))
      obtain ⟨i, hi⟩ := HI.out
      have HI := Lw.hid hi
      clear hi hec
      go_enter Tryd.func26, Tryd.ntmps26
      go_wp2_with fail
      refine (idx_any endL c (i : Int) HI.out _).mono ?_
      rintro x w4 ⟨rfl, rfl⟩
      go_wp2_with fail
      go_ret2
      rw [HP.out]
      exact ⟨rfl, Kept.refl _ _⟩
    | false =>
      have HI := Lw.hid ((idx_in endL c).2 (by rw [endL_has]; exact hec))
      have HSC : Hid (ScAt (w.alloc (.cells #[.string (BA (c :: r)), .int .i64 0, .int .i64 0, .int .i64 0] 74)) w.heap.size (c :: r) 0 0 0) := Lw.hid (heap_alloc w _)
      have HK : Hid (Kept (fun _ => False) w (w.alloc (.cells #[.string (BA (c :: r)), .int .i64 0, .int .i64 0, .int .i64 0] 74))) := Lw.hid ((Kept.refl _ w).alloc _)
      go_enter Tryd.func26, Tryd.ntmps26
      go_wp2_with fail
      refine (idx_any endL c (-1) HI.out _).mono ?_
      rintro x w4 ⟨rfl, rfl⟩
      go_wp2_with fail
      refine (piece_any false _ w4.heap.size (c :: r) 0 0 HSC.out (by rw [List.length_cons]; omega) HS9.out (by omega)).mono ?_
      rintro x w5 ⟨rfl, h', k'⟩
      have HK5 := Lw.hid (k1_keep HK.out (Nat.le_refl _) k')
      rw [List.drop_zero] at h'
      cases hres : pieceR false 0 (c :: r) with
      | error e =>
        rw [hres] at h'
        have HP : Hid (pieceT (c :: r) = (0, e)) := Lw.hid (by simp only [pieceT]; rw [hec, hres]; rfl)
        obtain ⟨a', d', _, _, _, hsc, he⟩ := h'
        obtain ⟨⟨c0, c1, c2, c3⟩, f1, f2, f3⟩ := hsc.cells
        have hen : ((e : Int) != 0) = true := by simp [bne]; omega
        clear hres hec k' hsc he HSC HK
        go_wp2_with fail
        go_quiet (fail)
        go_wp2_with fail
        go_ret2
        rw [HP.out]
        exact ⟨rfl, HK5.out.trans (kept_drewN' _ _) (fun _ _ h => h)⟩
      | ok r' =>
        rw [hres] at h'
        have HP : Hid (pieceT (c :: r) = ((c :: r).length - r'.length, 0)) := Lw.hid (by simp only [pieceT]; rw [hec, hres]; rfl)
        have hsc : ScAt w5 w4.heap.size (c :: r) ((c :: r).length - r'.length) 0 0 := h'
        obtain ⟨⟨c0, c1, c2, c3⟩, f1, f2, f3⟩ := hsc.cells
        obtain ⟨q, hq⟩ : ∃ q, (c :: r).length - r'.length = q := ⟨_, rfl⟩
        rw [hq] at c1 HP
        clear hres hec k' hsc h' HSC HK hq
        go_wp2_with fail
        go_ret2
        rw [HP.out]
        exact ⟨rfl, HK5.out⟩
theorem join_nil (w : World) : Calls Tryd.prog 15 #[.slice none 0 0] w fun x w' => x = .returned (.string ⟨#[]⟩) ∧ w' = w := by
  go_enter Tryd.func15, Tryd.ntmps15
  go_wp2_with fail
  refine wp_loop_rounds 1 ?_
  rw [rounds_succ]
  go_wp2_with fail
  refine (Tryd.strings_Join_none none 0 ⟨#[32]⟩ _).mono ?_
  rintro x w' ⟨rfl, rfl⟩
  go_wp2_with fail
  go_ret
  exact ⟨rfl, rfl⟩
/-- What tokens read as. -/
theorem tk_cell {w : World} {g n c : Nat} {l : List Tk} (h : w.ownsRow 0 28 3 (.slice (some ⟨g, 0, none⟩) n c) l.length (l.flatMap Tk.cells)) (i : Nat) (u : Value) (hu : (l.flatMap Tk.cells)[i]? = some u) : w.cell? ⟨g, i, none⟩ = some u := by
  obtain ⟨_, a, cap, e, _, _, hc⟩ := Rd.own h
  cases e
  obtain ⟨g', off, e2, h2⟩ := hc i u hu
  cases e2
  rw [Nat.zero_add] at h2
  exact h2
/-- Lex at a text whose tokens are known. -/
theorem lex_ok (w : World) (s : List UInt8) (l : List Tk) (hE : LEnv w) (h : lexT s = .ok l) (hs9 : s.length ≤ 1000000) :
    Calls Tryd.prog 12 #[.string (BA s)] w fun x w' => (∃ v, x = .returned (.tuple #[v, .int .i64 0]) ∧ w'.ownsRow 0 28 3 v l.length (l.flatMap Tk.cells) ∧ (∀ k, blk v k → w.heap.size ≤ k) ∧ l.length ≤ 2048) ∧ Kept (fun _ => False) w w' := by
  refine (lex_any w s hE hs9).mono ?_
  rintro x w' ⟨hp, hk⟩
  unfold LexPost at hp
  rw [h] at hp
  exact ⟨hp, hk⟩
theorem lex_err (w : World) (s : List UInt8) (e : Nat) (hE : LEnv w) (h : lexT s = .error e) (hs9 : s.length ≤ 1000000) :
    Calls Tryd.prog 12 #[.string (BA s)] w fun x w' => x = .returned (.tuple #[.slice none 0 0, .int .i64 (e : Int)]) ∧ Kept (fun _ => False) w w' := by
  refine (lex_any w s hE hs9).mono ?_
  rintro x w' ⟨hp, hk⟩
  unfold LexPost at hp
  rw [h] at hp
  exact ⟨hp, hk⟩
def tA : List UInt8 := [97, 32, 34, 98, 32, 99, 34, 62, 62, 100, 32, 35, 32, 110, 111]
def tB : List UInt8 := [120, 61, 36, 123, 121, 58, 45, 39, 125, 39, 125, 32, 50, 62, 102]
def tAl : List Tk := [⟨1, [97], 0⟩, ⟨1, [34, 98, 32, 99, 34], 2⟩, ⟨9, [62, 62], 7⟩, ⟨1, [100], 9⟩]
def tBl : List Tk := [⟨1, [120, 61, 36, 123, 121, 58, 45, 39, 125, 39, 125], 0⟩, ⟨10, [50, 62], 12⟩, ⟨1, [102], 14⟩]
def lexB (s : List UInt8) (l : List Tk) : Bool := match lexT s with
  | .ok l' => decide (l' = l)
  | .error _ => false
theorem lexB_ok {s : List UInt8} {l : List Tk} (h : lexB s l = true) : lexT s = .ok l := by
  unfold lexB at h
  cases e : lexT s with
  | error x => rw [e] at h; cases h
  | ok l' => rw [e] at h; rw [of_decide_eq_true h]
theorem tA_lex : lexT tA = .ok tAl := lexB_ok (by decide +kernel)
theorem tB_lex : lexT tB = .ok tBl := lexB_ok (by decide +kernel)
set_option maxHeartbeats 8000000 in
theorem tells_any (w : World) (hE : LEnv w) : Calls Tryd.prog 13 #[] w fun x w' => x = .returned (.bool true) ∧ Kept (fun _ => False) w w' := by
  have HE := Lw.hid hE
  clear hE
  have ea : (⟨#[97, 32, 34, 98, 32, 99, 34, 62, 62, 100, 32, 35, 32, 110, 111]⟩ : ByteArray) = BA tA := rfl
  have eb : (⟨#[120, 61, 36, 123, 121, 58, 45, 39, 125, 39, 125, 32, 50, 62, 102]⟩ : ByteArray) = BA tB := rfl
  go_enter Tryd.func13, Tryd.ntmps13
  go_wp2_with fail
  refine (lex_ok w tA tAl HE.out tA_lex (by decide)).mono ?_
  rintro x w1 ⟨⟨v, rfl, ho1, hb1, _⟩, k1⟩
  obtain ⟨ad1, cp1, rfl, h11, h12, h13⟩ := own_slice ho1
  obtain ⟨ga, rfl⟩ := h13 (by decide)
  have HO1 := Lw.hid ho1; have K1 := Lw.hid k1
  have hga : w.heap.size ≤ ga := hb1 ga rfl
  clear ho1 k1 hb1 h13
  go_wp2_with fail
  refine (lex_ok w1 tB tBl (HE.out.kept K1.out) tB_lex (by decide)).mono ?_
  rintro x w2 ⟨⟨v, rfl, ho2, hb2, _⟩, k2⟩
  obtain ⟨ad2, cp2, rfl, h21, h22, h23⟩ := own_slice ho2
  obtain ⟨gb, rfl⟩ := h23 (by decide)
  have HO1' := Lw.hid (own_kept k2 HO1.out (fun _ _ h => h)); have HO2 := Lw.hid ho2; have K2 := Lw.hid (K1.out.trans k2 (fun _ _ h => h))
  unfold maxLen at h12 h22
  have a3 : w2.cell? ⟨ga, 3, none⟩ = some (.int .i64 1) := tk_cell HO1'.out 3 _ rfl
  have a4 : w2.cell? ⟨ga, 4, none⟩ = some (.string ⟨#[34, 98, 32, 99, 34]⟩) := tk_cell HO1'.out 4 _ rfl
  have a5 : w2.cell? ⟨ga, 5, none⟩ = some (.int .i64 2) := tk_cell HO1'.out 5 _ rfl
  have a6 : w2.cell? ⟨ga, 6, none⟩ = some (.int .i64 9) := tk_cell HO1'.out 6 _ rfl
  have a10 : w2.cell? ⟨ga, 10, none⟩ = some (.string ⟨#[100]⟩) := tk_cell HO1'.out 10 _ rfl
  have b1 : w2.cell? ⟨gb, 1, none⟩ = some (.string ⟨#[120, 61, 36, 123, 121, 58, 45, 39, 125, 39, 125]⟩) := tk_cell HO2.out 1 _ rfl
  have b3 : w2.cell? ⟨gb, 3, none⟩ = some (.int .i64 10) := tk_cell HO2.out 3 _ rfl
  have b7 : w2.cell? ⟨gb, 7, none⟩ = some (.string ⟨#[102]⟩) := tk_cell HO2.out 7 _ rfl
  have hla : tAl.length = 4 := rfl
  have hlb : tBl.length = 3 := rfl
  clear ho2 k2 hb2 h23 HO1
  go_wp2_with fail
  go_ret
  exact ⟨rfl, K2.out⟩
end Go.Proofs.YtifcgeanippepaaDoor
/- LexKnown's inner function: the kinds of a text's tokens, as letters. -/
namespace Go.Proofs.YtifcgeanippepaaDoor
open Go Go.RowKit Go.Lw
set_option maxRecDepth 100000
set_option linter.unusedVariables false
set_option linter.unusedSimpArgs false
attribute [local go_sem] BA_toList
theorem flatMap_at {α β : Type} (f : α → List β) (m : Nat) : ∀ (l : List α), (∀ x ∈ l, (f x).length = m) → ∀ (k : Nat) (x : α) (j : Nat), l[k]? = some x → j < m → (l.flatMap f)[k * m + j]? = (f x)[j]?
  | [], _, k, x, j, h, _ => by simp at h
  | y :: l, hl, 0, x, j, h, hj => by
    simp at h; subst h
    rw [List.flatMap_cons, Nat.zero_mul, Nat.zero_add, List.getElem?_append_left (by rw [hl y List.mem_cons_self]; exact hj)]
  | y :: l, hl, k + 1, x, j, h, hj => by
    rw [List.flatMap_cons, List.getElem?_append_right (by rw [hl y List.mem_cons_self, Nat.succ_mul]; omega), hl y List.mem_cons_self]
    rw [show (k + 1) * m + j - m = k * m + j by rw [Nat.succ_mul]; omega]
    exact flatMap_at f m l (fun z hz => hl z (List.mem_cons_of_mem _ hz)) k x j (by simpa using h) hj
theorem tk_at {w : World} {g n c : Nat} {l : List Tk} (h : w.ownsRow 0 28 3 (.slice (some ⟨g, 0, none⟩) n c) l.length (l.flatMap Tk.cells)) (k : Nat) (t : Tk) (hk : l[k]? = some t) :
    w.cell? ⟨g, k * 3, none⟩ = some (.int .i64 (t.kind : Int)) ∧ w.cell? ⟨g, k * 3 + 1, none⟩ = some (.string (BA t.text)) ∧ w.cell? ⟨g, k * 3 + 2, none⟩ = some (.int .i64 (t.pos : Int)) := by
  have key := fun j hj => flatMap_at Tk.cells 3 l (fun _ _ => rfl) k t j hk hj
  exact ⟨tk_cell h (k * 3 + 0) _ (key 0 (by decide)), tk_cell h _ _ (key 1 (by decide)), tk_cell h _ _ (key 2 (by decide))⟩
theorem lexF_kinds : ∀ (n N : Nat) (r : List UInt8) (l : List Tk), lexF n N r = .ok l → ∀ t ∈ l, t.kind ≤ 11
  | 0, _, _, _, h => by cases h
  | n + 1, N, [], l, h => by cases h; intro t ht; simp at ht
  | n + 1, N, c :: r, l, h => by
    by_cases h1 : c = 32 ∨ c = 9
    · rw [lex_blank h1] at h; exact lexF_kinds n N r l h
    · by_cases h2 : c = 35
      · rw [lex_hash h1 h2] at h; exact lexF_kinds n N _ l h
      · cases hop : operF (c :: r) with
        | some o =>
          obtain ⟨k, t⟩ := o
          rw [lex_some h1 h2 hop] at h
          split at h
          · cases h
          · cases hx : lexF n N ((c :: r).drop t.length) with
            | error e => rw [hx] at h; cases h
            | ok y =>
              rw [hx] at h
              cases h
              intro u hu
              rcases List.mem_cons.1 hu with rfl | hu
              · exact (operF_len hop).2.2.1
              · exact lexF_kinds n N _ y hx u hu
        | none =>
          cases hw : wordF (r.length + 2) (c :: r) with
          | error e => rw [lex_bad h1 h2 hop hw] at h; cases h
          | ok r' =>
            rw [lex_word h1 h2 hop hw] at h
            cases hx : lexF n N r' with
            | error e => rw [hx] at h; cases h
            | ok y =>
              rw [hx] at h
              cases h
              intro u hu
              rcases List.mem_cons.1 hu with rfl | hu
              · show 1 ≤ 11; decide
              · exact lexF_kinds n N _ y hx u hu
theorem lexT_kinds {s : List UInt8} {l : List Tk} (h : lexT s = .ok l) : ∀ t ∈ l, t.kind ≤ 11 := by
  unfold lexT at h
  split at h
  · cases h
  · split at h
    · cases h
    · exact lexF_kinds _ _ _ _ h
theorem untilF_ne0 {c : UInt8} : ∀ {r : List UInt8}, untilF c r ≠ .error 0
  | [], h => by cases h
  | d :: r, h => by
    unfold untilF at h
    split at h
    · cases h
    · exact untilF_ne0 h
theorem pairF_ne0 {r : List UInt8} (h : pairF r = .error 0) : False := by
  unfold pairF at h
  split at h
  · cases h
  · split at h
    · cases h
    · cases h
theorem arithF_ne0 : ∀ {r : List UInt8} {o : Nat}, arithF o r ≠ .error 0
  | [], o, h => by cases h
  | c :: r, o, h => by
    unfold arithF at h
    split at h
    · cases h
    · split at h
      · exact arithF_ne0 h
      · split at h
        · exact arithF_ne0 h
        · split at h
          · cases h
          · exact arithF_ne0 h
theorem scan_ne0 : ∀ (n : Nat) (m : Md) (d : Nat) {r : List UInt8}, scan n m d r ≠ .error 0
  | 0, m, d, r, h => by unfold scan at h; cases h
  | n + 1, .piece q, d, r, h => by
    unfold scan at h
    split at h
    · cases h
    · split at h
      · exact pairF_ne0 h
      · split at h
        · exact untilF_ne0 h
        · split at h
          · split at h
            · cases h
            · exact scan_ne0 n _ _ h
          · split at h
            · split at h
              · exact arithF_ne0 h
              · split at h
                · cases h
                · split at h
                  · split at h
                    · cases h
                    · exact scan_ne0 n _ _ h
                  · split at h
                    · cases h
                    · cases h
            · split at h
              · cases h
              · cases h
  | n + 1, .double, d, r, h => by
    unfold scan at h
    split at h
    · cases h
    · split at h
      · cases h
      · split at h
        · rename_i e1 h1
          cases h
          exact scan_ne0 n _ _ h1
        · exact scan_ne0 n _ _ h
  | n + 1, .brace, d, r, h => by
    unfold scan at h
    split at h
    · cases h
    · split at h
      · cases h
      · split at h
        · cases h
        · split at h
          · exact scan_ne0 n _ _ h
          · split at h
            · rename_i e1 h1
              cases h
              exact scan_ne0 n _ _ h1
            · exact scan_ne0 n _ _ h
theorem wordF_ne0 : ∀ (n : Nat) {r : List UInt8}, wordF n r ≠ .error 0
  | 0, r, h => by cases h
  | n + 1, [], h => by cases h
  | n + 1, c :: r, h => by
    unfold wordF at h
    split at h
    · cases h
    · split at h
      · rename_i e1 h1
        cases h
        exact scan_ne0 _ _ _ h1
      · exact wordF_ne0 n h
theorem lexF_ne0 : ∀ (n N : Nat) (r : List UInt8), lexF n N r ≠ .error 0
  | 0, _, _, h => by cases h
  | n + 1, N, [], h => by cases h
  | n + 1, N, c :: r, h => by
    by_cases h1 : c = 32 ∨ c = 9
    · rw [lex_blank h1] at h; exact lexF_ne0 n N r h
    · by_cases h2 : c = 35
      · rw [lex_hash h1 h2] at h; exact lexF_ne0 n N _ h
      · cases hop : operF (c :: r) with
        | some o =>
          obtain ⟨k, t⟩ := o
          rw [lex_some h1 h2 hop] at h
          split at h
          · cases h
          · cases hx : lexF n N ((c :: r).drop t.length) with
            | error e => rw [hx] at h; cases h; exact lexF_ne0 n N _ hx
            | ok y => rw [hx] at h; cases h
        | none =>
          cases hw : wordF (r.length + 2) (c :: r) with
          | error e => rw [lex_bad h1 h2 hop hw] at h; cases h; exact wordF_ne0 _ hw
          | ok r' =>
            rw [lex_word h1 h2 hop hw] at h
            cases hx : lexF n N r' with
            | error e => rw [hx] at h; cases h; exact lexF_ne0 n N _ hx
            | ok y => rw [hx] at h; cases h
theorem lexT_ne0 {s : List UInt8} (h : lexT s = .error 0) : False := by
  unfold lexT at h
  split at h
  · cases h
  · split at h
    · cases h
    · exact lexF_ne0 _ _ _ h
def kindC (t : Tk) : UInt8 := UInt8.ofNat (97 + t.kind)
def kindsF (s : List UInt8) : List UInt8 := match lexT s with
  | .error _ => [33]
  | .ok l => l.map kindC
set_option maxHeartbeats 8000000 in
theorem kinds_any (w : World) (s : List UInt8) (hE : LEnv w) (hs9 : s.length ≤ 1000000) :
    Calls Tryd.prog 24 #[.string (BA s)] w fun x w' => x = .returned (.string (BA (kindsF s))) ∧ Kept (fun _ => False) w w' := by
  have HE := Lw.hid hE
  clear hE
  cases hl : lexT s with
  | error e =>
    have HK : Hid (kindsF s = [33]) := Lw.hid (by unfold kindsF; rw [hl])
    have HL := Lw.hid hl
    have HE0 : Hid (e ≠ 0) := Lw.hid (fun h0 => by
      subst h0
      exact lexT_ne0 hl)
    have hen : ((e : Int) != 0) = true := by have := HE0.out; simp [bne]; omega
    clear hl
    go_enter Tryd.func24, Tryd.ntmps24
    go_wp2_with fail
    refine (lex_err w s e HE.out HL.out hs9).mono ?_
    rintro x w1 ⟨rfl, k1⟩
    go_wp2_with fail
    go_ret
    rw [HK.out]
    exact ⟨rfl, k1⟩
  | ok l =>
    have HKF : Hid (kindsF s = l.map kindC) := Lw.hid (by unfold kindsF; rw [hl])
    have HL := Lw.hid hl
    have HKD := Lw.hid (lexT_kinds hl)
    clear hl
    go_enter Tryd.func24, Tryd.ntmps24
    go_wp2_with fail
    refine (lex_ok w s l HE.out HL.out hs9).mono ?_
    rintro x w1 ⟨⟨v, rfl, ho, hb, hl9⟩, k1⟩
    obtain ⟨ad, cap, rfl, hc1, hc2, hc3⟩ := own_slice ho
    unfold maxLen at hc2
    have HO := Lw.hid ho; have K1 := Lw.hid k1; have HC3 := Lw.hid hc3
    obtain ⟨n, hn⟩ : ∃ n, l.length = n := ⟨_, rfl⟩
    have HN := Lw.hid hn
    rw [hn] at hc1 hl9 ⊢
    clear ho k1 hb hn hc3
    go_wp2_with fail
    go_loopg [5, 17] n (fun gk s5 s17 wx => ∃ k : Nat, gk = n - k ∧ k ≤ n ∧ s5 = .string (BA ((l.take k).map kindC)) ∧ s17 = .int .i64 (k : Int) ∧ Kept (fun _ => False) w1 wx)
    case atStart => exact ⟨0, rfl, Nat.zero_le _, rfl, rfl, Kept.refl _ _⟩
    case round =>
      obtain ⟨k, rfl, hk, rfl, rfl, hkk⟩ := hrel
      have HKK := Lw.hid hkk
      have HOW := Lw.hid (own_kept hkk HO.out (fun _ _ h => h))
      clear hkk
      by_cases hlt : k < n
      · obtain ⟨t, ht⟩ : ∃ t, l[k]? = some t := ⟨_, List.getElem?_eq_getElem (by rw [HN.out]; exact hlt)⟩
        obtain ⟨g, rfl⟩ := HC3.out (by rw [HN.out]; omega)
        obtain ⟨c0, c1, c2⟩ := tk_at HOW.out k t ht
        have hkd := HKD.out t (List.mem_of_getElem? ht)
        obtain ⟨q, hq⟩ : ∃ q, (l.take k).map kindC = q := ⟨_, rfl⟩
        have HQ : Hid ((l.take (k + 1)).map kindC = q ++ [kindC t]) := Lw.hid (by
          rw [take_snoc l k (List.getElem?_eq_some_iff.1 ht).1, List.map_append, hq]
          congr 1
          rw [List.getElem?_eq_getElem (List.getElem?_eq_some_iff.1 ht).1] at ht
          rw [Option.some.inj ht]; rfl)
        have zq : (BA q).size ≤ 2048 := by rw [BA_size, ← hq, List.length_map]; have := List.length_take_le k l; omega
        rw [hq]
        obtain ⟨kd, hkd2⟩ : ∃ kd, t.kind = kd := ⟨_, rfl⟩
        obtain ⟨c, hc⟩ : ∃ c, kindC t = c := ⟨_, rfl⟩
        rw [hkd2] at c0 hkd
        have hcc : (97 : Int) + (kd : Int) = (c.toNat : Int) := by
          rw [← hc]; unfold kindC; rw [hkd2]; simp only [UInt8.toNat_ofNat']; omega
        rw [hc] at HQ
        have aq := BA_append q [c]
        have z1 : (BA [c]).size = 1 := BA_size _
        have hc9 := c.toNat_lt
        clear hq hkd2 hc ht
        go_wp2_with (refine wpList_strBA rfl _ _ _ rfl _ [c] rfl (RdB.mark (wr.alloc _) [c] _ (0, 0) _ 1 (by simp) rfl (by decide)) Tryd.underlying36 Tryd.underlying5 Tryd.underlying9 ?_)
        go_roundg (n - (k + 1))
        case measure => omega
        case rel => exact ⟨k + 1, rfl, hlt, by rw [HQ.out], by go_num, (HKK.out.alloc _).alloc _⟩
      · obtain rfl : k = n := by omega
        have HT : Hid (l.take k = l) := Lw.hid (List.take_of_length_le (by rw [HN.out]; exact Nat.le_refl _))
        go_wp2_with fail
        go_ret
        rw [HKF.out, HT.out]
        exact ⟨rfl, K1.out.trans HKK.out (fun _ _ h => h)⟩
end Go.Proofs.YtifcgeanippepaaDoor
