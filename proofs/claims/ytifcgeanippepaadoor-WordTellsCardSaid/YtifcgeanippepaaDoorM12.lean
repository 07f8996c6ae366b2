/- WordQuotes, plain: quoted texts are one Quoted Plain each. -/
import Derived.Test.YtifcgeanippepaaDoorQuotesPM
import Derived.Test.YtifcgeanippepaaDoorWordPM
namespace Go.Proofs.YtifcgeanippepaaDoor
open Go Go.RowKit Go.Lw
set_option linter.unusedVariables false
set_option linter.unusedSimpArgs false
theorem Ps.wordE : ∀ {l : List (List UInt8)}, Ps 0 l → ∃ k, ∀ n, k ≤ n → wordF n l.flatten = .ok []
  | [], _ => ⟨1, fun n hn => by
    obtain ⟨n, rfl⟩ : ∃ m, n = m + 1 := ⟨n - 1, by omega⟩
    rfl⟩
  | p :: l, ⟨⟨k, h⟩, ⟨c, y, hp, _, h1, h2, h3⟩, hl⟩ => by
    obtain ⟨m, hx⟩ := Ps.wordE hl
    subst hp
    refine ⟨m + 1, fun n hn => ?_⟩
    obtain ⟨n, rfl⟩ : ∃ m, n = m + 1 := ⟨n - 1, by omega⟩
    have hh := h (need (.piece false) (c :: y ++ l.flatten).length + k) (by omega) l.flatten
    rw [scan_fuel _ _ _ _ _ (Nat.le_refl _)] at hh
    rw [List.flatten_cons]
    rw [List.cons_append] at hh ⊢
    rw [word_step h1 hh]
    exact hx n (by omega)
/-- A word of pieces alone is one token. -/
theorem word_lex {x : List UInt8} (hx : ∃ P, Ps 0 P ∧ P.flatten = x) (hh : ∃ c y, x = c :: y ∧ ¬ (c = 32 ∨ c = 9) ∧ c ≠ 35 ∧ operF x = none) (hl : x.length ≤ 2048) (hk : x.all okB = true) :
    lexT x = .ok [⟨1, x, 0⟩] := by
  obtain ⟨P, hP, hx⟩ := hx
  obtain ⟨k, hw⟩ := hP.wordE
  rw [hx] at hw
  obtain ⟨c, y, rfl, hc1, hc2, hop⟩ := hh
  have hww : wordF (y.length + 2) (c :: y) = .ok [] := by
    have := hw (y.length + 2 + k) (by omega)
    rw [wordF_fuel _ _ _ (by simp)] at this
    exact this
  unfold lexT
  rw [if_neg (by omega), if_neg (by rw [hk]; decide)]
  show lexF (y.length + 1 + 1) (y.length + 1) (c :: y) = _
  rw [lex_word hc1 hc2 hop hww]
  show Except.map _ (lexF (y.length + 1) _ []) = _
  unfold lexF
  simp [Except.map]
theorem parse_one {x : List UInt8} {l : List Prt} {s : List UInt8} (h : lexT x = .ok [⟨1, x, 0⟩]) (hw : wordW .bare false [] ⟨x, false⟩ = (l, ⟨s, false⟩)) : parseW x = .ok l := by
  unfold parseW
  rw [h]
  simp [hw]
/-- One Quoted Plain. -/
def Qd (u : List UInt8) : List Prt := [.mk 1 u [] true]
theorem put_qd (u v : List UInt8) : putF (Qd u) (.mk 1 v [] true) = Qd (u ++ v) := rfl
theorem put_none (p : Prt) : putF [] p = [p] := rfl
theorem oddQ_B (c : UInt8) : oddQ c = oddB c := by
  unfold oddQ oddB
  rw [Bool.eq_iff_iff]
  simp only [Bool.or_eq_true, beq_iff_eq]
  constructor
  · rintro (((h | h) | h) | h) <;> simp [h]
  · rintro (((h | h) | h) | h) <;> simp [h]
theorem oddB_not {c : UInt8} (h : oddB c = false) : c ≠ 36 ∧ c ≠ 34 ∧ c ≠ 92 ∧ c ≠ 96 := by
  unfold oddB at h
  simp only [Bool.or_eq_false_iff, beq_eq_false_iff_ne] at h
  exact ⟨h.1.1.1, h.1.1.2, h.1.2, h.2⟩
/-- What a text in double quotes puts behind what is out. -/
theorem dq_step (acc : List Prt) (c : UInt8) (T : List UInt8) : wordW .dbl true acc ⟨(if oddQ c then [92, c] else [c]) ++ T, false⟩ = wordW .dbl true (putF acc (.mk 1 [c] [] true)) ⟨T, false⟩ := by
  rw [oddQ_B]
  cases h : oddB c with
  | true =>
    rw [if_pos rfl]
    show wordW .dbl true acc ⟨92 :: c :: T, false⟩ = _
    rw [wordW_pair]
    have e : pairR .dbl (c :: T) = (.mk 1 [c] [] true, T) := by
      unfold pairR
      simp [h]
    rw [e]
  | false =>
    obtain ⟨h1, h2, h3, h4⟩ := oddB_not h
    rw [if_neg (by decide)]
    show wordW .dbl true acc ⟨c :: T, false⟩ = _
    exact wordW_one _ _ _ (fun e => h2 (Option.some.inj e).symm) h3 h1 (fun e => e.2 rfl) (fun e => e.2 rfl)
theorem dq_read : ∀ (l u T : List UInt8), wordW .dbl true (Qd u) ⟨dqB l ++ 34 :: T, false⟩ = (Qd (u ++ l), ⟨34 :: T, false⟩)
  | [], u, T => by
    rw [List.append_nil]
    exact wordW_end _ _ _ _ rfl
  | c :: l, u, T => by
    show wordW .dbl true (Qd u) ⟨((if oddQ c then [92, c] else [c]) ++ dqB l) ++ 34 :: T, false⟩ = _
    rw [List.append_assoc, dq_step, put_qd, dq_read l (u ++ [c]) T, List.append_assoc]
    rfl
theorem dq_read0 (l T : List UInt8) : quoted0 (wordW .dbl true [] ⟨dqB l ++ 34 :: T, false⟩).1 = Qd l ∧ (wordW .dbl true [] ⟨dqB l ++ 34 :: T, false⟩).2 = ⟨34 :: T, false⟩ := by
  cases l with
  | nil =>
    have e : wordW .dbl true [] ⟨dqB [] ++ 34 :: T, false⟩ = ([], ⟨34 :: T, false⟩) := wordW_end _ _ _ _ rfl
    rw [e]; exact ⟨rfl, rfl⟩
  | cons c l =>
    have e : wordW .dbl true [] ⟨dqB (c :: l) ++ 34 :: T, false⟩ = (Qd ([c] ++ l), ⟨34 :: T, false⟩) := by
      show wordW .dbl true [] ⟨((if oddQ c then [92, c] else [c]) ++ dqB l) ++ 34 :: T, false⟩ = _
      rw [List.append_assoc, dq_step, put_none]
      exact dq_read l [c] T
    rw [e]; exact ⟨rfl, rfl⟩
/-- A text in double quotes is a Quoted Plain. -/
theorem read_double {lv : Lv} (hlv : lv ≠ .dbl) (q : Bool) (acc : List Prt) (l T : List UInt8) : wordW lv q acc ⟨34 :: (dqB l ++ 34 :: T), false⟩ = wordW lv q (putF acc (.mk 1 l [] true)) ⟨T, false⟩ := by
  rw [wordW_double _ _ _ hlv, (dq_read0 l T).1, (dq_read0 l T).2]
  rfl
theorem cut_run {c : UInt8} : ∀ {u T : List UInt8}, (∀ x ∈ u, x ≠ c) → cutR c (u ++ c :: T) = (u, T)
  | [], T, _ => by simp [cutR]
  | d :: u, T, h => by
    have ih := cut_run (c := c) (u := u) (T := T) (fun x hx => h x (List.mem_cons_of_mem _ hx))
    have hd := h d List.mem_cons_self
    unfold cutR at ih ⊢
    simp only [Prod.mk.injEq] at ih ⊢
    have e : (d != c) = true := by simp [hd]
    rw [List.cons_append, List.takeWhile_cons, List.dropWhile_cons, e]
    simp only [if_true, ih.1, ih.2, and_self]
theorem read_single {lv : Lv} (hlv : lv ≠ .dbl) (q : Bool) (acc : List Prt) {u : List UInt8} (T : List UInt8) (h : ∀ x ∈ u, x ≠ 39) : wordW lv q acc ⟨39 :: (u ++ 39 :: T), false⟩ = wordW lv q (putF acc (.mk 1 u [] true)) ⟨T, false⟩ := by
  rw [wordW_single _ _ _ hlv, cut_run h]
theorem read_pairs (q : Bool) : ∀ (l u T : List UInt8), wordW .bare q (Qd u) ⟨eaB l ++ T, false⟩ = wordW .bare q (Qd (u ++ l)) ⟨T, false⟩
  | [], u, T => by rw [List.append_nil]; rfl
  | c :: l, u, T => by
    show wordW .bare q (Qd u) ⟨92 :: c :: (eaB l ++ T), false⟩ = _
    rw [wordW_pair]
    show wordW .bare q (putF (Qd u) (.mk 1 [c] [] true)) ⟨eaB l ++ T, false⟩ = _
    rw [put_qd, read_pairs q l, List.append_assoc]
    rfl
/-! The five texts. -/
def q1 (s : List UInt8) : List UInt8 := 39 :: (s ++ [39])
def q2 (s : List UInt8) : List UInt8 := 34 :: (dqB s ++ [34])
def q3 (s : List UInt8) : List UInt8 := 39 :: 39 :: eaB s
def q4 (s : List UInt8) (k : Nat) : List UInt8 := 39 :: (s.take k ++ 39 :: 39 :: (s.drop k ++ [39]))
def q5 (s : List UInt8) : List UInt8 := 34 :: 34 :: 39 :: (s ++ [39, 34, 34])
def qAll (s : List UInt8) (k : Nat) : List (List UInt8) := [q1 s, q2 s, q3 s, q4 s k, q5 s]
/-- What may stand there. -/
def MayQ (s : List UInt8) : Prop := ∀ c ∈ s, c ≠ 39 ∧ c ≠ 10 ∧ okB c = true
theorem dqB_len (s : List UInt8) : (dqB s).length ≤ 2 * s.length := by
  induction s with
  | nil => exact Nat.le_refl _
  | cons c s ih =>
    show ((if oddQ c then [92, c] else [c]) ++ dqB s).length ≤ _
    rw [List.length_append, List.length_cons]
    split <;> (simp; omega)
theorem eaB_len (s : List UInt8) : (eaB s).length = 2 * s.length := by
  induction s with
  | nil => rfl
  | cons c s ih =>
    show ([92, c] ++ eaB s).length = _
    rw [List.length_append, List.length_cons, ih]
    simp; omega
theorem dqB_ok {s : List UInt8} (h : ∀ c ∈ s, okB c = true) : ∀ c ∈ dqB s, okB c = true := by
  intro c hc
  obtain ⟨d, hd, hc⟩ := List.mem_flatMap.1 hc
  split at hc
  · rcases List.mem_cons.1 hc with rfl | hc
    · decide
    · rw [List.mem_singleton.1 hc]; exact h d hd
  · rw [List.mem_singleton.1 hc]; exact h d hd
theorem eaB_ok {s : List UInt8} (h : ∀ c ∈ s, okB c = true) : ∀ c ∈ eaB s, okB c = true := by
  intro c hc
  obtain ⟨d, hd, hc⟩ := List.mem_flatMap.1 hc
  rcases List.mem_cons.1 hc with rfl | hc
  · decide
  · rw [List.mem_singleton.1 hc]; exact h d hd
theorem op39 (y : List UInt8) : operF (39 :: y) = none := by simp [operF, opsL, List.find?]
theorem op34 (y : List UInt8) : operF (34 :: y) = none := by simp [operF, opsL, List.find?]
theorem quotes_parse {s : List UInt8} (k : Nat) (h : MayQ s) (hl : s.length ≤ 100) : ∀ x ∈ qAll s k, parseW x = .ok (Qd s) := by
  have n39 : ∀ x ∈ s, x ≠ 39 := fun x hx => (h x hx).1
  have n10 : ∀ x ∈ s, x ≠ 10 := fun x hx => (h x hx).2.1
  have nok : ∀ x ∈ s, okB x = true := fun x hx => (h x hx).2.2
  have hd39 : ∀ y : List UInt8, ∃ c z, (39 :: y : List UInt8) = c :: z ∧ ¬ (c = 32 ∨ c = 9) ∧ c ≠ 35 ∧ operF (39 :: y) = none := fun y => ⟨39, y, rfl, by decide, by decide, op39 y⟩
  have hd34 : ∀ y : List UInt8, ∃ c z, (34 :: y : List UInt8) = c :: z ∧ ¬ (c = 32 ∨ c = 9) ∧ c ≠ 35 ∧ operF (34 :: y) = none := fun y => ⟨34, y, rfl, by decide, by decide, op34 y⟩
  have o39 : okB 39 = true := by decide
  have o34 : okB 34 = true := by decide
  have pd : Ps 0 [[34, 34]] := ⟨pc_double (x := []) (by decide) (Db.nil 1), head_ok (by decide), trivial⟩
  intro x hx
  simp only [qAll, List.mem_cons, List.not_mem_nil, or_false] at hx
  rcases hx with rfl | rfl | rfl | rfl | rfl
  · refine parse_one (word_lex ⟨[39 :: s ++ [39]], ⟨pc_single n39, head_ok (by decide), trivial⟩, by simp [q1]⟩ (hd39 _) (by simp [q1]; omega) ?_) (s := []) ?_
    · rw [List.all_eq_true]
      intro c hc
      simp only [q1, List.mem_cons, List.mem_append, List.not_mem_nil, or_false] at hc
      rcases hc with rfl | hc | rfl
      · exact o39
      · exact nok c hc
      · exact o39
    · rw [q1, read_single (by decide) _ _ [] n39]; rfl
  · refine parse_one (word_lex ⟨[34 :: dqB s ++ [34]], ⟨pc_double (by decide) (dq_ok n10), head_ok (by decide), trivial⟩, by simp [q2]⟩ (hd34 _) (by have := dqB_len s; simp [q2]; omega) ?_) (s := []) ?_
    · rw [List.all_eq_true]
      intro c hc
      simp only [q2, List.mem_cons, List.mem_append, List.not_mem_nil, or_false] at hc
      rcases hc with rfl | hc | rfl
      · exact o34
      · exact dqB_ok nok c hc
      · exact o34
    · rw [q2, read_double (by decide)]; rfl
  · refine parse_one (word_lex ⟨(39 :: [] ++ [39]) :: eaP s, ⟨pc_single (by simp), head_ok (by decide), eaP_ok n10⟩, by rw [List.flatten_cons, eaP_flat]; rfl⟩ (hd39 _) (by have := eaB_len s; simp [q3]; omega) ?_) (s := []) ?_
    · rw [List.all_eq_true]
      intro c hc
      simp only [q3, List.mem_cons] at hc
      rcases hc with rfl | rfl | hc
      · exact o39
      · exact o39
      · exact eaB_ok nok c hc
    · have e := read_single (lv := .bare) (u := []) (by decide) false [] (eaB s) (by simp)
      have e2 := read_pairs false s [] []
      rw [List.append_nil] at e2
      rw [q3]
      refine e.trans ?_
      rw [put_none]
      refine e2.trans ?_
      rfl
  · have n1 : ∀ x ∈ s.take k, x ≠ 39 := fun x hx => n39 x (List.mem_of_mem_take hx)
    have n2 : ∀ x ∈ s.drop k, x ≠ 39 := fun x hx => n39 x (List.mem_of_mem_drop hx)
    refine parse_one (word_lex ⟨[39 :: s.take k ++ [39], 39 :: s.drop k ++ [39]], ⟨pc_single n1, head_ok (by decide), pc_single n2, head_ok (by decide), trivial⟩, by simp [q4]⟩ (hd39 _) (by simp [q4]; omega) ?_) (s := []) ?_
    · rw [List.all_eq_true]
      intro c hc
      simp only [q4, List.mem_cons, List.mem_append, List.not_mem_nil, or_false] at hc
      rcases hc with rfl | hc | rfl | rfl | hc | rfl
      · exact o39
      · exact nok c (List.mem_of_mem_take hc)
      · exact o39
      · exact o39
      · exact nok c (List.mem_of_mem_drop hc)
      · exact o39
    · rw [q4, read_single (by decide) _ _ _ n1, read_single (by decide) _ _ [] n2, put_none]
      show wordW .bare false (putF (Qd (s.take k)) _) _ = _
      rw [put_qd, List.take_append_drop]
      rfl
  · refine parse_one (word_lex ⟨[[34, 34], 39 :: s ++ [39], [34, 34]], ⟨pd.1, pd.2.1, pc_single n39, head_ok (by decide), pd⟩, by simp [q5]⟩ (hd34 _) (by simp [q5]; omega) ?_) (s := []) ?_
    · rw [List.all_eq_true]
      intro c hc
      simp only [q5, List.mem_cons, List.mem_append, List.not_mem_nil, or_false] at hc
      rcases hc with rfl | rfl | rfl | hc | rfl | rfl | rfl
      · exact o34
      · exact o34
      · exact o39
      · exact nok c hc
      · exact o39
      · exact o34
      · exact o34
    · have e1 := read_double (lv := .bare) (by decide) false [] [] (39 :: (s ++ [39, 34, 34]))
      have e2 := read_single (lv := .bare) (u := s) (by decide) false (Qd []) [34, 34] n39
      have e3 := read_double (lv := .bare) (by decide) false (Qd s) [] []
      rw [q5]
      refine e1.trans ?_
      rw [put_none]
      refine e2.trans ?_
      rw [put_qd]
      refine e3.trans ?_
      rw [put_qd, List.append_nil]
      rfl
end Go.Proofs.YtifcgeanippepaaDoor
/- Words in memory: a slice of parts, and the words in them. -/
namespace Go.Proofs.YtifcgeanippepaaDoor
open Go Go.RowKit Go.Lw
set_option linter.unusedVariables false
set_option linter.unusedSimpArgs false
/-- A part's cells; its Or lies at a slice value. -/
def PC (x : Prt × Value) : List Value := [.int .i64 x.1.kind, .string (BA x.1.text), x.2, .bool x.1.quoted]
theorem PC_len (x : Prt × Value) : (PC x).length = 4 := rfl
/-- A slice of parts, in blocks of F. -/
inductive WAt (w : World) (F : Nat → Prop) : Value → List Prt → Prop
  | mk (v : Value) (ps : List (Prt × Value)) : Rd w 4 v ps.length (ps.flatMap PC) → (∀ b, blk v b → F b ∧ b < w.heap.size) → (∀ x ∈ ps, WAt w F x.2 x.1.orw) → WAt w F v (ps.map Prod.fst)
theorem WAt.open {w : World} {F : Nat → Prop} {v : Value} {l : List Prt} (h : WAt w F v l) :
    ∃ ps : List (Prt × Value), ps.map Prod.fst = l ∧ Rd w 4 v ps.length (ps.flatMap PC) ∧ (∀ b, blk v b → F b ∧ b < w.heap.size) ∧ ∀ x ∈ ps, WAt w F x.2 x.1.orw := by
  cases h with
  | mk _ ps h1 h2 h3 => exact ⟨ps, rfl, h1, h2, h3⟩
theorem WAt.mono {w : World} {F G : Nat → Prop} {v : Value} {l : List Prt} (h : WAt w F v l) (hF : ∀ b, b < w.heap.size → F b → G b) : WAt w G v l := by
  induction h with
  | mk v ps h1 h2 h3 ih => exact .mk v ps h1 (fun b hb => ⟨hF b (h2 b hb).2 (h2 b hb).1, (h2 b hb).2⟩) ih
theorem WAt.kept {w w' : World} {S F : Nat → Prop} {v : Value} {l : List Prt} (h : WAt w F v l) (k : Kept S w w') (hS : ∀ b, F b → ¬ S b) : WAt w' F v l := by
  induction h with
  | mk v ps h1 h2 h3 ih => exact .mk v ps (h1.kept k (fun b hb => hS b (h2 b hb).1)) (fun b hb => ⟨(h2 b hb).1, Nat.lt_of_lt_of_le (h2 b hb).2 k.size⟩) ih
theorem WAt.nil (w : World) (F : Nat → Prop) : WAt w F (.slice none 0 0) [] := .mk _ [] (Rd.nil w 4) (fun b hb => by cases hb) (fun x hx => by cases hx)
/-- A slice value. -/
theorem WAt.slice {w : World} {F : Nat → Prop} {v : Value} {l : List Prt} (h : WAt w F v l) : ∃ a n c, v = .slice a n c := by
  obtain ⟨ps, _, hr, _⟩ := h.open
  obtain ⟨_, a, c, e, _⟩ := hr
  exact ⟨a, _, c, e⟩
/-- A row of parts that is one's own; the words in it lie in blocks of F, none of which is the row's. -/
structure WOwn (w : World) (F : Nat → Prop) (lo : Nat) (v : Value) (ps : List (Prt × Value)) : Prop where
  own : w.ownsRow 0 46 4 v ps.length (ps.flatMap PC)
  blk : ∀ b, Go.Lw.blk v b → lo ≤ b ∧ ¬ F b
  lt : ∀ b, F b → b < w.heap.size
  ors : ∀ x ∈ ps, WAt w F x.2 x.1.orw
theorem WOwn.kept {w w' : World} {S F : Nat → Prop} {lo : Nat} {v : Value} {ps : List (Prt × Value)} (h : WOwn w F lo v ps) (k : Kept S w w') (hF : ∀ b, F b → ¬ S b) (hv : ∀ b, Go.Lw.blk v b → ¬ S b) : WOwn w' F lo v ps :=
  ⟨own_kept k h.own hv, h.blk, fun b hb => Nat.lt_of_lt_of_le (h.lt b hb) k.size, fun x hx => (h.ors x hx).kept k hF⟩
/-- More blocks, none of which is the row's. -/
theorem WOwn.mono {w : World} {F G : Nat → Prop} {lo : Nat} {v : Value} {ps : List (Prt × Value)} (h : WOwn w F lo v ps) (hF : ∀ b, F b → G b) (hv : ∀ b, Go.Lw.blk v b → ¬ G b) (hG : ∀ b, G b → b < w.heap.size) : WOwn w G lo v ps :=
  ⟨h.own, fun b hb => ⟨(h.blk b hb).1, hv b hb⟩, hG, fun x hx => (h.ors x hx).mono (fun b _ hb => hF b hb)⟩
theorem WOwn.nil (w : World) (lo : Nat) : WOwn w (fun _ => False) lo (.slice none 0 0) [] :=
  ⟨World.ownsRow_nil _ _ _ _, fun b hb => (by cases hb), fun b hb => hb.elim, fun x hx => (by cases hx)⟩
/-- A row of one's own reads as a word. -/
theorem WOwn.at {w : World} {F : Nat → Prop} {lo : Nat} {v : Value} {ps : List (Prt × Value)} (h : WOwn w F lo v ps) : WAt w (fun b => F b ∨ Go.Lw.blk v b) v (ps.map Prod.fst) :=
  .mk v ps (Rd.own h.own) (fun b hb => ⟨.inr hb, own_lt h.own b hb⟩) (fun x hx => (h.ors x hx).mono (fun b _ hb => .inl hb))
theorem pc_flat (ps : List (Prt × Value)) : (ps.flatMap PC).length = ps.length * 4 := flatMap_length PC 4 ps (fun _ _ => rfl)
theorem pc_last (qs : List (Prt × Value)) (x : Prt × Value) (j : Nat) (hj : j < 4) : ((qs ++ [x]).flatMap PC)[qs.length * 4 + j]? = (PC x)[j]? := by
  have h := flatMap_get PC 4 (qs ++ [x]) (fun _ _ => rfl) qs.length (by simp) j hj
  rw [h]
  simp
theorem pc_set (qs : List (Prt × Value)) (x y : Prt × Value) (u : Value) (h : (PC x).set 1 u = PC y) : ((qs ++ [x]).flatMap PC).set (qs.length * 4 + 1) u = (qs ++ [y]).flatMap PC := by
  rw [List.flatMap_append, List.flatMap_append, List.set_append_right _ _ (by rw [pc_flat]; omega), pc_flat]
  rw [show qs.length * 4 + 1 - qs.length * 4 = 1 by omega]
  simp only [List.flatMap_cons, List.flatMap_nil, List.append_nil]
  rw [h]
theorem putF_snoc (l : List Prt) (x p : Prt) : putF (l ++ [x]) p = if p.kind = 1 ∧ x.kind = 1 ∧ x.quoted = p.quoted then l ++ [.mk x.kind (x.text ++ p.text) x.orw x.quoted] else l ++ [x] ++ [p] := by
  unfold putF
  rw [List.getLast?_append]
  simp
end Go.Proofs.YtifcgeanippepaaDoor
