/- Strings as lists of bytes, over any program. -/
import Derived.Test.YtifcgeanippepaaDoorLib
import Derived.RegionTactic
import Derived.Deep.QuietTactic
import Derived.BigQuiet
import Derived.Laws.Tables
import Derived.Laws.CopyRow
namespace Go.Lw
open Go Go.RowKit
/-- A list of bytes as a string. -/
def BA (l : List UInt8) : ByteArray := ⟨l.toArray⟩
theorem BA_of (s : ByteArray) : s = BA s.data.toList := by unfold BA; cases s; simp
theorem BA_size (l : List UInt8) : (BA l).size = l.length := by unfold BA; simp [ByteArray.size]
theorem BA_list (l : List UInt8) : (BA l).data.toList = l := rfl
theorem BA_inj {a b : List UInt8} (h : BA a = BA b) : a = b := by
  have := congrArg (fun s => s.data.toList) h
  simpa [BA_list] using this
theorem BA_get {l : List UInt8} {k : Nat} {c : UInt8} (h : l[k]? = some c) : ∀ hk, (BA l)[k]'hk = c := by
  intro hk
  have hl : k < l.length := by rw [BA_size] at hk; exact hk
  rw [List.getElem?_eq_getElem hl] at h
  have := Option.some.inj h
  rw [← this]; rfl
theorem BA_extract (l : List UInt8) (a b : Nat) : (BA l).extract a b = BA ((l.take b).drop a) := by
  apply ByteArray.ext
  show ((BA l).extract a b).data = _
  rw [ByteArray.data_extract]
  unfold BA
  apply Array.ext'
  simp [List.drop_take]
theorem BA_tail (l : List UInt8) (k n : Nat) (hn : n = l.length) : (BA l).extract k n = BA (l.drop k) := by
  rw [BA_extract, hn, List.take_length]
theorem BA_head (l : List UInt8) (n : Nat) : (BA l).extract 0 n = BA (l.take n) := by
  rw [BA_extract, List.drop_zero]
theorem BA_append (a b : List UInt8) : BA a ++ BA b = BA (a ++ b) := by
  apply ByteArray.ext
  show (BA a ++ BA b).data = _
  rw [ByteArray.data_append]
  unfold BA
  simp
theorem BA_beq (a b : List UInt8) : (BA a == BA b) = (a == b) := by
  show (a.toArray == b.toArray) = (a == b)
  simp
theorem BA_toList (l : List UInt8) : (BA l).toList = l := by rw [ByteArray.toList_eq]; rfl
theorem BA_nil : BA [] = ⟨#[]⟩ := rfl
theorem BA_ne_nil {l : List UInt8} (h : l ≠ []) : (BA l == (⟨#[]⟩ : ByteArray)) = false := by
  rw [← BA_nil, BA_beq]
  cases l <;> simp_all
/-- A whole row stored where it lies already. -/
theorem store_own_row {P : Program} (w : World) (Z : Array Value) (T : TypeId) (g : Nat) (hg : g = w.heap.size) (h1 : ∀ v ∈ Z.toList, v.oneCell' = true) : (storeCells ⟨g, 0, none⟩ Z.toList).run P (w.alloc (.cells Z T)) = .ok () (w.alloc (.cells Z T)) := by
  subst hg
  have hb := heap_alloc w (.cells Z T)
  have h := run_storeCells_from (P := P) w.heap.size T Z.toList 0 Z (w.alloc (.cells Z T)) hb (by simp) h1
  rw [h]
  simp only [List.take_zero, List.nil_append, Array.toArray_toList]
  rw [setRow_self _ _ _ _ _ hb]
/-- 'string(b)' of bytes, as a list. -/
theorem wpList_strBA {P : Program} {w : World} {ops : Array Oper} {rest : List Oper} {o : Oper} {a : Act} {Q : Exit → Act → World → Prop} (hw : Region.wanted o (yielded ops a.tmps) = true) (src dst : TypeId) (x : Operand)
    (ho : o.op = .convert src dst x) (v : Value) (l : List UInt8) (hx : a.eval x = v) (hr : RdB w v l) {e : TypeId} (hs : P.underlying src = some (.slice e)) (he : P.underlying e = some (.int .u8)) (hd : P.underlying dst = some .string)
    (h : wpList P ops Q rest (a.put o.dst (.string (BA l))) w) : wpList P ops Q (o :: rest) a w := wpList_str hw src dst x ho v l hx hr hs he hd h
/-- append at a step of a region that draws its order (for go_region_held3, go_region_law). -/
theorem step_app {P : Program} {w : World} {ops : Array Oper} {o : Oper} {a : Act} {K : Act → World → Prop} {Q : Exit → Act → World → Prop} {E0 : Prop} (hgd : o.guard = none) (s x : Operand) (t : TypeId)
    (ho : o.op = .call { callee := .builtin .append, args := #[s, x], argTypes := #[t, t] })
    {e : TypeId} {size bytes : Nat} (E : ElemT P t e size bytes) (v : Value) (n : Nat) (xs : List Value) (hs : a.eval s = v) (hown : w.ownsRow 0 e size v n xs)
    (y : Value) (m : Nat) (news : List Value) (hx : a.eval x = y) (hr : Rd w size y m news) (h1 : ∀ u ∈ news, u.oneCell' = true)
    (h63 : n + m ≤ maxLen) (hbytes : (n + m) * bytes ≤ 140737488355328)
    (h : ∀ ad cap w', w'.ownsRow 0 e size (.slice ad (n + m) cap) (n + m) (xs ++ news) → w.grownBy w' v.ownBlock → Fresh w v (.slice ad (n + m) cap) → K (a.put o.dst (.slice ad (n + m) cap)) w') :
    if Region.wanted o (yielded ops a.tmps) = true then Oper.wp P o a w K Q else E0 := by
  have hw : Region.wanted o (yielded ops a.tmps) = true := by simp [Region.wanted, hgd]
  rw [if_pos hw]
  obtain ⟨v', w', hrun, h2, h3, h4⟩ := run_app (P := P) w E o.type v n xs hown y m news hr h1 h63 hbytes
  obtain ⟨ad, cap, rfl⟩ : ∃ ad cap, v' = .slice ad (n + m) cap := by
    rcases h2.2 with ⟨hv, hn⟩ | ⟨g, cap, _, hv, _⟩
    · exact ⟨none, 0, by rw [hv, hn]⟩
    · exact ⟨_, _, hv⟩
  unfold Oper.wp execOp
  simp only [ho, resolve, invoke, builtin, Sem.run_bind, Sem.run_pure, Result.andThen_ok, List.map_toArray, List.map_cons, List.map_nil, hs, hx, hrun]
  exact h _ _ w' h2 h3 h4
theorem Rd.lit' (w : World) (cs : List Value) (e : TypeId) (size g n : Nat) (hg : g = w.heap.size) (hl : cs.length = n * size) (hm : n ≤ maxLen) {W : World} (hW : W.heap = (w.alloc (.cells cs.toArray e)).heap) : Rd W size (.slice (some ⟨g, 0, none⟩) n n) n cs := by
  have h := Rd.lit w cs e size g n hg hl hm
  exact h.of_cells (fun g off j u _ hc => by simpa [World.cell?, hW] using hc)
theorem kept_drewN' (w : World) (n : Nat) : Kept (fun _ => False) w (w.drewN n) := ⟨rfl, rfl, rfl, Nat.le_refl _, fun _ _ _ => rfl⟩
end Go.Lw
/- Lexing, plain: pieces, one in another; what is left behind a piece, or an error. -/
namespace Go.Proofs.YtifcgeanippepaaDoor
open Go Go.RowKit Go.Lw
/-- What is left, or an error's number. -/
abbrev Rs := Except Nat (List UInt8)
def endB (c : UInt8) : Bool := c == 32 || c == 9 || c == 10 || c == 59 || c == 38 || c == 124 || c == 60 || c == 62
def oddA (c : UInt8) : Bool := c == 39 || c == 34 || c == 92 || c == 96 || c == 36 || c == 10
def braceB (c : UInt8) : Bool := endB c || c == 40 || c == 41 || c == 35
def startB (c : UInt8) : Bool := decide (97 ≤ c.toNat) && decide (c.toNat ≤ 122) || decide (65 ≤ c.toNat) && decide (c.toNat ≤ 90) || decide (c.toNat = 95)
def digitB (c : UInt8) : Bool := decide (48 ≤ c.toNat) && decide (c.toNat ≤ 57)
def letterB (c : UInt8) (first : Bool) : Bool := startB c || (!first && digitB c)
/-- Up to a byte, and that. -/
def untilF (c : UInt8) : List UInt8 → Rs
  | [] => .error 5
  | d :: r => if d = c then .ok r else untilF c r
def pairF : List UInt8 → Rs
  | [] => .error 5
  | d :: r => if d = 10 then .error 5 else .ok r
/-- Behind $((. -/
def arithF : Nat → List UInt8 → Rs
  | _, [] => .error 5
  | o, c :: r =>
    if o = 0 ∧ (c :: r).take 2 = [41, 41] then .ok (r.drop 1)
    else if c = 40 then arithF (o + 1) r
    else if c = 41 ∧ 0 < o then arithF (o - 1) r
    else if c = 41 ∨ oddA c = true then .error 5
    else arithF o r
/-- Behind a name. -/
def namesF : Bool → List UInt8 → List UInt8
  | _, [] => []
  | first, c :: r => if letterB c first then namesF false r else c :: r
inductive Md where
  | piece (q : Bool)
  | double
  | brace
/-- A piece; what stands within double quotes; within curly brackets. -/
def scan : Nat → Md → Nat → List UInt8 → Rs
  | 0, _, _, _ => .error 5
  | n + 1, .piece q, d, r =>
    match r with
    | [] => .error 5
    | c :: r =>
      if c = 92 then pairF r
      else if c = 39 ∧ q = false then untilF 39 r
      else if c = 34 ∧ q = false then (if 16 < d + 1 then .error 12 else scan n .double (d + 1) r)
      else if c = 36 then
        (if r.take 2 = [40, 40] then arithF 0 (r.drop 2)
         else if r.take 1 = [40] then .error 5
         else if r.take 1 = [123] then (if 16 < d + 1 then .error 12 else scan n .brace (d + 1) (r.drop 1))
         else if r.take 1 = [63] then .ok (r.drop 1)
         else .ok (namesF true r))
      else if c = 96 ∨ q = false ∧ (c = 40 ∨ c = 41) then .error 5
      else .ok r
  | n + 1, .double, d, r =>
    match r with
    | [] => .error 5
    | c :: r =>
      if c = 34 then .ok r
      else match scan n (.piece true) d (c :: r) with
        | .error e => .error e
        | .ok r' => scan n .double d r'
  | n + 1, .brace, d, r =>
    match r with
    | [] => .error 5
    | c :: r =>
      if c = 125 then .ok r
      else if c = 10 then .error 5
      else if braceB c then scan n .brace d r
      else match scan n (.piece false) d (c :: r) with
        | .error e => .error e
        | .ok r' => scan n .brace d r'
/-- What is left is a tail. -/
def Tl (r r' : List UInt8) : Prop := ∃ k, k ≤ r.length ∧ r.drop k = r'
theorem Tl.refl (r : List UInt8) : Tl r r := ⟨0, Nat.zero_le _, rfl⟩
theorem Tl.cons {c : UInt8} {r r' : List UInt8} (h : Tl r r') : Tl (c :: r) r' := by
  obtain ⟨k, hk, e⟩ := h
  exact ⟨k + 1, by simp; omega, by simpa using e⟩
theorem Tl.drop {r r' : List UInt8} {m : Nat} (h : Tl (r.drop m) r') : Tl r r' := by
  obtain ⟨k, hk, e⟩ := h
  rw [List.drop_drop] at e
  rw [List.length_drop] at hk
  by_cases hm : m + k ≤ r.length
  · exact ⟨m + k, hm, e⟩
  · exact ⟨r.length, Nat.le_refl _, by rw [← e, List.drop_eq_nil_of_le (by omega), List.drop_eq_nil_of_le (by omega)]⟩
theorem Tl.trans {a b c : List UInt8} (h : Tl a b) (k : Tl b c) : Tl a c := by
  obtain ⟨i, hi, rfl⟩ := h
  exact k.drop
theorem Tl.len {r r' : List UInt8} (h : Tl r r') : r'.length ≤ r.length := by
  obtain ⟨k, hk, rfl⟩ := h
  rw [List.length_drop]; omega
theorem untilF_tl {c : UInt8} : ∀ {r r' : List UInt8}, untilF c r = .ok r' → Tl r r'
  | [], r', h => by cases h
  | d :: r, r', h => by
    unfold untilF at h
    split at h
    · cases h; exact (Tl.refl _).cons
    · exact (untilF_tl h).cons
theorem pairF_tl {r r' : List UInt8} (h : pairF r = .ok r') : Tl r r' := by
  unfold pairF at h
  split at h
  · cases h
  · split at h
    · cases h
    · cases h; exact (Tl.refl _).cons
theorem arithF_tl : ∀ {r : List UInt8} {o : Nat} {r' : List UInt8}, arithF o r = .ok r' → Tl r r'
  | [], o, r', h => by cases h
  | c :: r, o, r', h => by
    unfold arithF at h
    split at h
    · cases h; exact (Tl.drop (m := 1) (Tl.refl _)).cons
    · split at h
      · exact (arithF_tl h).cons
      · split at h
        · exact (arithF_tl h).cons
        · split at h
          · cases h
          · exact (arithF_tl h).cons
theorem namesF_tl : ∀ {first : Bool} {r : List UInt8}, Tl r (namesF first r)
  | _, [] => Tl.refl _
  | first, c :: r => by
    unfold namesF
    split
    · exact namesF_tl.cons
    · exact Tl.refl _
theorem scan_tl : ∀ (n : Nat) (m : Md) (d : Nat) {r r' : List UInt8}, scan n m d r = .ok r' → Tl r r'
  | 0, m, d, r, r', h => by unfold scan at h; cases h
  | n + 1, .piece q, d, r, r', h => by
    unfold scan at h
    split at h
    · cases h
    · rename_i c r
      refine Tl.cons ?_
      split at h
      · exact pairF_tl h
      · split at h
        · exact untilF_tl h
        · split at h
          · split at h
            · cases h
            · exact scan_tl n _ _ h
          · split at h
            · split at h
              · exact (arithF_tl h).drop
              · split at h
                · cases h
                · split at h
                  · split at h
                    · cases h
                    · exact (scan_tl n _ _ h).drop
                  · split at h
                    · cases h; exact Tl.drop (m := 1) (Tl.refl _)
                    · cases h; exact namesF_tl
            · split at h
              · cases h
              · cases h; exact Tl.refl _
  | n + 1, .double, d, r, r', h => by
    unfold scan at h
    split at h
    · cases h
    · rename_i c r
      split at h
      · cases h; exact (Tl.refl _).cons
      · split at h
        · cases h
        · rename_i r1 h1
          exact (scan_tl n _ _ h1).trans (scan_tl n _ _ h)
  | n + 1, .brace, d, r, r', h => by
    unfold scan at h
    split at h
    · cases h
    · rename_i c r
      split at h
      · cases h; exact (Tl.refl _).cons
      · split at h
        · cases h
        · split at h
          · exact (scan_tl n _ _ h).cons
          · split at h
            · cases h
            · rename_i r1 h1
              exact (scan_tl n _ _ h1).trans (scan_tl n _ _ h)
/-- A piece takes something. -/
theorem piece_less {n : Nat} {q : Bool} {d : Nat} {c : UInt8} {r r' : List UInt8} (h : scan n (.piece q) d (c :: r) = .ok r') : Tl r r' := by
  cases n with
  | zero => unfold scan at h; cases h
  | succ n =>
    unfold scan at h
    simp only at h
    split at h
    · exact pairF_tl h
    · split at h
      · exact untilF_tl h
      · split at h
        · split at h
          · cases h
          · exact scan_tl n _ _ h
        · split at h
          · split at h
            · exact (arithF_tl h).drop
            · split at h
              · cases h
              · split at h
                · split at h
                  · cases h
                  · exact (scan_tl n _ _ h).drop
                · split at h
                  · cases h; exact Tl.drop (m := 1) (Tl.refl _)
                  · cases h; exact namesF_tl
          · split at h
            · cases h
            · cases h; exact Tl.refl _
/-- How many steps suffice. -/
def need : Md → Nat → Nat
  | .piece _, k => 2 * k + 1
  | .double, k => 2 * k + 2
  | .brace, k => 2 * k + 2
/-- More steps turn nothing. -/
theorem scan_more : ∀ (n : Nat) (m : Md) (d : Nat) (r : List UInt8), need m r.length ≤ n → scan (n + 1) m d r = scan n m d r
  | 0, m, d, r, h => by cases m <;> simp [need] at h
  | n + 1, .piece q, d, r, h => by
    unfold scan
    split
    · rfl
    · rename_i c r
      simp only [need, List.length_cons] at h
      rw [scan_more n .double (d + 1) r (by simp only [need]; omega), scan_more n .brace (d + 1) (r.drop 1) (by simp only [need]; rw [List.length_drop]; omega)]
  | n + 1, .double, d, r, h => by
    unfold scan
    split
    · rfl
    · rename_i c r
      simp only [need, List.length_cons] at h
      rw [scan_more n (.piece true) d (c :: r) (by simp only [need, List.length_cons]; omega)]
      split
      · rfl
      · split
        · rfl
        · rename_i r' h'
          exact scan_more n .double d r' (by have := (piece_less h').len; simp only [need]; omega)
  | n + 1, .brace, d, r, h => by
    unfold scan
    split
    · rfl
    · rename_i c r
      simp only [need, List.length_cons] at h
      rw [scan_more n (.piece false) d (c :: r) (by simp only [need, List.length_cons]; omega), scan_more n .brace d r (by simp only [need]; omega)]
      split
      · rfl
      · split
        · rfl
        · split
          · rfl
          · split
            · rfl
            · rename_i r' h'
              exact scan_more n .brace d r' (by have := (piece_less h').len; simp only [need]; omega)
theorem scan_fuel (n k : Nat) (m : Md) (d : Nat) (r : List UInt8) (h : need m r.length ≤ n) : scan (n + k) m d r = scan n m d r := by
  induction k with
  | zero => rfl
  | succ k ih => rw [← Nat.add_assoc, scan_more (n + k) m d r (by omega), ih]
end Go.Proofs.YtifcgeanippepaaDoor
