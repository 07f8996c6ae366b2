/- Of the proof of TopBooks: Lib. -/
import Derived.WalkKit
import Derived.WalkLawsBesides
import Derived.WalkSpells
import Derived.Lib.ConvBytes
import Derived.StillTailTactics
import Derived.Lib.AppendStr
import Derived.Lib.SlBytesConst
import Derived.Lib.SmallJoins
namespace Go.Lw
open Go Go.RowKit
structure Kept (S : Nat → Prop) (w w' : World) : Prop where
  os : w'.os = w.os
  tape : w'.tape = w.tape
  output : w'.output = w.output
  size : w.heap.size ≤ w'.heap.size
  block : ∀ k, k < w.heap.size → ¬ S k → w'.heap[k]? = w.heap[k]?
theorem Kept.refl (S : Nat → Prop) (w : World) : Kept S w w := ⟨rfl, rfl, rfl, Nat.le_refl _, fun _ _ _ => rfl⟩
theorem Kept.trans {S S' : Nat → Prop} {a b c : World} (h : Kept S a b) (k : Kept S' b c) (hs : ∀ i, i < a.heap.size → S' i → S i) : Kept S a c :=
  ⟨k.os.trans h.os, k.tape.trans h.tape, k.output.trans h.output, Nat.le_trans h.size k.size,
   fun i hi hn => (k.block i (Nat.lt_of_lt_of_le hi h.size) (fun e => hn (hs i hi e))).trans (h.block i hi hn)⟩
theorem Kept.mono {S S' : Nat → Prop} {a b : World} (h : Kept S a b) (hs : ∀ i, i < a.heap.size → S i → S' i) : Kept S' a b :=
  ⟨h.os, h.tape, h.output, h.size, fun i hi hn => h.block i hi (fun e => hn (hs i hi e))⟩
theorem Kept.drew {S : Nat → Prop} {a b : World} (h : Kept S a b) : Kept S a b.drew := ⟨h.os, h.tape, h.output, h.size, h.block⟩
theorem Kept.alloc {S : Nat → Prop} {a b : World} (h : Kept S a b) (o : Obj) : Kept S a (b.alloc o) :=
  ⟨h.os, h.tape, h.output, Nat.le_trans h.size (by simp), fun i hi hn => (Below.heap_alloc _ _ _ (Nat.lt_of_lt_of_le hi h.size)).trans (h.block i hi hn)⟩
theorem Kept.setCell {S : Nat → Prop} {a b : World} (h : Kept S a b) {p : Addr} (hp : p.block < a.heap.size → S p.block) (u : Value) : Kept S a (b.setCell p u) :=
  ⟨h.os, h.tape, h.output, by simpa using h.size, fun i hi hn => by
    have hne : i ≠ p.block := fun e => hn (e ▸ hp (e ▸ hi))
    exact (Below.heap_setCell _ _ _ _ hne).trans (h.block i hi hn)⟩
theorem Kept.set {S : Nat → Prop} {a b : World} (h : Kept S a b) (g i : Nat) (hg : g < a.heap.size → S g) (u : Value) : Kept S a (b.setCell ⟨g, i, none⟩ u) := h.setCell (p := ⟨g, i, none⟩) hg u
theorem Kept.grown {S : Nat → Prop} {a b c : World} {row : Option Nat} (h : Kept S a b) (hg : b.grownBy c row) (hr : ∀ k, row = some k → k < a.heap.size → S k) : Kept S a c :=
  h.trans (S' := fun k => row = some k) ⟨hg.os, hg.tape, hg.output, hg.size, fun k hk hn => hg.block k hk (fun e => hn e.symm)⟩ (fun k hk e => hr k e hk)
theorem Kept.below {S : Nat → Prop} {a b : World} (h : Kept S a b) {B : Nat} (hB : B ≤ a.heap.size) (hs : ∀ k, k < B → ¬ S k) : Below B a b :=
  ⟨h.os, h.tape, h.output, h.size, fun k hk => h.block k (Nat.lt_of_lt_of_le hk hB) (hs k hk)⟩
theorem Below.of_kept {a b : World} (h : Kept (fun _ => False) a b) : Below a.heap.size a b := h.below (Nat.le_refl _) (fun _ _ h => h)
theorem Kept.cell {S : Nat → Prop} {a b : World} (h : Kept S a b) {p : Addr} {v : Value} (hc : a.cell? p = some v) (hp : ¬ S p.block) : b.cell? p = some v := by
  rw [World.cell?_of_block (w := a) (h.block p.block (World.block_lt_of_cell? a p hc) hp)]; exact hc
theorem Kept.heap {S : Nat → Prop} {a b : World} (h : Kept S a b) {k : Nat} {o : Obj} (hc : a.heap[k]? = some o) (hp : ¬ S k) : b.heap[k]? = some o := by
  rw [h.block k (by rcases Nat.lt_or_ge k a.heap.size with h' | h'; exact h'; simp [Array.getElem?_eq_none h'] at hc) hp]; exact hc
theorem hid {p : Prop} (h : p) : Hid p := h
abbrev bv (c : UInt8) : Value := .int .u8 (c.toNat : Int)
def Rd (w : World) (size : Nat) (v : Value) (n : Nat) (xs : List Value) : Prop :=
  xs.length = n * size ∧ ∃ a cap, v = .slice a n cap ∧ n ≤ cap ∧ cap ≤ maxLen ∧
    ∀ j u, xs[j]? = some u → ∃ g off, a = some ⟨g, off, none⟩ ∧ w.cell? ⟨g, off + j, none⟩ = some u
def blk (v : Value) : Nat → Prop := fun k => v.ownBlock = some k
theorem blk_some {a : Addr} {n c k : Nat} (h : blk (.slice (some a) n c) k) : k = a.block := (Option.some.inj h).symm
theorem blk_none {n c k : Nat} (h : blk (.slice none n c) k) : False := by cases h
theorem Rd.nil (w : World) (size : Nat) : Rd w size (.slice none 0 0) 0 [] :=
  ⟨by simp, none, 0, rfl, Nat.le_refl _, by unfold maxLen; omega, fun j u h => by simp at h⟩
theorem Rd.of_cells {w w' : World} {size n : Nat} {v : Value} {xs : List Value} (h : Rd w size v n xs)
    (hc : ∀ g off j u, v.ownBlock = some g → w.cell? ⟨g, off + j, none⟩ = some u → w'.cell? ⟨g, off + j, none⟩ = some u) : Rd w' size v n xs := by
  obtain ⟨h0, ad, cap, rfl, h1, h2, h3⟩ := h
  refine ⟨h0, ad, cap, rfl, h1, h2, fun j u hj => ?_⟩
  obtain ⟨g, off, rfl, hcell⟩ := h3 j u hj
  exact ⟨g, off, rfl, hc g off j u rfl hcell⟩
theorem Rd.kept {S : Nat → Prop} {a b : World} (h : Kept S a b) {size n : Nat} {v : Value} {xs : List Value} (hr : Rd a size v n xs) (hd : ∀ k, blk v k → ¬ S k) : Rd b size v n xs :=
  hr.of_cells fun g _ _ _ hg hc => h.cell hc (hd g hg)
theorem Rd.alloc {w : World} {size n : Nat} {v : Value} {xs : List Value} (hr : Rd w size v n xs) (o : Obj) : Rd (w.alloc o) size v n xs :=
  hr.of_cells fun _ _ _ _ _ hc => (World.cell?_alloc_lt w o _ (World.block_lt_of_cell? w _ hc)).trans hc
theorem Rd.own {w : World} {base e size n : Nat} {v : Value} {xs : List Value} (h : w.ownsRow base e size v n xs) : Rd w size v n xs := by
  obtain ⟨h0, h1⟩ := h
  rcases h1 with ⟨rfl, rfl⟩ | ⟨g, cap, cur, rfl, hb, hg, hn, hm, hs, ht⟩
  · obtain rfl : xs = [] := List.eq_nil_of_length_eq_zero (by simpa using h0)
    exact Rd.nil w size
  · refine ⟨h0, _, cap, rfl, hn, hm, fun j u hj => ⟨g, 0, rfl, ?_⟩⟩
    have hjl : j < xs.length := by
      rcases Nat.lt_or_ge j xs.length with h | h
      · exact h
      · simp [List.getElem?_eq_none h] at hj
    rw [← ht] at hj
    simp only [World.cell?, hg, Nat.zero_add]
    rw [List.getElem?_take] at hj
    split at hj
    · simpa using hj
    · simp at hj
def RdB (w : World) (v : Value) (l : List UInt8) : Prop := Rd w 1 v l.length (l.map bv)
theorem RdB.nil (w : World) : RdB w (.slice none 0 0) [] := Rd.nil w 1
theorem RdB.kept {S : Nat → Prop} {a b : World} (h : Kept S a b) {v : Value} {l : List UInt8} (hr : RdB a v l) (hd : ∀ k, blk v k → ¬ S k) : RdB b v l := Rd.kept h hr hd
theorem RdB.open {w : World} {v : Value} {l : List UInt8} (h : RdB w v l) : ∃ a cap, v = .slice a l.length cap ∧ l.length ≤ cap ∧ cap ≤ maxLen ∧
    ∀ j (hj : j < l.length), ∃ g off, a = some ⟨g, off, none⟩ ∧ w.cell? ⟨g, off + j, none⟩ = some (.int .u8 ((l[j]).toNat : Int)) := by
  obtain ⟨_, a, cap, rfl, h1, h2, h3⟩ := h
  exact ⟨a, cap, rfl, h1, h2, fun j hj => h3 j _ (by rw [List.getElem?_map, List.getElem?_eq_getElem hj]; rfl)⟩
theorem Rd.take {w : World} {size n cap : Nat} {a : Option Addr} {xs : List Value} (h : Rd w size (.slice a n cap) n xs) (k : Nat) (hk : k ≤ n) : Rd w size (.slice a k cap) k (xs.take (k * size)) := by
  obtain ⟨h0, a', c', e, h1, h2, h3⟩ := h
  cases e
  have hle := Nat.mul_le_mul_right size hk
  refine ⟨by rw [List.length_take]; omega, a, cap, rfl, by omega, h2, fun j u hj => h3 j u ?_⟩
  rw [List.getElem?_take] at hj
  split at hj
  · exact hj
  · cases hj
theorem RdB.take {w : World} {n cap : Nat} {a : Option Addr} {l : List UInt8} (h : RdB w (.slice a n cap) l) (k : Nat) (hk : k ≤ n) : RdB w (.slice a k cap) (l.take k) := by
  have hn : n = l.length := by
    obtain ⟨_, _, _, e, _⟩ := h
    cases e; rfl
  subst hn
  have := Rd.take h k hk
  rw [Nat.mul_one, ← List.map_take] at this
  have hl : (l.take k).length = k := by rw [List.length_take]; omega
  unfold RdB
  rw [hl]
  exact this
theorem RdB.alloc {w : World} {v : Value} {l : List UInt8} (h : RdB w v l) (o : Obj) : RdB (w.alloc o) v l := Rd.alloc h o
theorem RdB.mark (w : World) (l : List UInt8) (e : TypeId) (fr : Nat × Nat) (g n : Nat) (hg : g = w.heap.size) (hn : n = l.length) (hm : n ≤ maxLen) : RdB (w.alloc (.cells (l.map bv).toArray e fr)) (.slice (some ⟨g, 0, none⟩) n n) l := by
  subst hn; subst hg
  refine ⟨by simp, _, _, rfl, Nat.le_refl _, hm, fun j u hj => ⟨_, _, rfl, ?_⟩⟩
  rw [World.cell?_alloc_mark]
  simpa using hj
theorem RdB.lit (w : World) (l : List UInt8) (e : TypeId) (n : Nat) (hn : n = l.length) (hm : n ≤ maxLen) : RdB (w.alloc (.cells (l.map bv).toArray e)) (.slice (some ⟨w.heap.size, 0, none⟩) n n) l :=
  RdB.mark w l e (0, 0) _ n rfl hn hm
def lo (n : Nat) : UInt8 := UInt8.ofNat n
theorem lo_toNat (n : Nat) : (lo n).toNat = n % 256 := by simp [lo]
theorem bv_lo (n : Nat) : bv (lo n) = .int .u8 ((n % 256 : Nat) : Int) := by unfold bv; rw [lo_toNat]
def be : Nat → Nat → List UInt8
  | 0, _ => []
  | k + 1, n => be k (n / 256) ++ [lo n]
theorem be_length (k n : Nat) : (be k n).length = k := by
  induction k generalizing n with
  | zero => rfl
  | succ k ih => simp [be, ih]
theorem be_add (j k n : Nat) : be (j + k) n = be j (n / 256 ^ k) ++ be k n := by
  induction k generalizing n with
  | zero => simp [be]
  | succ k ih =>
    rw [← Nat.add_assoc]
    show be (j + k) (n / 256) ++ [lo n] = _ ++ (be k (n / 256) ++ [lo n])
    rw [ih, Nat.div_div_eq_div_mul, ← Nat.pow_succ', List.append_assoc]
theorem lo_mod (n m : Nat) (h : m % 256 = 0) : lo (n % m) = lo n := by
  unfold lo
  apply UInt8.toNat_inj.1
  simp only [UInt8.toNat_ofNat']
  obtain ⟨q, rfl⟩ := Nat.dvd_of_mod_eq_zero h
  exact Nat.mod_mul_right_mod n 256 q
theorem be_mod (k n : Nat) : be k (n % 256 ^ k) = be k n := by
  induction k generalizing n with
  | zero => rfl
  | succ k ih =>
    show be k (n % 256 ^ (k + 1) / 256) ++ [lo _] = be k (n / 256) ++ [lo n]
    have h1 : n % 256 ^ (k + 1) / 256 = n / 256 % 256 ^ k := by
      rw [Nat.pow_succ', Nat.mod_mul_right_div_self]
    rw [h1, ih, lo_mod _ _ (by rw [Nat.pow_succ']; exact Nat.mul_mod_right _ _)]
theorem Rd.keptE {S : Nat → Prop} {a b : World} (h : Kept S a b) {size n : Nat} {v : Value} {xs : List Value} (hr : Rd a size v n xs) (hd : n ≠ 0 → ∀ k, blk v k → ¬ S k) : Rd b size v n xs := by
  by_cases hn : n = 0
  · subst hn
    obtain ⟨h0, ad, cap, rfl, h1, h2, _⟩ := hr
    obtain rfl : xs = [] := List.eq_nil_of_length_eq_zero (by simpa using h0)
    exact ⟨h0, ad, cap, rfl, h1, h2, fun j u hj => by simp at hj⟩
  · exact hr.kept h (hd hn)
theorem Rd.lt {w : World} {size n : Nat} {v : Value} {xs : List Value} (hr : Rd w size v n xs) (hp : 0 < size) (hn : n ≠ 0) : ∀ k, blk v k → k < w.heap.size := by
  intro k hk
  obtain ⟨h0, ad, cap, rfl, _, _, h3⟩ := hr
  have hl : 0 < xs.length := by rw [h0]; exact Nat.mul_pos (Nat.pos_of_ne_zero hn) hp
  obtain ⟨g, off, rfl, hc⟩ := h3 0 _ (List.getElem?_eq_getElem hl)
  rw [blk_some hk]
  exact World.block_lt_of_cell? w _ hc
theorem RdB.keptE {S : Nat → Prop} {a b : World} (h : Kept S a b) {v : Value} {l : List UInt8} (hr : RdB a v l) (hd : l.length ≠ 0 → ∀ k, blk v k → ¬ S k) : RdB b v l := Rd.keptE h hr hd
theorem RdB.lt {w : World} {v : Value} {l : List UInt8} (hr : RdB w v l) (hn : l.length ≠ 0) : ∀ k, blk v k → k < w.heap.size := Rd.lt hr (by decide) hn
theorem bytes_oneCell (l : List UInt8) : ∀ u ∈ l.map bv, u.oneCell' = true := by
  intro u hu
  obtain ⟨c, _, rfl⟩ := List.mem_map.1 hu
  rfl
structure ElemT (P : Program) (t e : TypeId) (size bytes : Nat) : Prop where
  und : P.underlying t = some (.slice e)
  info : ∃ i z, P.info? e = some i ∧ i.zero = some z ∧ i.size = size ∧ i.bytes = bytes ∧ z.cells.size = size
  pos : 0 < size
def Fresh (w : World) (v v' : Value) : Prop := ∀ k, blk v' k → blk v k ∨ w.heap.size ≤ k
theorem Fresh.refl (w : World) (v : Value) : Fresh w v v := fun _ h => .inl h
theorem run_app {P : Program} (w : World) {t e : TypeId} {size bytes : Nat} (E : ElemT P t e size bytes) (ty : TypeId)
    (v : Value) (n : Nat) (xs : List Value) (hown : w.ownsRow 0 e size v n xs) (y : Value) (m : Nat) (news : List Value) (hr : Rd w size y m news) (h1 : ∀ u ∈ news, u.oneCell' = true)
    (h63 : n + m ≤ maxLen) (hbytes : (n + m) * bytes ≤ 140737488355328) :
    ∃ v' w', (Builtin.append_ #[t, t] ty #[v, y]).run P w = .ok v' w' ∧ w'.ownsRow 0 e size v' (n + m) (xs ++ news) ∧ w.grownBy w' v.ownBlock ∧ Fresh w v v' := by
  obtain ⟨i, z, hi, hz, rfl, rfl, hzs⟩ := E.info
  obtain ⟨hl, ad, c, rfl, hmc, _, hcell⟩ := hr
  by_cases hm : m = 0
  · subst hm
    obtain rfl : news = [] := List.eq_nil_of_length_eq_zero (by simpa using hl)
    refine ⟨v, w, ?_, by simpa using hown, ⟨rfl, rfl, rfl, Nat.le_refl _, fun _ _ _ => rfl⟩, Fresh.refl _ _⟩
    rcases hown.2 with ⟨rfl, rfl⟩ | ⟨g, cap, cur, rfl, _, _, hnc, _⟩
    · simp [Builtin.append_, run_underlying E.und, sizeOf, typeInfo, hi, Builtin.lenOf]
      cases ad <;> simp [Builtin.firstCells, loadCells, loadCellsFrom]
    · simp [Builtin.append_, run_underlying E.und, sizeOf, typeInfo, hi, Builtin.lenOf, hnc]
      cases ad <;> simp [Builtin.firstCells, loadCells, loadCellsFrom, storeCells]
  · have hpos : 0 < news.length := by rw [hl]; exact Nat.mul_pos (by omega) E.pos
    obtain ⟨g0, off0, rfl, _⟩ := hcell 0 _ (List.getElem?_eq_getElem hpos)
    have hnews : ∀ j u, news[j]? = some u → w.cell? ((⟨g0, off0, none⟩ : Addr).add j) = some u := by
      intro j u hj
      obtain ⟨g, off, e, hc⟩ := hcell j u hj
      cases e
      have e : ((⟨g0, off0, none⟩ : Addr).add j) = ⟨g0, off0 + j, none⟩ := by unfold Addr.add; split <;> simp_all
      rw [e]; exact hc
    obtain ⟨v', w', hrun, ho, hg, _⟩ := run_append_own (P := P) w 0 t ty e i z i.size i.bytes E.und hi hz rfl rfl hzs E.pos v n xs hown ⟨g0, off0, none⟩ m c news hl hnews h1 h63 hbytes (Nat.zero_le _)
    refine ⟨v', w', hrun, ho, hg, ?_⟩
    rcases hown.2 with ⟨rfl, rfl⟩ | ⟨g, cap, cur, rfl, hbg, hgc, hnc, hcm, hcs, htake⟩
    · have hr := run_append_nil (P := P) w t ty e i z E.und hi hz ⟨g0, off0, none⟩ m c news hl hnews (by omega) (by unfold maxLen at h63; omega) (by simp only [Nat.zero_add] at hbytes; omega)
      rw [hr] at hrun
      cases hrun
      intro k hk
      cases hk
      exact .inr (Nat.le_refl _)
    · by_cases hroom : n + m ≤ cap
      · have hfit : n * i.size + news.length ≤ cur.size := by rw [hl, hcs, ← Nat.add_mul]; exact Nat.mul_le_mul_right _ hroom
        have hr := run_append_room (P := P) w t ty e i E.und hi g n cap cur hgc ⟨g0, off0, none⟩ m c news hl hnews h1 hroom hfit
        rw [hr] at hrun
        cases hrun
        intro k hk
        exact .inl hk
      · have hr := run_append_grow (P := P) w t ty e i z E.und hi hz ⟨g, 0, none⟩ n cap xs hown.1 (hown.cells (g := g) rfl) ⟨g0, off0, none⟩ m c news hl hnews (by omega) (by unfold maxLen at h63; omega) (growslice_fits (by omega) hbytes)
        rw [hr] at hrun
        cases hrun
        intro k hk
        cases hk
        exact .inr (Nat.le_refl _)
theorem wpList_app {P : Program} {w : World} {ops : Array Oper} {rest : List Oper} {o : Oper} {a : Act} {Q : Exit → Act → World → Prop} (hw : Region.wanted o (yielded ops a.tmps) = true) (s x : Operand) (t : TypeId)
    (ho : o.op = .call { callee := .builtin .append, args := #[s, x], argTypes := #[t, t] })
    {e : TypeId} {size bytes : Nat} (E : ElemT P t e size bytes) (v : Value) (n : Nat) (xs : List Value) (hs : a.eval s = v) (hown : w.ownsRow 0 e size v n xs)
    (y : Value) (m : Nat) (news : List Value) (hx : a.eval x = y) (hr : Rd w size y m news) (h1 : ∀ u ∈ news, u.oneCell' = true)
    (h63 : n + m ≤ maxLen) (hbytes : (n + m) * bytes ≤ 140737488355328)
    (h : ∀ ad cap w', w'.ownsRow 0 e size (.slice ad (n + m) cap) (n + m) (xs ++ news) → w.grownBy w' v.ownBlock → Fresh w v (.slice ad (n + m) cap) → wpList P ops Q rest (a.put o.dst (.slice ad (n + m) cap)) w') : wpList P ops Q (o :: rest) a w := by
  refine wpList_step fun K hK => ?_
  rw [if_pos hw]
  obtain ⟨v', w', hrun, h2, h3, h4⟩ := run_app (P := P) w E o.type v n xs hown y m news hr h1 h63 hbytes
  obtain ⟨ad, cap, rfl⟩ : ∃ ad cap, v' = .slice ad (n + m) cap := by
    rcases h2.2 with ⟨hv, hn⟩ | ⟨g, cap, _, hv, _⟩
    · exact ⟨none, 0, by rw [hv, hn]⟩
    · exact ⟨_, _, hv⟩
  unfold Oper.wp execOp
  simp only [ho, resolve, invoke, builtin, Sem.run_bind, Sem.run_pure, Result.andThen_ok, List.map_toArray, List.map_cons, List.map_nil, hs, hx, hrun]
  exact hK _ _ (h _ _ w' h2 h3 h4)
theorem ElemT.of {P : Program} {t e : TypeId} {z : Value} {size bytes : Nat} (h : P.underlying t = some (.slice e)) (hi : (P.info? e).map (fun i => (i.zero, i.size, i.bytes)) = some (some z, size, bytes))
    (hz : z.cells.size = size) (hp : 0 < size) : ElemT P t e size bytes := by
  obtain ⟨i, h1, h2, h3, h4⟩ := info_parts hi
  exact ⟨h, ⟨i, z, h1, h2, h3, h4, hz⟩, hp⟩
theorem heap_cell {w : World} {b : Nat} {c : Array Value} {T : TypeId} (h : w.heap[b]? = some (.cells c T (0, 0))) (i : Nat) : w.cell? ⟨b, i, none⟩ = c[i]? := by
  simp [World.cell?, h]
theorem heap_free {w : World} {b : Nat} {c : Array Value} {T : TypeId} (h : w.heap[b]? = some (.cells c T (0, 0))) (i : Nat) : w.frozen? ⟨b, i, none⟩ = false := by
  simp [World.frozen?, h]
theorem heap_lt {w : World} {b : Nat} {o : Obj} (h : w.heap[b]? = some o) : b < w.heap.size := by
  rcases Nat.lt_or_ge b w.heap.size with h' | h'
  · exact h'
  · simp [Array.getElem?_eq_none h'] at h
theorem heap_set {w : World} {b : Nat} {c : Array Value} {T : TypeId} {f : Nat × Nat} (h : w.heap[b]? = some (.cells c T f)) (i : Nat) (u : Value) :
    (w.setCell ⟨b, i, none⟩ u).heap[b]? = some (.cells (c.setIfInBounds i u) T f) := by
  simp [World.setCell, Array.getElem?_modify, h]
theorem heap_alloc (w : World) (o : Obj) : (w.alloc o).heap[w.heap.size]? = some o := by
  show (w.heap.push o)[w.heap.size]? = _
  simp
theorem own_of_heap {w w' : World} {base e size n : Nat} {v : Value} {xs : List Value} (h : w.ownsRow base e size v n xs) (hb : ∀ g, blk v g → w'.heap[g]? = w.heap[g]?) : w'.ownsRow base e size v n xs := by
  obtain ⟨h1, h2⟩ := h
  refine ⟨h1, ?_⟩
  rcases h2 with h2 | ⟨g, cap, cur, hv, hg, hh, r⟩
  · exact .inl h2
  · exact .inr ⟨g, cap, cur, hv, hg, by rw [hb g (by rw [hv]; rfl)]; exact hh, r⟩
theorem own_lt {w : World} {base e size n : Nat} {v : Value} {xs : List Value} (h : w.ownsRow base e size v n xs) : ∀ g, blk v g → g < w.heap.size := fun g hg => (h.lt g hg).2
theorem own_setCell {w : World} {base e size n : Nat} {v : Value} {xs : List Value} (h : w.ownsRow base e size v n xs) {p : Addr} (hp : ¬ blk v p.block) (u : Value) : (w.setCell p u).ownsRow base e size v n xs :=
  own_of_heap h fun _ hg => Below.heap_setCell _ _ _ _ (fun e => hp (e ▸ hg))
theorem own_kept {S : Nat → Prop} {a b : World} (hk : Kept S a b) {base e size n : Nat} {v : Value} {xs : List Value} (h : a.ownsRow base e size v n xs) (hd : ∀ g, blk v g → ¬ S g) : b.ownsRow base e size v n xs :=
  own_of_heap h fun g hg => hk.block g (own_lt h g hg) (hd g hg)
theorem grown_heap {a b : World} {row : Option Nat} (h : a.grownBy b row) {k : Nat} {o : Obj} (hc : a.heap[k]? = some o) (hp : row ≠ some k) : b.heap[k]? = some o := by
  rw [h.block k (heap_lt hc) (fun e => hp e.symm)]; exact hc
structure RowAt (w : World) (g : Nat) (xs : List Value) : Prop where
  cell : ∀ j u, xs[j]? = some u → w.cell? ⟨g, j, none⟩ = some u
  free : ∀ j, j < xs.length → w.frozen? ⟨g, j, none⟩ = false
theorem RowAt.rd {w : World} {g : Nat} {xs : List Value} (h : RowAt w g xs) (size n cap : Nat) (hl : xs.length = n * size) (hc : n ≤ cap) (hm : cap ≤ maxLen) : Rd w size (.slice (some ⟨g, 0, none⟩) n cap) n xs :=
  ⟨hl, _, cap, rfl, hc, hm, fun j u hj => ⟨g, 0, rfl, by rw [Nat.zero_add]; exact h.cell j u hj⟩⟩
theorem wpList_bytes {P : Program} {w : World} {ops : Array Oper} {rest : List Oper} {o : Oper} {a : Act} {Q : Exit → Act → World → Prop} (hw : Region.wanted o (yielded ops a.tmps) = true) (src dst : TypeId) (x : Operand)
    (ho : o.op = .convert src dst x) (s : ByteArray) (hx : a.eval x = .string s) {e : TypeId} (hs : P.underlying src = some .string) (hd : P.underlying dst = some (.slice e)) (he : P.underlying e = some (.int .u8)) (hm : s.size ≤ maxLen)
    (h : ∀ g cap w', Hid (g = w.heap.size) → RowAt w' g (s.data.toList.map bv) → RdB w' (.slice (some ⟨g, 0, none⟩) s.size cap) s.data.toList → Kept (fun _ => False) w w' → Hid (w'.heap.size = w.heap.size + 1) → wpList P ops Q rest (a.put o.dst (.slice (some ⟨g, 0, none⟩) s.size cap)) w') : wpList P ops Q (o :: rest) a w := by
  refine wpList_step fun K hK => ?_
  rw [if_pos hw]
  have hrun := Go.Lib.run_convert_string_bytes (P := P) w src dst e s hs hd he
  have hrow : RowAt (Go.Lib.bytesWorld w e s) w.heap.size (s.data.toList.map bv) := by
    refine ⟨fun j u hj => ?_, fun j hj => ?_⟩
    · rw [List.getElem?_map] at hj
      have hjl : j < s.data.toList.length := by
        rcases Nat.lt_or_ge j s.data.toList.length with h | h
        · exact h
        · simp [List.getElem?_eq_none h] at hj
      rw [Go.Lib.bytesWorld_cell w e s j (by simpa using hjl)]
      rw [List.getElem?_eq_getElem hjl] at hj
      simp only [Option.map_some, Option.some.injEq] at hj
      rw [← hj, List.getD_eq_getElem?_getD, List.getElem?_eq_getElem hjl]; rfl
    · have hjl : j < s.size := by simpa using hj
      simp only [World.frozen?, Go.Lib.bytesWorld_at_new]
      have : s.size ≤ (Go.Lib.bytesCells w e s).size := by
        simp only [Go.Lib.bytesCells, Array.size_append, Array.size_map, Array.size_replicate]
        have : s.data.size = s.size := rfl
        omega
      simp; omega
  have hk : Kept (fun _ => False) w (Go.Lib.bytesWorld w e s) :=
    ⟨rfl, rfl, rfl, by rw [Go.Lib.bytesWorld_size]; omega, fun k hk _ => Go.Lib.bytesWorld_at_old w e s k hk⟩
  unfold Oper.wp execOp
  simp only [ho, Sem.run_bind, Sem.run_pure, Result.andThen_ok, hx, hrun]
  refine hK _ _ (h _ _ _ (hid rfl) hrow ?_ hk (hid (Go.Lib.bytesWorld_size w e s)))
  have hl : s.data.toList.length = s.size := by simp
  have := hrow.rd 1 s.size (grownCap w s.size 0 e) (by simp) (grownCap_ge _ _ _ _) (grownCap_le_maxLen _ _ _ _ hm)
  unfold RdB
  rw [hl]
  exact this
theorem run_str {P : Program} {w : World} {src dst e : TypeId} {v : Value} {l : List UInt8} (hr : RdB w v l) (hs : P.underlying src = some (.slice e)) (he : P.underlying e = some (.int .u8)) (hd : P.underlying dst = some .string) :
    (convert src dst v).run P w = .ok (.string ⟨l.toArray⟩) w := by
  obtain ⟨ad, cap, rfl, _, _, hc⟩ := hr.open
  by_cases hl : l = []
  · subst hl
    rw [run_convert_bytes_string w src dst e _ _ _ hs he hd]
    cases ad <;> simp [Conv.bytesToString, loadCells] <;> rfl
  · obtain ⟨g, off, rfl, _⟩ := hc 0 (List.length_pos_iff.2 hl)
    refine run_convert_bytes_back w src dst e ⟨g, off, none⟩ cap l hs he hd fun j hj => ?_
    obtain ⟨g', off', e', hcell⟩ := hc j hj
    cases e'
    have e2 : ((⟨g, off, none⟩ : Addr).add j) = ⟨g, off + j, none⟩ := by unfold Addr.add; split <;> simp_all
    rw [e2]; exact hcell
theorem wpList_str {P : Program} {w : World} {ops : Array Oper} {rest : List Oper} {o : Oper} {a : Act} {Q : Exit → Act → World → Prop} (hw : Region.wanted o (yielded ops a.tmps) = true) (src dst : TypeId) (x : Operand)
    (ho : o.op = .convert src dst x) (v : Value) (l : List UInt8) (hx : a.eval x = v) (hr : RdB w v l) {e : TypeId} (hs : P.underlying src = some (.slice e)) (he : P.underlying e = some (.int .u8)) (hd : P.underlying dst = some .string)
    (h : wpList P ops Q rest (a.put o.dst (.string ⟨l.toArray⟩)) w) : wpList P ops Q (o :: rest) a w := by
  refine wpList_step fun K hK => ?_
  rw [if_pos hw]
  have hrun := run_str (P := P) hr hs he hd
  unfold Oper.wp execOp
  simp only [ho, Sem.run_bind, Sem.run_pure, Result.andThen_ok, hx, hrun]
  exact hK _ _ h
theorem flatMap_get {α β : Type} (f : α → List β) (size : Nat) : ∀ (ys : List α) (_ : ∀ y ∈ ys, (f y).length = size) (k : Nat) (hk : k < ys.length) (j : Nat) (_ : j < size), (ys.flatMap f)[k * size + j]? = (f ys[k])[j]?
  | [], _, k, hk, _, _ => by simp at hk
  | y :: ys, hs, 0, _, j, hj => by
    rw [List.flatMap_cons, List.getElem?_append, if_pos (by rw [hs y (List.mem_cons_self ..)]; omega)]
    simp
  | y :: ys, hs, k + 1, hk, j, hj => by
    have hy := hs y (List.mem_cons_self ..)
    rw [List.flatMap_cons, List.getElem?_append, if_neg (by rw [hy, Nat.succ_mul]; omega), hy, show (k + 1) * size + j - size = k * size + j by rw [Nat.succ_mul]; omega,
      flatMap_get f size ys (fun z hz => hs z (List.mem_cons_of_mem _ hz)) k (by simpa using hk) j hj]
    simp
theorem flatMap_length {α β : Type} (f : α → List β) (size : Nat) : ∀ (ys : List α) (_ : ∀ y ∈ ys, (f y).length = size), (ys.flatMap f).length = ys.length * size
  | [], _ => by simp
  | y :: ys, hs => by
    rw [List.flatMap_cons, List.length_append, hs y (List.mem_cons_self ..), flatMap_length f size ys (fun z hz => hs z (List.mem_cons_of_mem _ hz)), List.length_cons, Nat.succ_mul, Nat.add_comm]
theorem Rd.elem {α : Type} {f : α → List Value} {w : World} {size : Nat} {a : Option Addr} {n cap : Nat} {ys : List α} (h : Rd w size (.slice a n cap) ys.length (ys.flatMap f)) (hs : ∀ y ∈ ys, (f y).length = size) (hp : 0 < size) (k : Nat) (hk : k < ys.length) :
    ∃ g off, a = some ⟨g, off, none⟩ ∧ w.cell? ⟨g, off + k * size, none⟩ = (f ys[k])[0]? ∧ ∀ j, j < size → w.cell? ⟨g, off + k * size + j, none⟩ = (f ys[k])[j]? := by
  obtain ⟨_, a', cap', e, _, _, hc⟩ := h
  cases e
  have each : ∀ j, j < size → ∃ g off, a = some ⟨g, off, none⟩ ∧ w.cell? ⟨g, off + (k * size + j), none⟩ = (f ys[k])[j]? := by
    intro j hj
    have hfl := flatMap_get f size ys hs k hk j hj
    have hjl : j < (f ys[k]).length := by rw [hs _ (List.getElem_mem hk)]; exact hj
    obtain ⟨g, off, e, hcell⟩ := hc (k * size + j) _ (hfl.trans (List.getElem?_eq_getElem hjl))
    exact ⟨g, off, e, by rw [hcell, List.getElem?_eq_getElem hjl]⟩
  obtain ⟨g, off, rfl, h0⟩ := each 0 hp
  refine ⟨g, off, rfl, by simpa using h0, fun j hj => ?_⟩
  obtain ⟨g', off', e, hj'⟩ := each j hj
  cases e
  rw [Nat.add_assoc]; exact hj'
theorem Rd.lit (w : World) (cs : List Value) (e : TypeId) (size g n : Nat) (hg : g = w.heap.size) (hl : cs.length = n * size) (hm : n ≤ maxLen) : Rd (w.alloc (.cells cs.toArray e)) size (.slice (some ⟨g, 0, none⟩) n n) n cs := by
  subst hg
  refine ⟨hl, _, _, rfl, Nat.le_refl _, hm, fun j u hj => ⟨_, _, rfl, ?_⟩⟩
  rw [World.cell?_alloc_new]
  simpa using hj
theorem own_cell {w : World} {e size g n cap : Nat} {xs : List Value} (h : w.ownsRow 0 e size (.slice (some ⟨g, 0, none⟩) n cap) n xs) (j : Nat) (u : Value) (hj : xs[j]? = some u) (hs : j < n * size) : w.cell? ⟨g, j, none⟩ = some u := by
  rw [h.cellAt j hs]; exact hj
theorem run_apps {P : Program} (w : World) {t u e : TypeId} {i : TypeInfo} (ht : P.underlying t = some (.slice e)) (hu : P.underlying u = some .string) (hi : P.info? e = some i) (hz : i.zero = some (.int .u8 0)) (hsize : i.size = 1) (hby : i.bytes = 1) (ty : TypeId)
    (v : Value) (n : Nat) (xs : List Value) (hown : w.ownsRow 0 e 1 v n xs) (s : ByteArray) (hbytes : n + s.size ≤ 140737488355328) :
    ∃ v' w', (Builtin.append_ #[t, u] ty #[v, .string s]).run P w = .ok v' w' ∧ w'.ownsRow 0 e 1 v' (n + s.size) (xs ++ s.data.toList.map bv) ∧ w.grownBy w' v.ownBlock ∧ Fresh w v v' := by
  have h63 : n + s.size ≤ maxLen := by unfold maxLen; omega
  rcases hown.2 with ⟨rfl, rfl⟩ | ⟨g, cap, cur, rfl, hbg, hgc, hnc, hcm, hcs, htake⟩
  · obtain ⟨v', w', hrun, ho, hg, _⟩ := Go.Lib.run_append_own_string (P := P) w w.heap.size t u ty e i ht hu hi hz hsize hby (.slice none 0 0) 0 xs ⟨hown.1, .inl ⟨rfl, rfl⟩⟩ s h63 hbytes (Nat.le_refl _)
    refine ⟨v', w', hrun, ?_, hg, fun k hk => .inr (ho.lt k hk).1⟩
    obtain ⟨h1, h2⟩ := ho
    refine ⟨h1, ?_⟩
    rcases h2 with h2 | ⟨g, cap, cur, a, _, b⟩
    · exact .inl h2
    · exact .inr ⟨g, cap, cur, a, Nat.zero_le _, b⟩
  · obtain ⟨v', w', hrun, ho, hg, _⟩ := Go.Lib.run_append_own_string (P := P) w 0 t u ty e i ht hu hi hz hsize hby _ n xs hown s h63 hbytes (Nat.zero_le _)
    refine ⟨v', w', hrun, ho, hg, ?_⟩
    by_cases hroom : n + s.size ≤ cap
    · have hr := Go.Lib.run_append_room_string (P := P) w t u ty e i ht hu hi hsize g n cap cur hgc s hroom (by rw [hcs]; omega)
      rw [hr] at hrun
      cases hrun
      exact fun k hk => .inl hk
    · have hr := Go.Lib.run_append_grow_string (P := P) w t u ty e i _ ht hu hi hz ⟨g, 0, none⟩ n cap xs (by rw [hsize]; exact hown.1) (hown.cells (g := g) rfl) s (by omega) (by unfold maxLen at h63; omega) (growslice_fits (by omega) (by rw [hby]; omega))
      rw [hr] at hrun
      cases hrun
      intro k hk
      exact .inr (by rw [blk_some hk]; exact Nat.le_refl _)
theorem wpList_apps {P : Program} {w : World} {ops : Array Oper} {rest : List Oper} {o : Oper} {a : Act} {Q : Exit → Act → World → Prop} (hw : Region.wanted o (yielded ops a.tmps) = true) (sl x : Operand) (t u : TypeId)
    (ho : o.op = .call { callee := .builtin .append, args := #[sl, x], argTypes := #[t, u] })
    {e : TypeId} {i : TypeInfo} (ht : P.underlying t = some (.slice e)) (hu : P.underlying u = some .string) (hi : P.info? e = some i) (hz : i.zero = some (.int .u8 0)) (hsize : i.size = 1) (hby : i.bytes = 1)
    (v : Value) (n : Nat) (xs : List Value) (hs : a.eval sl = v) (hown : w.ownsRow 0 e 1 v n xs) (s : ByteArray) (hx : a.eval x = .string s) (hbytes : n + s.size ≤ 140737488355328)
    (h : ∀ ad cap w', w'.ownsRow 0 e 1 (.slice ad (n + s.size) cap) (n + s.size) (xs ++ s.data.toList.map bv) → w.grownBy w' v.ownBlock → Fresh w v (.slice ad (n + s.size) cap) → wpList P ops Q rest (a.put o.dst (.slice ad (n + s.size) cap)) w') : wpList P ops Q (o :: rest) a w := by
  refine wpList_step fun K hK => ?_
  rw [if_pos hw]
  obtain ⟨v', w', hrun, h2, h3, h4⟩ := run_apps (P := P) w ht hu hi hz hsize hby o.type v n xs hown s hbytes
  obtain ⟨ad, cap, rfl⟩ : ∃ ad cap, v' = .slice ad (n + s.size) cap := by
    rcases h2.2 with ⟨hv, hn⟩ | ⟨g, cap, _, hv, _⟩
    · exact ⟨none, 0, by rw [hv, hn]⟩
    · exact ⟨_, _, hv⟩
  unfold Oper.wp execOp
  simp only [ho, resolve, invoke, builtin, Sem.run_bind, Sem.run_pure, Result.andThen_ok, List.map_toArray, List.map_cons, List.map_nil, hs, hx, hrun]
  exact hK _ _ (h _ _ w' h2 h3 h4)
theorem RdB.of_own {w : World} {base e n : Nat} {v : Value} {l : List UInt8} (h : w.ownsRow base e 1 v n (l.map bv)) (hn : n = l.length) : RdB w v l := by
  subst hn; exact Rd.own h
theorem own_slice {w : World} {base e size n : Nat} {v : Value} {xs : List Value} (h : w.ownsRow base e size v n xs) : ∃ ad cap, v = .slice ad n cap ∧ n ≤ cap ∧ cap ≤ maxLen ∧ (0 < n → ∃ g, ad = some ⟨g, 0, none⟩) := by
  rcases h.2 with ⟨hv, hn⟩ | ⟨g, cap, _, hv, _, _, h1, h2, _⟩
  · exact ⟨none, 0, by rw [hv, hn], by omega, by unfold maxLen; omega, fun h => by omega⟩
  · exact ⟨_, cap, hv, h1, h2, fun _ => ⟨g, rfl⟩⟩
theorem ret_int {k : IntKind} {a b : Int} (h : a = b) : Ending.returned (.int k a) = .returned (.int k b) := by rw [h]
theorem take_snoc {α : Type} (l : List α) (k : Nat) (h : k < l.length) : l.take (k + 1) = l.take k ++ [l[k]] := by
  rw [List.take_succ_eq_append_getElem h]
end Go.Lw
