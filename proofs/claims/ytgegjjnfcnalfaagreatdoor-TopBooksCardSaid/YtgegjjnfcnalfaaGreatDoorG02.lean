/- Of the proof of TopBooks: Slice, Bytes, AppZ, Copy, Soft. -/
import Derived.Test.YtgegjjnfcnalfaaGreatDoorG00
import Derived.Test.YtgegjjnfcnalfaaGreatDoorG01
import Derived.Laws.CopyOwn
namespace Go.Lw
open Go Go.RowKit
theorem Rd.sliced {w : World} {size n cap : Nat} {a : Option Addr} {xs : List Value} (h : Rd w size (.slice a n cap) n xs) (l hi : Nat) (hl : l ≤ hi) (hh : hi ≤ n) :
    Rd w size (sliced a l hi cap size) (hi - l) ((xs.drop (l * size)).take ((hi - l) * size)) := by
  obtain ⟨h0, a', c', e, h1, h2, h3⟩ := h
  cases e
  unfold Go.sliced
  refine ⟨?_, _, cap - l, rfl, by omega, by omega, fun j u hj => ?_⟩
  · rw [List.length_take, List.length_drop, h0, ← Nat.sub_mul]
    exact Nat.min_eq_left (Nat.mul_le_mul_right _ (by omega))
  · rw [List.getElem?_take] at hj
    split at hj
    · rename_i hjl
      rw [List.getElem?_drop] at hj
      obtain ⟨g, off, rfl, hc⟩ := h3 _ u hj
      have hne : cap ≠ l := by
        intro e
        have : hi - l = 0 := by omega
        rw [this] at hjl; simp at hjl
      rw [if_neg hne]
      by_cases hz : l * size = 0
      · refine ⟨g, off, ?_, ?_⟩
        · simp [Addr.add, hz]
        · rw [hz, Nat.zero_add] at hc; exact hc
      · refine ⟨g, off + l * size, ?_, ?_⟩
        · simp [Addr.add, hz]
        · rw [Nat.add_assoc]; exact hc
    · cases hj
theorem blk_sliced {a : Option Addr} {l hi cap size n c : Nat} {k : Nat} (h : blk (sliced a l hi cap size) k) : blk (.slice a n c) k := by
  unfold Go.sliced at h
  cases a with
  | none => split at h <;> exact (blk_none h).elim
  | some a =>
    have e : k = a.block := by
      split at h
      · exact blk_some h
      · have := blk_some h
        rw [this]; unfold Addr.add; split <;> rfl
    subst e; rfl
theorem run_sizeOf {P : Program} {t e : TypeId} {size bytes : Nat} (E : ElemT P t e size bytes) (w : World) : (sizeOf e).run P w = .ok size w := by
  obtain ⟨i, z, hi, _, hs, _⟩ := E.info
  simp [sizeOf, typeInfo, hi, hs]
theorem elem_of {P : Program} {t e : TypeId} (h : P.underlying t = some (.slice e)) : P.underlying t = some (.slice (P.elem t)) := by
  have : P.elem t = e := by simp [Program.elem, h]
  rw [this]; exact h
section
variable {P : Program} {w : World} {ops : Array Oper} {rest : List Oper} {o : Oper} {a : Act} {Q : Exit → Act → World → Prop}
theorem wpList_slice_l (hw : Region.wanted o (yielded ops a.tmps) = true) (t : TypeId) (x lo : Operand) (ho : o.op = .slice t x (some lo) none none)
    {e : TypeId} {size bytes : Nat} (E : ElemT P t e size bytes) (v : Value) (n : Nat) (xs : List Value) (kl : IntKind) (L : Int) (l : Nat) (hx : a.eval x = v) (hl : a.eval lo = .int kl L) (hr : Rd w size v n xs)
    (hL : L = (l : Int)) (h1 : l ≤ n)
    (hk : ∀ ad c, Rd w size (.slice ad (n - l) c) (n - l) (xs.drop (l * size)) → (∀ k, blk (.slice ad (n - l) c) k → blk v k) → wpList P ops Q rest (a.put o.dst (.slice ad (n - l) c)) w) : wpList P ops Q (o :: rest) a w := by
  refine wpList_step fun K hK => ?_
  rw [if_pos hw]
  obtain ⟨h0, ad, cap, rfl, hnc, hcm, hc⟩ := id hr
  subst hL
  have ee : P.elem t = e := by simp [Program.elem, E.und]
  have hrun := run_slice_l (P := P) w t ad n cap (elem_of E.und) kl (l : Int) (by omega) (by omega)
  rw [ee, run_sizeOf E] at hrun
  simp only [Result.andThen_ok, Int.toNat_natCast] at hrun
  unfold Oper.wp execOp
  simp only [ho, hx, hl, Option.map_some, Option.map_none, run_sliceAt_slice (P := P) w t _ _ _ _ (elem_of E.und), hrun, Sem.run_bind, Sem.run_pure, Result.andThen_ok]
  have hrd := Rd.sliced hr l n h1 (Nat.le_refl _)
  rw [List.take_of_length_le (by rw [List.length_drop, h0, ← Nat.sub_mul]; exact Nat.le_refl _)] at hrd
  exact hK _ _ (hk _ _ hrd (fun k hb => blk_sliced hb))
theorem wpList_slice_h (hw : Region.wanted o (yielded ops a.tmps) = true) (t : TypeId) (x hi : Operand) (ho : o.op = .slice t x none (some hi) none)
    {e : TypeId} {size bytes : Nat} (E : ElemT P t e size bytes) (v : Value) (n : Nat) (xs : List Value) (kh : IntKind) (H : Int) (h : Nat) (hx : a.eval x = v) (hh : a.eval hi = .int kh H) (hr : Rd w size v n xs)
    (hH : H = (h : Int)) (h2 : h ≤ n)
    (hk : ∀ ad c, Rd w size (.slice ad h c) h (xs.take (h * size)) → (∀ k, blk (.slice ad h c) k → blk v k) → wpList P ops Q rest (a.put o.dst (.slice ad h c)) w) : wpList P ops Q (o :: rest) a w := by
  refine wpList_step fun K hK => ?_
  rw [if_pos hw]
  obtain ⟨h0, ad, cap, rfl, hnc, hcm, hc⟩ := id hr
  subst hH
  have ee : P.elem t = e := by simp [Program.elem, E.und]
  have hrun := run_slice_h (P := P) w t ad n cap (elem_of E.und) kh (h : Int) (by omega) (by omega)
  rw [ee, run_sizeOf E] at hrun
  simp only [Result.andThen_ok, Int.toNat_natCast] at hrun
  unfold Oper.wp execOp
  simp only [ho, hx, hh, Option.map_some, Option.map_none, run_sliceAt_slice (P := P) w t _ _ _ _ (elem_of E.und), hrun, Sem.run_bind, Sem.run_pure, Result.andThen_ok]
  have hrd := Rd.sliced hr 0 h (Nat.zero_le _) h2
  simp only [Nat.zero_mul, List.drop_zero, Nat.sub_zero] at hrd
  refine hK _ _ (hk _ _ hrd (fun k hb => blk_sliced hb))
end
theorem RdB.of_drop {w : World} {v : Value} {n : Nat} {l : List UInt8} (h : Rd w 1 v (l.length - n) ((l.map bv).drop (n * 1))) : RdB w v (l.drop n) := by
  unfold RdB; rw [List.length_drop, List.map_drop]; rw [Nat.mul_one] at h; exact h
theorem RdB.of_take {w : World} {v : Value} {n : Nat} {l : List UInt8} (hn : n ≤ l.length) (h : Rd w 1 v n ((l.map bv).take (n * 1))) : RdB w v (l.take n) := by
  unfold RdB; rw [List.length_take, List.map_take, Nat.min_eq_left hn]; rw [Nat.mul_one] at h; exact h
end Go.Lw
namespace Go.Lw
set_option linter.unusedSimpArgs false
open Go Go.RowKit
section
variable {P : Program}
def zeroStr (m : Nat) : ByteArray := ⟨(List.replicate m 0).toArray⟩
theorem zeroStr_size (m : Nat) : (zeroStr m).size = m := by show (List.replicate m (0 : UInt8)).toArray.size = m; simp
theorem z1 (m : Nat) : List.take m (List.map (fun b => Value.int .u8 (b.toNat : Int)) (zeroStr m).data.toList) = List.replicate m (.int .u8 0) := by simp [zeroStr]
theorem z2 (m : Nat) : (Builtin.zeroCells (Value.int .u8 0).cells m) = (List.replicate m (Value.int .u8 0)).toArray := by
  apply Array.ext
  · simp [Builtin.zeroCells, Value.cells]
  · intro i h1 h2
    simp [Builtin.zeroCells, Value.cells, Nat.mod_one]
theorem z3 (m : Nat) : (Array.map (fun b => Value.int .u8 (b.toNat : Int)) (zeroStr m).data).extract 0 m = (List.replicate m (Value.int .u8 0)).toArray := by
  apply Array.ext'
  simp [zeroStr]
theorem run_append_zeros (w : World) {t u ti e : TypeId} {i : TypeInfo} (ht : P.underlying t = some (.slice e)) (hu : P.underlying u = some .string) (hti : P.underlying ti = some (.int .i64)) (hi : P.info? e = some i) (hz : i.zero = some (.int .u8 0)) (hsize : i.size = 1) (hby : i.bytes = 1) (ty : TypeId)
    (b : Option Addr) (n c m : Nat) (hb : n + m ≤ 140737488355328) :
    (Builtin.append_ #[t, ti] ty #[.slice b n c, .int .i64 (m : Int)]).run P w = (Builtin.append_ #[t, u] ty #[.slice b n c, .string (zeroStr m)]).run P w := by
  have hw : IntKind.i64.wrap (m : Int) = (m : Int) := by rw [IntKind.wrap_i64]; omega
  have hl : ¬ (m : Int) < 0 := by omega
  have hl2 : ¬ ((281474976710656 : Int) < (m : Int)) := by omega
  have h63' : ¬ (9223372036854775807 < ((n : Int) + (m : Int))) := by omega
  have ha : ∀ w, Sem.run P (asIntOf (.int .i64 (m : Int))) w = .ok (.i64, (m : Int)) w := fun _ => rfl
  by_cases hn : n + m ≤ c
  · simp [Builtin.append_, run_underlying ht, run_underlying hu, run_underlying hti, sizeOf, typeInfo, zeroValue, hi, hz, Builtin.lenOf, hn, asInt, ha, hw, hl, hl2, hby, hsize, zeroStr_size, Builtin.firstCells]
    rw [z1, z2]
    split
    · subst m; rfl
    · rfl
  · have h48 : ¬ (281474976710656 < Builtin.nextslicecap (n + m) c * i.bytes) := by
      have := growslice_fits (need := n + m) (old := c) (bytes := i.bytes) (by omega) (by rw [hby]; omega)
      omega
    rw [hby, Nat.mul_one] at h48
    simp [Builtin.append_, run_underlying ht, run_underlying hu, run_underlying hti, sizeOf, typeInfo, zeroValue, hi, hz, Builtin.lenOf, hn, h63', h48, Question.forced, newRow, asInt, ha, hw, hl, hl2, hby, hsize, zeroStr_size, Builtin.firstCells]
    congr 1
    funext a w'
    simp only [z3, z2]
    split
    · subst m; simp
    · rfl
theorem wpList_appz {w : World} {ops : Array Oper} {rest : List Oper} {o : Oper} {a : Act} {Q : Exit → Act → World → Prop} (hw : Region.wanted o (yielded ops a.tmps) = true) (sl x : Operand) (t ti : TypeId)
    (ho : o.op = .call { callee := .builtin .append, args := #[sl, x], argTypes := #[t, ti] })
    {e u : TypeId} {i : TypeInfo} (ht : P.underlying t = some (.slice e)) (hu : P.underlying u = some .string) (hti : P.underlying ti = some (.int .i64)) (hi : P.info? e = some i) (hz : i.zero = some (.int .u8 0)) (hsize : i.size = 1) (hby : i.bytes = 1)
    (v : Value) (n : Nat) (xs : List Value) (hs : a.eval sl = v) (hown : w.ownsRow 0 e 1 v n xs) (m : Nat) (hx : a.eval x = .int .i64 (m : Int)) (hbytes : n + m ≤ 140737488355328)
    (h : ∀ ad cap w', w'.ownsRow 0 e 1 (.slice ad (n + m) cap) (n + m) (xs ++ List.replicate m (.int .u8 0)) → w.grownBy w' v.ownBlock → Fresh w v (.slice ad (n + m) cap) → wpList P ops Q rest (a.put o.dst (.slice ad (n + m) cap)) w') : wpList P ops Q (o :: rest) a w := by
  refine wpList_step fun K hK => ?_
  rw [if_pos hw]
  obtain ⟨v', w', hrun, h2, h3, h4⟩ := run_apps (P := P) w ht hu hi hz hsize hby o.type v n xs hown (zeroStr m) (by rw [zeroStr_size]; exact hbytes)
  obtain ⟨b, c, rfl, _, _, _⟩ := own_slice hown
  rw [← run_append_zeros w ht hu hti hi hz hsize hby o.type b n c m hbytes] at hrun
  have hz0 : (zeroStr m).data.toList.map bv = List.replicate m (.int .u8 0) := by simp [zeroStr, bv]
  rw [zeroStr_size, hz0] at h2
  obtain ⟨ad, cap, rfl, _, _, _⟩ := own_slice h2
  unfold Oper.wp execOp
  simp only [ho, resolve, invoke, builtin, Sem.run_bind, Sem.run_pure, Result.andThen_ok, List.map_toArray, List.map_cons, List.map_nil, hs, hx, hrun]
  exact hK _ _ (h _ _ w' h2 h3 h4)
end
end Go.Lw
namespace Go.Lw
open Go Go.RowKit
section
variable {P : Program} {w : World} {ops : Array Oper} {rest : List Oper} {o : Oper} {a : Act} {Q : Exit → Act → World → Prop}
theorem wpList_slice_own (hw : Region.wanted o (yielded ops a.tmps) = true) (t : TypeId) (x lo : Operand) (ho : o.op = .slice t x (some lo) none none)
    {e : TypeId} {bytes : Nat} (E : ElemT P t e 1 bytes) (v : Value) (n : Nat) (xs : List Value) (kl : IntKind) (L : Int) (l : Nat) (hx : a.eval x = v) (hl : a.eval lo = .int kl L) (hr : w.ownsRow 0 e 1 v n xs)
    (hL : L = (l : Int)) (h1 : l ≤ n)
    (hk : ∀ ad c, (l < n → ∃ g, ad = some ⟨g, l, none⟩ ∧ v.ownBlock = some g) → wpList P ops Q rest (a.put o.dst (.slice ad (n - l) c)) w) : wpList P ops Q (o :: rest) a w := by
  refine wpList_step fun K hK => ?_
  rw [if_pos hw]
  obtain ⟨ad, cap, rfl, hnc, hcm, hg⟩ := own_slice hr
  subst hL
  have ee : P.elem t = e := by simp [Program.elem, E.und]
  have hrun := run_slice_l (P := P) w t ad n cap (elem_of E.und) kl (l : Int) (by omega) (by omega)
  rw [ee, run_sizeOf E] at hrun
  simp only [Result.andThen_ok, Int.toNat_natCast] at hrun
  unfold Oper.wp execOp
  simp only [ho, hx, hl, Option.map_some, Option.map_none, run_sliceAt_slice (P := P) w t _ _ _ _ (elem_of E.und), hrun, Sem.run_bind, Sem.run_pure, Result.andThen_ok]
  unfold Go.sliced
  refine hK _ _ (hk _ _ (fun hlt => ?_))
  obtain ⟨g, rfl⟩ := hg (by omega)
  refine ⟨g, ?_, rfl⟩
  have hne : cap ≠ l := by omega
  rw [if_neg hne]
  by_cases h0 : l = 0
  · subst h0; simp [Addr.add]
  · simp [Addr.add, h0]
theorem wpList_copy (hgd : o.guard = none) (d s : Operand) (dT sT : TypeId) (ho : o.op = .call { callee := .builtin .copy, args := #[d, s], argTypes := #[dT, sT] })
    {e : TypeId} {bytes : Nat} (E : ElemT P dT e 1 bytes) (v : Value) (n : Nat) (xs : List Value) (hr : w.ownsRow 0 e 1 v n xs) (l : Nat) (ad : Option Addr) (c : Nat) (hd : a.eval d = .slice ad (n - l) c)
    (hp : l < n → ∃ g, ad = some ⟨g, l, none⟩ ∧ v.ownBlock = some g) (y : Value) (m : Nat) (news : List Value) (hy : a.eval s = y) (hs : Rd w 1 y m news) (h1 : ∀ u ∈ news, u.oneCell' = true) (hfit : l + m ≤ n)
    (h : ∀ w', w'.ownsRow 0 e 1 v n (xs.take l ++ (news ++ xs.drop (l + m))) → w.grownBy w' v.ownBlock → wpList P ops Q rest (a.put o.dst (goInt m)) w') : wpList P ops Q (o :: rest) a w := by
  obtain ⟨i, z, hi, _, hsz, _⟩ := E.info
  have hsize : (P.info? e).map (·.size) = some 1 := by rw [hi]; simp [hsz]
  obtain ⟨hl, sp, sc, rfl, hmc, _, hcell⟩ := hs
  rw [Nat.mul_one] at hl
  by_cases hm : m = 0
  · subst hm
    obtain rfl : news = [] := List.eq_nil_of_length_eq_zero hl
    exact wpList_copy_nothing hgd d s dT sT ho e E.und hsize _ _ _ _ _ _ hd hy (by simp) (h w (by simpa using hr) (World.grownBy.refl w _))
  · obtain ⟨g, rfl, hg⟩ := hp (by omega)
    obtain ⟨g0, off0, rfl, _⟩ := hcell 0 _ (List.getElem?_eq_getElem (by omega))
    have hsrc : ∀ j u, news[j]? = some u → w.cell? ((⟨g0, off0, none⟩ : Addr).add j) = some u := by
      intro j u hj
      obtain ⟨g', off, e', hc⟩ := hcell j u hj
      cases e'
      have e' : ((⟨g0, off0, none⟩ : Addr).add j) = ⟨g0, off0 + j, none⟩ := by unfold Addr.add; split <;> simp_all
      rw [e']; exact hc
    obtain ⟨hxl, hor⟩ := hr
    rw [Nat.mul_one] at hxl
    rcases hor with ⟨rfl, rfl⟩ | ⟨g1, cap, cur, rfl, hb, hgc, hnc, hcm, hcs, htk⟩
    · omega
    · have : g1 = g := by simpa [Value.ownBlock] using hg
      subst this
      rw [Nat.mul_one] at hcs htk
      refine wpList_copy_own hgd d s dT sT ho e E.und hsize g1 l (n - l) c ⟨g0, off0, none⟩ m sc hd hy cur e hgc news (by rw [hl]; exact (Nat.min_eq_left (by omega)).symm) hsrc (by rw [hl, hcs]; omega) h1 ?_
      rw [hl]
      refine h _ ⟨?_, .inr ⟨g1, cap, (cur.toList.take l ++ (news ++ cur.toList.drop (l + m))).toArray, rfl, hb, setRow_heap w g1 _ _ e _ hgc, hnc, hcm, ?_, ?_⟩⟩ ⟨rfl, rfl, rfl, by simp [World.setRow], fun k _ hk => setRow_other w g1 k _ (fun e => hk (by rw [e]; rfl))⟩
      · simp; omega
      · simp; omega
      · subst htk
        simp only [Nat.mul_one]
        have hcl : cur.toList.length = cap := by simpa using hcs
        rw [List.take_append, List.take_append, List.length_take, hcl, hl, Nat.min_eq_left (by omega : l ≤ cap)]
        rw [List.take_of_length_le (by rw [List.length_take]; omega : (cur.toList.take l).length ≤ n), List.take_of_length_le (by omega : news.length ≤ n - l), List.take_take, Nat.min_eq_left (by omega : l ≤ n), List.drop_take]
        congr 3
        omega
end
end Go.Lw
namespace Go.Lw
open Go Go.RowKit
section
variable {P : Program} {Q : Exit → Act → World → Prop}
theorem wp_then {o : Oper} {a : Act} {w : World} {K K' : Act → World → Prop} (h : o.wp P a w K (Exit.then K' Q)) : o.wp P a w K Q := by
  unfold Oper.wp at *
  generalize (execOp a.eval o).run P w = r at *
  cases r with
  | ok n w' =>
    cases n <;> simp only [Oper.upon] at h ⊢ <;>
      first
        | exact h
        | exact Calls.mono h (fun e w'' he => by cases e <;> exact he)
  | halt x w' => cases x <;> simp only [Oper.upon] at h ⊢ <;> exact h
def softDst (l : List Oper) : List Nat := l.filterMap (·.dst)
def SFact (l : List Oper) (Φ : Nat → Value → World → Prop) (k : Nat) (a : Act) (w : World) : Prop :=
  match l[k]? with
  | some o => match o.dst with
    | some d => ∃ v, a.tmps[d]? = some v ∧ Φ k v w
    | none => True
  | none => True
def SFacts (l : List Oper) (Φ : Nat → Value → World → Prop) (a : Act) (w : World) : List Nat → Prop
  | [] => True
  | k :: ks => SFact l Φ k a w ∧ SFacts l Φ a w ks
def sdeps (o : Oper) : List Nat := ((o.after.toList.filter fun e => Region.binds .any e).map (·.on)).eraseDups
structure SAgree (l : List Oper) (a0 a : Act) : Prop where
  size : a.tmps.size = a0.tmps.size
  same : ∀ s, s ∉ softDst l → a.tmps[s]? = a0.tmps[s]?
  defs : a.defers = a0.defers
def SStep (P : Program) (Q : Exit → Act → World → Prop) (l : List Oper) (I : World → Prop) (R : World → World → Prop) (Φ : Nat → Value → World → Prop) (a0 : Act) (j : Nat) (o : Oper) : Prop :=
  ∀ a w, I w → SAgree l a0 a → SFacts l Φ a w (sdeps o) → ∀ K : Act → World → Prop, (∀ v w', I w' → R w w' → Φ j v w' → K (a.put o.dst v) w') → wpList P l.toArray (Exit.then K Q) [o] a w
def SSteps (P : Program) (Q : Exit → Act → World → Prop) (l : List Oper) (I : World → Prop) (R : World → World → Prop) (Φ : Nat → Value → World → Prop) (a0 : Act) : Nat → List Oper → Prop
  | _, [] => True
  | j, o :: rest => SStep P Q l I R Φ a0 j o ∧ SSteps P Q l I R Φ a0 (j + 1) rest
theorem ssteps_at {l : List Oper} {I : World → Prop} {R : World → World → Prop} {Φ : Nat → Value → World → Prop} {a0 : Act} : ∀ (m : List Oper) (k j : Nat) (o : Oper), SSteps P Q l I R Φ a0 k m → m[j]? = some o → SStep P Q l I R Φ a0 (k + j) o
  | [], _, _, _, _, h => by simp at h
  | o' :: m, k, 0, o, hs, h => by
    simp at h; subst h; exact hs.1
  | o' :: m, k, j + 1, o, hs, h => by
    have := ssteps_at m (k + 1) j o hs.2 (by simpa using h)
    rw [show k + (j + 1) = k + 1 + j by omega]; exact this
theorem sfacts_of {l : List Oper} {Φ : Nat → Value → World → Prop} {a : Act} {w : World} : ∀ ks : List Nat, (∀ k ∈ ks, SFact l Φ k a w) → SFacts l Φ a w ks
  | [], _ => trivial
  | k :: ks, h => ⟨h k (List.mem_cons_self ..), sfacts_of ks fun j hj => h j (List.mem_cons_of_mem _ hj)⟩
theorem softDst_mem {l : List Oper} {k : Nat} {o : Oper} {d : Nat} (hk : l[k]? = some o) (hd : o.dst = some d) : d ∈ softDst l :=
  List.mem_filterMap.2 ⟨o, List.mem_of_getElem? hk, hd⟩
theorem softDst_ne : ∀ {l : List Oper} (_ : (softDst l).Nodup) {j k : Nat} {oj ok : Oper} {d e : Nat}, l[j]? = some oj → l[k]? = some ok → oj.dst = some d → ok.dst = some e → j ≠ k → d ≠ e
  | [], _, _, _, _, _, _, _, h, _, _, _, _ => by simp at h
  | x :: l, hn, j, k, oj, ok, d, e, hj, hk, hd, he, hne => by
    have hcons : ∀ y, x.dst = some y → y ∉ softDst l := fun y hy => by
      unfold softDst at hn
      rw [List.filterMap_cons_some hy] at hn
      exact (List.nodup_cons.1 hn).1
    have htail : (softDst l).Nodup := by
      unfold softDst at hn ⊢
      cases hx : x.dst with
      | none => rwa [List.filterMap_cons_none hx] at hn
      | some y => rw [List.filterMap_cons_some hx] at hn; exact (List.nodup_cons.1 hn).2
    cases j with
    | zero =>
      cases k with
      | zero => exact absurd rfl hne
      | succ k =>
        simp at hj hk
        subst hj
        intro h; subst h
        exact hcons _ hd (softDst_mem hk he)
    | succ j =>
      cases k with
      | zero =>
        simp at hj hk
        subst hk
        intro h; subst h
        exact hcons _ he (softDst_mem hj hd)
      | succ k =>
        simp at hj hk
        exact softDst_ne htail hj hk hd he (by omega)
theorem put_same (a : Act) (d : Nat) (v : Value) (h : d < a.tmps.size) : (a.put (some d) v).tmps[d]? = some v := by
  simp [Act.put, h]
theorem put_other (a : Act) (dst : Option Nat) (s : Nat) (v : Value) (h : ∀ d, dst = some d → d ≠ s) : (a.put dst v).tmps[s]? = a.tmps[s]? := by
  cases dst with
  | none => rfl
  | some d => simp [Act.put, Array.getElem?_setIfInBounds_ne (h d rfl)]
theorem put_size (a : Act) (dst : Option Nat) (v : Value) : (a.put dst v).tmps.size = a.tmps.size := by
  cases dst <;> simp [Act.put]
theorem put_defs (a : Act) (dst : Option Nat) (v : Value) : (a.put dst v).defers = a.defers := by
  cases dst <;> rfl
def softOrd : Nat → List Oper → Bool
  | _, [] => true
  | k, o :: rest => (o.after.toList.all fun e => !Region.binds .any e || decide (e.on < k)) && softOrd (k + 1) rest
theorem softOrd_at : ∀ (m : List Oper) (k j : Nat) (o : Oper), softOrd k m = true → m[j]? = some o → ∀ e ∈ o.after, Region.binds .any e = true → e.on < k + j
  | [], _, _, _, _, h => by simp at h
  | o' :: m, k, 0, o, hs, h => by
    simp at h; subst h
    intro e he hb
    simp only [softOrd, Bool.and_eq_true, List.all_eq_true] at hs
    have := hs.1 e (by simpa using he)
    simpa [hb] using this
  | o' :: m, k, j + 1, o, hs, h => by
    simp only [softOrd, Bool.and_eq_true] at hs
    have := softOrd_at m (k + 1) j o hs.2 (by simpa using h)
    rw [show k + (j + 1) = k + 1 + j by omega]; exact this
theorem ssteps_cons {l : List Oper} {I : World → Prop} {R : World → World → Prop} {Φ : Nat → Value → World → Prop} {a0 : Act} {j : Nat} {o : Oper} {rest : List Oper} (h : SStep P Q l I R Φ a0 j o) (k : SSteps P Q l I R Φ a0 (j + 1) rest) : SSteps P Q l I R Φ a0 j (o :: rest) := ⟨h, k⟩
def Stable : Type := { p : Value → World → Prop // ∀ v w w', Kept (fun _ => False) w w' → p v w → p v w' }
def stV (c : Value) : Stable := ⟨fun v _ => v = c, fun _ _ _ _ h => h⟩
def stB (L : List UInt8) : Stable := ⟨fun v w => RdB w v L, fun _ _ _ hk h => h.kept hk (fun _ _ h => h)⟩
def sphi (specs : List Stable) (k : Nat) (v : Value) (w : World) : Prop :=
  match specs[k]? with
  | some p => p.1 v w
  | none => True
theorem spv {specs : List Stable} {k : Nat} {c v : Value} {w : World} (h : sphi specs k v w) (e : specs[k]? = some (stV c)) : v = c := by
  unfold sphi at h
  rw [e] at h
  exact h
end
end Go.Lw
