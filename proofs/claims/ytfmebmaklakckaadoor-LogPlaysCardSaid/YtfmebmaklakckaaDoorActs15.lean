/- Rows of calls (chapter 15): how they read; the first so many of them ('Few'). -/
import Derived.Test.YtfmebmaklakckaaDoorBytes
import Derived.Lib.MinMax
import Derived.Deep.LoopGhost
namespace Go.Lw
open Go Go.RowKit
/-- A slice value, cut to so many elements. -/
def cutV (v : Value) (k : Nat) : Value := match v with
  | .slice a n c => .slice a (min n k) c
  | v => v
theorem RdB.cutV {w : World} {v : Value} {l : List UInt8} (h : RdB w v l) (k : Nat) : RdB w (cutV v k) (l.take k) := by
  obtain ⟨a, c, rfl, _, _, _⟩ := h.open
  have := h.take (min l.length k) (Nat.min_le_left _ _)
  have e : l.take (min l.length k) = l.take k := by rw [Nat.min_comm, ← List.take_eq_take_min]
  rw [e] at this
  exact this
theorem blk_cutV {v : Value} {k b : Nat} (h : blk (cutV v k) b) : blk v b := by
  cases v <;> first | exact h | skip
  rename_i a n c
  cases a with
  | none => exact (blk_none h).elim
  | some a => rw [blk_some h]; rfl
theorem oneCell4 {a b c d : Value} (ha : a.oneCell' = true) (hb : b.oneCell' = true) (hc : c.oneCell' = true) (hd : d.oneCell' = true) : ∀ u ∈ [a, b, c, d], u.oneCell' = true := by
  intro u hu
  simp only [List.mem_cons, List.not_mem_nil, or_false] at hu
  rcases hu with rfl | rfl | rfl | rfl <;> assumption
end Go.Lw
namespace Go.Proofs.YtfmebmaklakckaaDoor
open Go Go.RowKit Go.Lw
set_option maxRecDepth 100000
structure Act4 where
  what : Int
  at_ : Int
  many : Int
  v : Value
  l : List UInt8
def Act4.cells (a : Act4) : List Value := [.int .i64 a.what, .int .i64 a.at_, .int .i64 a.many, a.v]
structure Act4.ok (w : World) (a : Act4) : Prop where
  what : -9223372036854775808 ≤ a.what ∧ a.what ≤ 9223372036854775807
  at_ : -9223372036854775808 ≤ a.at_ ∧ a.at_ ≤ 9223372036854775807
  many : -9223372036854775808 ≤ a.many ∧ a.many ≤ 9223372036854775807
  rd : RdB w a.v a.l
def Act4.short (a : Act4) : Act4 := { a with v := cutV a.v 60, l := a.l.take 60 }
def fewA (l : List Act4) : List Act4 := (l.take 40).map Act4.short
def RdA (w : World) (v : Value) (l : List Act4) : Prop := Rd w 4 v l.length (l.flatMap Act4.cells) ∧ ∀ a ∈ l, a.ok w
theorem EA : ElemT Tryd.prog 46 56 4 48 := by
  refine ElemT.of (z := .agg #[.int .i64 0, .int .i64 0, .int .i64 0, .slice none 0 0]) Tryd.underlying46 ?_ rfl (by decide)
  kernel_rfl
theorem fewA_snoc (l : List Act4) (k : Nat) (hk : k < l.length) (h30 : k < 40) : fewA (l.take (k + 1)) = fewA (l.take k) ++ [l[k].short] := by
  unfold fewA
  rw [take_snoc l k hk, List.take_append, List.map_append]
  have hl : (l.take k).length = k := by rw [List.length_take]; omega
  rw [hl, List.take_of_length_le (show [l[k]].length ≤ 40 - k by simp; omega)]; rfl
theorem fewA_len (l : List Act4) : (fewA l).length ≤ 40 := by unfold fewA; simp; omega
theorem fewA_ok {w w' : World} {l : List Act4} (h : ∀ a ∈ l, a.ok w) (hk : Kept (fun _ => False) w w') : ∀ a ∈ fewA l, a.ok w' ∧ a.l.length ≤ 60 := by
  intro a ha
  obtain ⟨b, hb, rfl⟩ := List.mem_map.1 ha
  have := h b (List.mem_of_mem_take hb)
  exact ⟨⟨this.what, this.at_, this.many, (this.rd.cutV 60).kept hk (fun _ _ h => h)⟩, by simp [Act4.short]; omega⟩
theorem fewA_rel {w wr w1 : World} {A B : Obj} {a ad : Option Addr} {n c cap : Nat} (hb : Kept (fun _ => False) w wr) (hf : ∀ b, blk (.slice a n c) b → w.heap.size ≤ b)
    (hg : ((wr.alloc A).alloc B).grownBy w1 (Value.slice a n c).ownBlock) (hfr : Fresh ((wr.alloc A).alloc B) (.slice a n c) (.slice ad (n + 1) cap)) :
    Kept (fun _ => False) w w1 ∧ ∀ b, blk (.slice ad (n + 1) cap) b → w.heap.size ≤ b := by
  have hz := hb.size
  refine ⟨((hb.alloc A).alloc B).grown hg (fun k hk hl => by have := hf k hk; omega), fun b hb' => ?_⟩
  rcases hfr b hb' with h | h
  · exact hf b h
  · simp at h; omega
theorem RdA.elemN {w : World} {a : Option Addr} {n cap : Nat} {l : List Act4} (h : Rd w 4 (.slice a n cap) n (l.flatMap Act4.cells)) (hn : l.length = n) (k : Nat) (hk : k < l.length) :
    ∃ g off, a = some ⟨g, off, none⟩ ∧ w.cell? ⟨g, off + k * 4, none⟩ = l[k].cells[0]? ∧ ∀ j, j < 4 → w.cell? ⟨g, off + k * 4 + j, none⟩ = l[k].cells[j]? := by
  subst hn
  exact h.elem (fun _ _ => rfl) (by decide) k hk
theorem fewA_past (l : List Act4) (k : Nat) (h40 : 40 ≤ k) : fewA (l.take (k + 1)) = fewA (l.take k) := by
  unfold fewA
  rw [List.take_take, List.take_take, Nat.min_eq_left (by omega), Nat.min_eq_left (by omega)]
set_option maxHeartbeats 4000000 in
theorem fewA_any (w : World) (x : Value) (l : List Act4) (hx : RdA w x l) :
    Calls Tryd.prog 21 #[x, .int .i64 40] w fun e w' => ∃ v, e = .returned v ∧ w'.ownsRow 0 56 4 v (fewA l).length ((fewA l).flatMap Act4.cells) ∧ Kept (fun _ => False) w w' ∧ ∀ b, blk v b → w.heap.size ≤ b := by
  obtain ⟨hr, hok⟩ := hx
  obtain ⟨hlx, ad, cap, rfl, h1, h2, hc⟩ := id hr
  have HR := Lw.hid hr
  have HOK := Lw.hid hok
  clear hlx hc hok hr
  unfold maxLen at h2
  obtain ⟨n, hn⟩ : ∃ n, l.length = n := ⟨_, rfl⟩
  have HN := Lw.hid hn
  rw [hn] at h1 HR ⊢
  clear hn
  go_enter Tryd.func21, Tryd.ntmps21
  go_wp2_with fail
  go_loopg [5, 10] n (fun gk v i wr => ∃ (k : Nat) (a : Option Addr) (c : Nat), gk = n - k ∧ k ≤ n ∧ i = .int .i64 (k : Int) ∧ v = .slice a (fewA (l.take k)).length c ∧ wr.ownsRow 0 56 4 v (fewA (l.take k)).length ((fewA (l.take k)).flatMap Act4.cells) ∧ Kept (fun _ => False) w wr ∧ ∀ b, blk v b → w.heap.size ≤ b)
  case atStart => exact ⟨0, none, 0, rfl, Nat.zero_le _, rfl, by simp [fewA], by simp [fewA]; exact World.ownsRow_nil _ _ _ _, Kept.refl _ _, fun b h => by cases h⟩
  case round =>
    obtain ⟨k, a, c, rfl, hk, rfl, rfl, ho, hb, hf⟩ := hrel
    have HO := Lw.hid ho; have HB := Lw.hid hb; have HF := Lw.hid hf
    clear ho hb hf
    by_cases hlt : k < n
    · have hlt' : k < l.length := by rw [HN.out]; exact hlt
      obtain ⟨g, off, rfl, c0, cj⟩ := RdA.elemN HR.out HN.out k hlt'
      have c1 := cj 1 (by decide)
      have c2 := cj 2 (by decide)
      have c3 := cj 3 (by decide)
      clear cj
      obtain ⟨t, htt⟩ : ∃ t, l[k] = t := ⟨_, rfl⟩
      have HT := Lw.hid htt
      obtain ⟨tw, ta, tm, tv, tl⟩ := t
      have hokk := (HOK.out l[k] (List.getElem_mem hlt')).rd
      rw [htt] at c0 c1 c2 c3 hokk
      dsimp only at hokk
      obtain ⟨ab, cb, hv, hb1, hb2, hb3⟩ := hokk.open
      obtain rfl : tv = _ := hv
      obtain ⟨bl, hbl⟩ : ∃ bl, tl.length = bl := ⟨_, rfl⟩
      have HBL := Lw.hid hbl
      rw [hbl] at hb1
      unfold maxLen at hb2
      simp only [Act4.cells, List.getElem?_cons_zero, List.getElem?_cons_succ, hbl] at c0 c1 c2 c3
      have b0 := HB.out.cell c0 (fun h => h)
      have b1 := HB.out.cell c1 (fun h => h)
      have b2 := HB.out.cell c2 (fun h => h)
      have b3 := HB.out.cell c3 (fun h => h)
      have hkd : decide ((k : Int) < (n : Int)) = true := by simp; omega
      have i0 : (0 : Int) ≤ (k : Int) := by omega
      have i1 : (k : Int) < (n : Int) := by omega
      have hkn : k + 1 ≤ n := hlt
      have hfl := fewA_len (l.take k)
      clear c0 c1 c2 c3 hb3 hokk htt hbl
      by_cases h40 : k < 40
      · have h40d : decide ((k : Int) < 40) = true := by simp; omega
        have HS' := Lw.hid (fewA_snoc l k hlt' h40)
        obtain ⟨q, hq⟩ : ∃ q, (min (bl : Int) 60).toNat = q := ⟨_, rfl⟩
        have HQ := Lw.hid hq
        have hqn : q = min bl 60 := by omega
        have HC : Hid (l[k].short.cells = [.int .i64 tw, .int .i64 ta, .int .i64 tm, .slice ab q cb]) := Lw.hid (by
          rw [HT.out]
          simp only [Act4.short, Act4.cells, cutV]
          rw [show tl.length = bl from HBL.out, hqn])
        obtain ⟨f, hfe⟩ : ∃ f, fewA (l.take k) = f := ⟨_, rfl⟩
        rw [hfe] at HO HF HS' hfl ⊢
        obtain ⟨fn, hfn⟩ : ∃ fn, f.length = fn := ⟨_, rfl⟩
        have HFN := Lw.hid hfn
        rw [hfn] at HO HF hfl ⊢
        clear hq hqn hfe hfn
        have hq0 : (min (bl : Int) 60) = (q : Int) := by have := HQ.out; omega
        go_wp2_with (at_builtin; refine wpList_app rfl _ _ _ rfl EA (.slice a fn c) fn _ rfl ((HO.out.alloc _).alloc _) _ 1 _ rfl (Rd.lit _ [.int .i64 tw, .int .i64 ta, .int .i64 tm, .slice ab q cb] _ 4 _ 1 (by simp) rfl (by decide)) (oneCell4 rfl rfl rfl rfl) (by unfold maxLen; omega) (by omega) ?_; intro ad' cap' w1 ho' hg' hf'; obtain ⟨hb1, hf1⟩ := fewA_rel HB.out HF.out hg' hf'; have HO' := Lw.hid ho'; have HB' := Lw.hid hb1; have HF' := Lw.hid hf1; clear ho' hb1 hf1 hg' hf')
        go_roundg (n - (k + 1))
        case measure => omega
        case rel => exact ⟨k + 1, ad', cap', rfl, hkn, by go_num, by rw [HS'.out, List.length_append, HFN.out]; rfl, by rw [HS'.out, List.length_append, HFN.out, List.flatMap_append, List.flatMap_singleton, HC.out]; exact HO'.out, HB'.out, HF'.out⟩
      · have h40d : decide ((k : Int) < 40) = false := by simp; omega
        have HP := Lw.hid (fewA_past l k (by omega))
        have KA : ∀ o, Hid (Kept (fun _ => False) wr (wr.alloc o)) := fun o => Lw.hid ((Kept.refl _ wr).alloc o)
        go_wp2_with fail
        go_roundg (n - (k + 1))
        case measure => omega
        case rel => exact ⟨k + 1, a, c, rfl, hkn, by go_num, by rw [HP.out], by rw [HP.out]; exact own_kept (KA _).out HO.out (fun _ _ h => h), HB.out.trans (KA _).out (fun _ _ h => h), HF.out⟩
    · obtain rfl : k = n := by omega
      have hkd : decide ((k : Int) < (k : Int)) = false := by simp
      have htk : l.take k = l := List.take_of_length_le (by rw [HN.out]; exact Nat.le_refl _)
      rw [htk] at HO HF ⊢
      clear htk
      go_wp2_with fail
      go_ret
      exact ⟨_, rfl, HO.out, HB.out, HF.out⟩
end Go.Proofs.YtfmebmaklakckaaDoor
