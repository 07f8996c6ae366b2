/- Of the proof of TopBooks: RE, OpenAct27, SA. -/
import Derived.Test.YtgegjjnfcnalfaaGreatDoorG33
import Derived.Test.YtgegjjnfcnalfaaGreatDoorG02
import Derived.Lib.MinMax
import Derived.Deep.LoopGhost
import Derived.WalkLawsBesides
import Derived.Test.YtgegjjnfcnalfaaGreatDoorG01
import Derived.Test.YtgegjjnfcnalfaaGreatDoorG31
import Derived.Test.YtgegjjnfcnalfaaGreatDoorG29
namespace Go.Proofs.YtgegjjnfcnalfaaGreatDoor
open Go Go.RowKit Go.Lw
set_option maxRecDepth 100000
set_option linter.unusedVariables false
set_option linter.unusedSimpArgs false
attribute [local go_sem] BA_toList
def A7.short (a : A7) : A7 := { a with t := a.t.take 60 }
def few7 (l : List A7) : List A7 := (l.take 10).map A7.short
theorem few7_snoc (l : List A7) (k : Nat) (hk : k < l.length) (h30 : k < 10) : few7 (l.take (k + 1)) = few7 (l.take k) ++ [l[k].short] := by
  unfold few7
  rw [take_snoc l k hk, List.take_append, List.map_append]
  have hl : (l.take k).length = k := by rw [List.length_take]; omega
  rw [hl, List.take_of_length_le (show [l[k]].length ≤ 10 - k by simp; omega)]; rfl
theorem few7_past (l : List A7) (k : Nat) (h40 : 10 ≤ k) : few7 (l.take (k + 1)) = few7 (l.take k) := by
  unfold few7
  rw [List.take_take, List.take_take, Nat.min_eq_left (by omega), Nat.min_eq_left (by omega)]
theorem few7_len (l : List A7) : (few7 l).length ≤ 10 := by unfold few7; simp; omega
theorem few7_short {l : List A7} {a : A7} (h : a ∈ few7 l) : a.t.length ≤ 60 := by
  unfold few7 at h
  obtain ⟨b, _, rfl⟩ := List.mem_map.1 h
  exact List.length_take_le _ _
theorem E7 : ElemT Tryz.prog 22 32 5 48 := by
  refine ElemT.of (z := .agg #[.int .i64 0, .int .i64 0, .int .i64 0, .int .i64 0, .string ⟨#[]⟩]) Tryz.underlying22 ?_ rfl (by decide)
  kernel_rfl
theorem one7 (a : A7) : ∀ u ∈ a.cells, u.oneCell' = true := by
  intro u hu
  simp only [A7.cells, List.mem_cons, List.not_mem_nil, or_false] at hu
  rcases hu with rfl | rfl | rfl | rfl | rfl <;> rfl
theorem BA_cut60 (t : List UInt8) : (BA t).extract 0 (min ((BA t).size : Int) 60).toNat = BA (t.take 60) := by
  rw [BA_size, BA_head]
  congr 1
  rw [show (min (t.length : Int) 60).toNat = min 60 t.length by omega]
  rw [List.take_eq_take_iff]; omega
theorem few7_rel {w wr w1 : World} {A B : Obj} {a ad : Option Addr} {n c cap : Nat} (hb : Kept (fun _ => False) w wr) (hf : ∀ b, blk (.slice a n c) b → w.heap.size ≤ b)
    (hg : ((wr.alloc A).alloc B).grownBy w1 (Value.slice a n c).ownBlock) (hfr : Fresh ((wr.alloc A).alloc B) (.slice a n c) (.slice ad (n + 1) cap)) :
    Kept (fun _ => False) w w1 ∧ ∀ b, blk (.slice ad (n + 1) cap) b → w.heap.size ≤ b := by
  have hz := hb.size
  refine ⟨((hb.alloc A).alloc B).grown hg (fun k hk hl => by have := hf k hk; omega), fun b hb' => ?_⟩
  rcases hfr b hb' with h | h
  · exact hf b h
  · simp at h; omega
set_option maxHeartbeats 4000000 in
theorem few_any (w : World) (x : Value) (l : List A7) (hr : Rd w 5 x l.length (l.flatMap A7.cells)) :
    Calls Tryz.prog 6 #[x, .int .i64 10] w fun e w' => ∃ v, e = .returned v ∧ w'.ownsRow 0 32 5 v (few7 l).length ((few7 l).flatMap A7.cells) ∧ Kept (fun _ => False) w w' ∧ ∀ b, blk v b → w.heap.size ≤ b := by
  obtain ⟨hlx, ad, cap, rfl, h1, h2, hc⟩ := id hr
  have HR := Lw.hid hr
  clear hlx hc hr
  unfold maxLen at h2
  obtain ⟨n, hn⟩ : ∃ n, l.length = n := ⟨_, rfl⟩
  have HN := Lw.hid hn
  rw [hn] at h1 HR ⊢
  clear hn
  go_enter Tryz.func6, Tryz.ntmps6
  go_wp2_with fail
  go_loopg [5, 10] n (fun gk v i wr => ∃ (k : Nat) (a : Option Addr) (c : Nat), gk = n - k ∧ k ≤ n ∧ i = .int .i64 (k : Int) ∧ v = .slice a (few7 (l.take k)).length c ∧ wr.ownsRow 0 32 5 v (few7 (l.take k)).length ((few7 (l.take k)).flatMap A7.cells) ∧ Kept (fun _ => False) w wr ∧ ∀ b, blk v b → w.heap.size ≤ b)
  case atStart => exact ⟨0, none, 0, rfl, Nat.zero_le _, rfl, by simp [few7], by simp [few7]; exact World.ownsRow_nil _ _ _ _, Kept.refl _ _, fun b h => by cases h⟩
  case round =>
    obtain ⟨k, a, c, rfl, hk, rfl, rfl, ho, hb, hf⟩ := hrel
    have HO := Lw.hid ho; have HB := Lw.hid hb; have HF := Lw.hid hf
    clear ho hb hf
    by_cases hlt : k < n
    · have hlt' : k < l.length := by rw [HN.out]; exact hlt
      have hrr := HR.out
      rw [← HN.out] at hrr
      obtain ⟨g, off, rfl, c0, cj⟩ := hrr.elem (fun _ _ => rfl) (by decide) k hlt'
      have c1 := cj 1 (by decide)
      have c2 := cj 2 (by decide)
      have c3 := cj 3 (by decide)
      have c4 := cj 4 (by decide)
      clear cj hrr
      obtain ⟨t, htt⟩ : ∃ t, l[k] = t := ⟨_, rfl⟩
      have HT := Lw.hid htt
      rw [htt] at c0 c1 c2 c3 c4
      simp only [A7.cells, List.getElem?_cons_zero, List.getElem?_cons_succ] at c0 c1 c2 c3 c4
      have b0 := HB.out.cell c0 (fun h => h)
      have b1 := HB.out.cell c1 (fun h => h)
      have b2 := HB.out.cell c2 (fun h => h)
      have b3 := HB.out.cell c3 (fun h => h)
      have b4 := HB.out.cell c4 (fun h => h)
      have hkd : decide ((k : Int) < (n : Int)) = true := by simp; omega
      have i0 : (0 : Int) ≤ (k : Int) := by omega
      have i1 : (k : Int) < (n : Int) := by omega
      have hkn : k + 1 ≤ n := hlt
      have hfl := few7_len (l.take k)
      clear c0 c1 c2 c3 c4 htt
      by_cases h40 : k < 10
      · have h40d : decide ((k : Int) < 10) = true := by simp; omega
        have HS' := Lw.hid (few7_snoc l k hlt' h40)
        have HCT := BA_cut60 t.t
        obtain ⟨f, hfe⟩ : ∃ f, few7 (l.take k) = f := ⟨_, rfl⟩
        rw [hfe] at HO HF HS' hfl ⊢
        obtain ⟨fn, hfn⟩ : ∃ fn, f.length = fn := ⟨_, rfl⟩
        have HFN := Lw.hid hfn
        rw [hfn] at HO HF hfl ⊢
        clear hfe hfn
        have HC : Hid (l[k].short.cells = [.int .i64 t.what, .int .i64 t.ch, .int .i64 t.many, .int .i64 t.bytes, .string (BA (t.t.take 60))]) := Lw.hid (by rw [HT.out]; rfl)
        go_wp2_with (at_builtin; refine wpList_app rfl _ _ _ rfl E7 (.slice a fn c) fn _ rfl ((HO.out.alloc _).alloc _) _ 1 _ rfl (Rd.lit _ [.int .i64 t.what, .int .i64 t.ch, .int .i64 t.many, .int .i64 t.bytes, .string (BA (t.t.take 60))] _ 5 _ 1 (by simp) rfl (by decide)) (one7 t.short) (by unfold maxLen; omega) (by omega) ?_; intro ad' cap' w1 ho' hg' hf'; obtain ⟨hb1, hf1⟩ := few7_rel HB.out HF.out hg' hf'; have HO' := Lw.hid ho'; have HB' := Lw.hid hb1; have HF' := Lw.hid hf1; clear ho' hb1 hf1 hg' hf')
        go_roundg (n - (k + 1))
        case measure => omega
        case rel => exact ⟨k + 1, ad', cap', rfl, hkn, by go_num, by rw [HS'.out, List.length_append, HFN.out]; rfl, by rw [HS'.out, List.length_append, HFN.out, List.flatMap_append, List.flatMap_singleton, HC.out]; exact HO'.out, HB'.out, HF'.out⟩
      · have h40d : decide ((k : Int) < 10) = false := by simp; omega
        have HP := Lw.hid (few7_past l k (by omega))
        have KA : ∀ o, Hid (Kept (fun _ => False) wr (wr.alloc o)) := fun o => Lw.hid ((Kept.refl _ wr).alloc o)
        go_wp2_with fail
        go_roundg (n - (k + 1))
        case measure => omega
        case rel => exact ⟨k + 1, a, c, rfl, hkn, by go_num, by rw [HP.out], by rw [HP.out]; exact own_kept (KA _).out HO.out (fun _ _ h => h), HB.out.trans (KA _).out (fun _ _ h => h), HF.out⟩
    · obtain rfl : k = n := by omega
      have hkd : decide ((k : Int) < (k : Int)) = false := by simp
      have htk : l.take k = l := List.take_of_length_le (by rw [HN.out]; exact Nat.le_refl _)
      rw [htk] at HO HF ⊢
      clear htk
      go_wp2_with fail
      go_ret
      exact ⟨_, rfl, HO.out, HB.out, HF.out⟩
end Go.Proofs.YtgegjjnfcnalfaaGreatDoor
namespace Go.Proofs.YtgegjjnfcnalfaaGreatDoor
open Go Go.RowKit Go.Lw Go.WideShapes Go.ChangeShapes
set_option maxRecDepth 100000 in
theorem open_acts27 {H : Type} {enc : TypeId × Value → H} {W : World} {b0 : Nat} {sp : Nat → Bool} {held : Bool} {v : Value} {d : DataW H} {ps : List MemPlace} {base : Nat} {r : Reach}
    (hv : Value.okWide Tryz.prog W r base 22 v) (h : DataW.Trod enc Tryz.prog W b0 sp held 22 v d ps) : ∃ l : List A7, Rd W 5 v l.length (l.flatMap A7.cells) := by
  have helem : ∀ fuel cs x, DataW.trod enc Tryz.prog W b0 sp held fuel 32 cs = some x → ∃ y : A7, cs = y.cells ∧ y.cells.length = 5 ∧ True := by
    intro fuel cs x hx
    have hl := trod_struct_len Tryz.underlying32 hx
    rw [show Tryz.prog.cellsOf 32 = 5 by kernel_rfl] at hl
    match cs, hl with
    | [c0, c1, c2, c3, c4], _ =>
      obtain ⟨n0, y0, g0⟩ := trod_field Tryz.underlying32 hx 0 3 0 1 rfl (by kernel_rfl)
      obtain ⟨n1, y1, g1⟩ := trod_field Tryz.underlying32 hx 1 3 1 1 rfl (by kernel_rfl)
      obtain ⟨n2, y2, g2⟩ := trod_field Tryz.underlying32 hx 2 3 2 1 rfl (by kernel_rfl)
      obtain ⟨n3, y3, g3⟩ := trod_field Tryz.underlying32 hx 3 3 3 1 rfl (by kernel_rfl)
      obtain ⟨n4, y4, g4⟩ := trod_field Tryz.underlying32 hx 4 9 4 1 rfl (by kernel_rfl)
      obtain ⟨a0, e0, _, w0⟩ := DataW.trod_int Tryz.underlying3 g0
      obtain ⟨a1, e1, _, w1⟩ := DataW.trod_int Tryz.underlying3 g1
      obtain ⟨a2, e2, _, w2⟩ := DataW.trod_int Tryz.underlying3 g2
      obtain ⟨a3, e3, _, w3⟩ := DataW.trod_int Tryz.underlying3 g3
      obtain ⟨s4, e4, _, w4⟩ := DataW.trod_string Tryz.underlying9 g4
      simp at e0 e1 e2 e3 e4
      subst e0 e1 e2 e3 e4
      rcases s4 with ⟨⟨t⟩⟩
      exact ⟨⟨a0, a1, a2, a3, t⟩, rfl, rfl, trivial⟩
  obtain ⟨l, h1, h2⟩ := open_slice_of (size := 5) A7.cells (fun _ => True) Tryz.underlying22 (by kernel_rfl) (by decide) helem hv h
  exact ⟨l, h1⟩
end Go.Proofs.YtgegjjnfcnalfaaGreatDoor
namespace Go.Proofs.YtgegjjnfcnalfaaGreatDoor
open Go Go.RowKit Go.Lw
set_option maxRecDepth 100000
set_option linter.unusedVariables false
set_option linter.unusedSimpArgs false
set_option linter.unusedSectionVars false
def opnR (rs : List Rc) : List Rc := match (runJ rs).opn with
  | none => rs
  | some _ => rs ++ [.cut (runJ rs).cs.length]
structure Rdt (K : Nat) (D : Dsk) (rs : List Rc) (t : List UInt8) : Prop where
  hold : Hold D (pays rs) t
  stop : D.stopped = false
  plan : D.is = false
  ok : D.ok
  good : Good rs
  few : rs.length ≤ 100
  puts : D.puts ≤ K
  np : -(K : Int) ≤ D.np
  k : K ≤ 1000000
theorem Rdt.recd {K : Nat} {D : Dsk} {rs : List Rc} {t : List UInt8} (h : Rdt K D rs t) (hd : Dead t) (hk : K + 1 ≤ 1000000) : ∃ D', recF D = (D', 0) ∧ Rdt (K + 1) D' rs (zeros t.length) ∧ D'.cap = D.cap ∧ (t = [] → D' = D) := by
  cases t with
  | nil => exact ⟨D, rec_bare h.hold h.stop, ⟨h.hold, h.stop, h.plan, h.ok, h.good, h.few, Nat.le_succ_of_le h.puts, by have := h.np; omega, hk⟩, rfl, fun _ => rfl⟩
  | cons a t =>
    have h1 := rec_clean h.hold hd (by simp) h.stop (by rw [h.plan]; simp)
    have hl : (encF fz (pays rs) ++ zeros (a :: t).length).length ≤ D.cap := by rw [List.length_append, zeros_len]; exact h.hold.len
    have hp := h.puts; have hn := h.np; have hK := h.k
    refine ⟨_, h1, ⟨⟨rfl, h.hold.l, h.hold.c, hl⟩, h.stop, h.plan, ⟨hl, h.ok.cap, ?_, ?_, ?_, ?_, h.ok.nb⟩, h.good, h.few, ?_, ?_, hk⟩, rfl, fun h => by cases h⟩
    · show D.puts + 1 < _; omega
    · show _ < D.np - 1; omega
    · show D.np - 1 ≤ _; have := h.ok.hi; omega
    · intro hi
      change D.is = true at hi
      rw [h.plan] at hi; cases hi
    · show D.puts + 1 ≤ K + 1; omega
    · show -((K + 1 : Nat) : Int) ≤ D.np - 1; omega
def AppT (D : Dsk) (rs : List Rc) (r : Rc) (t : List UInt8) : Dsk := { D with b := encF fz (pays (rs ++ [r])) ++ t.drop (10 + r.bytes.length), puts := D.puts + 1, np := D.np - 1 }
theorem zdrop (a b : Nat) : (zeros a).drop b = zeros (a - b) := by unfold zeros; rw [List.drop_replicate]
theorem Rdt.app {K m : Nat} {D : Dsk} {rs : List Rc} {r : Rc} (h : Rdt K D rs (zeros m)) (hf : r.Fit (runJ rs)) (hr : 89 * rs.length + 89 ≤ D.cap) (hk : K + 1 ≤ 1000000) (hn : rs.length < 100) :
    appF D (endF fz (pays rs)) r.bytes = (AppT D rs r (zeros m), endF fz (pays (rs ++ [r])), rs.length + 1, 0) ∧ Rdt (K + 1) (AppT D rs r (zeros m)) (rs ++ [r]) (zeros (m - (10 + r.bytes.length))) ∧ (AppT D rs r (zeros m)).cap = D.cap := by
  have hb := bytes_len hf
  have hl : (encF fz (pays rs)).length ≤ 89 * rs.length := by
    have := enc_le (pays rs) h.good.len
    simpa [pays] using this
  have h1 := app_fits h.hold (p := r.bytes) (by omega) h.stop (by omega) (by rw [h.plan]; simp)
  have hg := h.good.snoc hf
  have hm := h.hold.len
  rw [zeros_len] at hm
  have hbb : (encF fz (pays (rs ++ [r])) ++ (zeros m).drop (10 + r.bytes.length)).length ≤ D.cap := by
    rw [List.length_append, pays_snoc, enc_snoc, List.length_append, frm_len, zdrop, zeros_len]
    omega
  have hp := h.puts; have hnp := h.np; have hK := h.k
  refine ⟨?_, ⟨⟨?_, ?_, h.hold.c, hbb⟩, h.stop, h.plan, ⟨hbb, h.ok.cap, ?_, ?_, ?_, ?_, h.ok.nb⟩, hg, by simp; omega, ?_, ?_, hk⟩, rfl⟩
  · rw [h1, ← pays_snoc]
    simp [pays, AppT]
  · simp [AppT, zdrop]
  · intro p hp
    have := hg.len p hp
    omega
  · show D.puts + 1 < _; omega
  · show _ < D.np - 1; omega
  · show D.np - 1 ≤ _; have := h.ok.hi; omega
  · intro hi
    change D.is = true at hi
    rw [h.plan] at hi; cases hi
  · show D.puts + 1 ≤ K + 1; omega
  · show -((K + 1 : Nat) : Int) ≤ D.np - 1; omega
def CutOk (w : World) (B : Nat → Prop) (j BL g : Nat) (D : Dsk) (rs : List Rc) (w' : World) : Prop := ∃ v', JL w' (fun k => B k ∨ w.heap.size ≤ k) j BL g v' D rs ∧ Kept B w w'
theorem CutOk.of {w w' : World} {B B' : Nat → Prop} {j BL g : Nat} {v : Value} {D : Dsk} {rs : List Rc} {r : Rc} {e : Ending} (h : AJPost w BL g v D (endF fz (pays (rs ++ [r]))) B' j (r.doJ (runJ rs)) e w') (hB : ∀ k, (B' k ∨ k = BL ∨ k = g ∨ blk v k) → B k) : e = .returned (.int .i64 0) ∧ ∃ v', JL w' (fun k => B k ∨ w.heap.size ≤ k) j BL g v' D (rs ++ [r]) ∧ Kept B w w' ∧ ∀ k, blk v' k → blk v k ∨ w.heap.size ≤ k := by
  obtain ⟨he, v', F, va, sp, h1, h2, h3, h4, h5⟩ := h
  refine ⟨he, v', ⟨⟨fun k => F k ∧ k < w'.heap.size, va, sp, ?_, fun k hk => ⟨hk.2, (h4 k hk.1).2⟩, fun k hk => ?_⟩, h1, fun k hk => ?_⟩, h5.mono (fun i _ hi => hB i hi), h2⟩
  · rw [runJ_snoc]; exact h3.mono (fun b hb hf => ⟨hf, hb⟩)
  · exact (h4 k hk.1).1.imp (fun h => hB k (.inl h)) (fun h => h)
  · rcases hk with e | e | e
    · exact .inl (hB k (.inr (.inl e)))
    · exact .inl (hB k (.inr (.inr (.inl e))))
    · exact (h2 k e).imp (fun h => hB k (.inr (.inr (.inr h)))) (fun h => h)
theorem app_cutT (w : World) (B : Nat → Prop) (j BL g : Nat) (v : Value) (D : Dsk) (rs : List Rc) (K m : Nat) (h : JL w B j BL g v D rs) (hd : Rdt K D rs (zeros m)) (ht : Tab w) (hr : 89 * rs.length + 89 ≤ D.cap) (hk : K + 1 ≤ 1000000) (hn : rs.length < 100) (id : Nat) (hf : (Rc.cut id).Fit (runJ rs)) :
    Calls Tryz.prog 30 #[.pointer (some ⟨j, 0, none⟩), rv 5 id [] 0 0 0 none 0 0 0] w fun e w' => e = .returned (.int .i64 0) ∧ ∃ v', JL w' (fun k => B k ∨ w.heap.size ≤ k) j BL g v' (AppT D rs (.cut id) (zeros m)) (rs ++ [.cut id]) ∧ Kept B w w' ∧ ∀ k, blk v' k → blk v k ∨ w.heap.size ≤ k := by
  obtain ⟨F, va, sp, h1, h2, h3⟩ := h.m
  obtain ⟨hap, -, -⟩ := hd.app hf hr hk hn
  obtain ⟨hi, c, ho⟩ := hf
  obtain ⟨cs, hc, hov⟩ := opn_last ho
  have hl := runJ_len rs
  refine (jappend5 w F F j BL sp va (runJ rs) _ h1 g v D _ _ _ _ h.l hd.ok ht hd.hold.fin (sum_ok _) (fun _ h => h) h2 id [] 0 0 0 none 0 0 0 _ hap
    (fun w' k => fits5_yes w' F j BL sp va _ (h1.kept k (fun _ _ h => h)) cs c hc hov id [] 0 0 0 none 0 0 0 rfl)
    (fun w' k => bytes5_any w' id [] 0 0 0 none 0 0 0 (by omega))
    (fun w' k => (cut_any w' F j BL sp va _ (h1.kept k (fun i hi hS => ?_)) cs c hc hov id [] 0 0 0 none 0 0 0).mono (fun e w2 ⟨h5, h6⟩ => ⟨h5, ?_⟩))).mono (fun e w' hp => CutOk.of hp (fun k hk => hk.elim (h3 k) (h.b k)))
  · have := h2 i hi
    rcases hS with e | e | e
    · exact this.2.1 e
    · exact this.2.2.1 e
    · exact this.2.2.2 e
  · have e : (Rc.cut id).doJ (runJ rs) = { runJ rs with cs := cs ++ [{ c with status := 125, over := true, cut := true }] } := by
      show ({ runJ rs with cs := modLast (Rc.mod (.cut id)) (runJ rs).cs } : Jr) = _
      rw [hc, modLast_snoc]; rfl
    rw [e]; exact h6
structure JoAt (w0 : World) (F0 : Nat → Prop) (j BL : Nat) (X : Nat → Prop) (pre : List Rc) (V : World) : Prop where
  k : Kept F0 w0 V
  x : ∀ k, X k → w0.heap.size ≤ k
  m : ∃ F va sp, JAt V F j BL va sp (runJ pre) ∧ ∀ k, F k → (F0 k ∨ w0.heap.size ≤ k) ∧ ¬ X k ∧ k < V.heap.size
theorem JoAt.ab {w0 A A' : World} {F0 : Nat → Prop} {j BL : Nat} {X X' : Nat → Prop} {pre : List Rc} (h : JoAt w0 F0 j BL X pre A) (hk : Kept X A A') (hx : ∀ k, X' k → X k ∨ (A.heap.size ≤ k ∧ k < A'.heap.size)) : JoAt w0 F0 j BL X' pre A' := by
  obtain ⟨F, va, sp, h1, h2⟩ := h.m
  have hz := h.k.size; have hxx := h.x
  refine ⟨h.k.trans hk (fun i hi hX => by have := hxx i hX; omega), fun k hk' => ?_, F, va, sp, h1.kept hk (fun b hb hX => (h2 b hb).2.1 hX), fun k hf => ⟨(h2 k hf).1, fun hX => ?_, Nat.lt_of_lt_of_le (h2 k hf).2.2 hk.size⟩⟩
  · rcases hx k hk' with h | h
    · exact hxx k h
    · omega
  · rcases hx k hX with h | h
    · exact (h2 k hf).2.1 h
    · have := (h2 k hf).2.2; omega
theorem JoAt.fin {w0 V V4 V5 : World} {F0 B F : Nat → Prop} {j BL : Nat} {X Xp : Nat → Prop} {pre : List Rc} {r : Rc} (hk0 : Kept F0 w0 V) (hx : ∀ k, X k → w0.heap.size ≤ k) (hXX : ∀ k, X k → Xp k) (hX : ∀ k, Xp k → k < V.heap.size)
    (hF : ∀ k, F k → (F0 k ∨ w0.heap.size ≤ k) ∧ ¬ Xp k ∧ k < V.heap.size) (kv : Kept (fun _ => False) V V4) (hp : JPost V4 V5 B B j BL (r.doJ (runJ pre))) (hB : ∀ k, B k → F k ∨ V.heap.size ≤ k) (hF0 : ∀ k, F0 k → k < w0.heap.size) :
    JoAt w0 F0 j BL X (pre ++ [r]) V5 ∧ ∀ R : Nat → Prop, (∀ k, R k → k < w0.heap.size ∧ ¬ F0 k) → Keeps (fun k => R k ∨ X k) V V5 := by
  obtain ⟨F', va', sp', h1, h2, h3⟩ := hp
  have hz0 := hk0.size; have hz4 := kv.size; have hz5 := h3.size
  have kb : Kept B V V5 := (kv.mono (fun _ _ h => h.elim)).trans h3 (fun _ _ h => h)
  refine ⟨⟨hk0.trans kb (fun i hi hb => ?_), hx, fun k => F' k ∧ k < V5.heap.size, va', sp', ?_, fun k hk => ⟨?_, fun hxk => ?_, hk.2⟩⟩, fun R hR => kb.keeps (fun k hk hr hb => ?_)⟩
  · rcases hB i hb with h | h
    · rcases (hF i h).1 with h4 | h4
      · exact h4
      · omega
    · omega
  · rw [runJ_snoc]; exact h1.mono (fun b hb hf => ⟨hf, hb⟩)
  · rcases h2 k hk.1 with h | h
    · rcases hB k h with h4 | h4
      · exact (hF k h4).1
      · exact .inr (by omega)
    · exact .inr (by omega)
  · have hxp := hX k (hXX k hxk)
    rcases h2 k hk.1 with h | h
    · rcases hB k h with h4 | h4
      · exact (hF k h4).2.1 (hXX k hxk)
      · omega
    · omega
  · rcases hB k hb with h | h
    · rcases hr with h4 | h4
      · have h5 := hR k h4
        rcases (hF k h).1 with h6 | h6
        · exact h5.2 h6
        · omega
      · exact (hF k h).2.1 (hXX k h4)
    · omega
end Go.Proofs.YtgegjjnfcnalfaaGreatDoor
