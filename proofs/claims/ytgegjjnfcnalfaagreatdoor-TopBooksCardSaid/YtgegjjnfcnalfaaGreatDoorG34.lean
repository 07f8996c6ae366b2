/- Of the proof of TopBooks: OpenAct27, SA, RA. -/
import Derived.Test.YtgegjjnfcnalfaaGreatDoorG01
import Derived.Test.YtgegjjnfcnalfaaGreatDoorG33
import Derived.Test.YtgegjjnfcnalfaaGreatDoorG31
import Derived.Test.YtgegjjnfcnalfaaGreatDoorG29
import Derived.Test.YtgegjjnfcnalfaaGreatDoorG18
import Derived.Test.YtgegjjnfcnalfaaGreatDoorG21
import Derived.Sort.LoopGhostIn
namespace Go.Proofs.YtgegjjnfcnalfaaGreatDoor
open Go Go.RowKit Go.Lw Go.WideShapes Go.ChangeShapes
set_option maxRecDepth 100000 in
theorem open_acts27 {H : Type} {enc : TypeId × Value → H} {W : World} {b0 : Nat} {sp : Nat → Bool} {held : Bool} {v : Value} {d : DataW H} {ps : List MemPlace} {base : Nat} {r : Reach}
    (hv : Value.okWide Tryz.prog W r base 22 v) (h : DataW.Trod enc Tryz.prog W b0 sp held 22 v d ps) : ∃ l : List A7, Rd W 5 v l.length (l.flatMap A7.cells) := by
  have helem : ∀ fuel cs x, DataW.trod enc Tryz.prog W b0 sp held fuel 32 cs = some x → ∃ y : A7, cs = y.cells ∧ y.cells.length = 5 ∧ True := by
    intro fuel cs x hx
    have hl := trod_struct_len Tryz.underlying32 hx
    rw [show Tryz.prog.cellsOf 32 = 5 by kernel_rfl] at hl
    match cs, hl with
    | [c0, c1, c2, c3, c4], _ =>
      obtain ⟨n0, y0, g0⟩ := trod_field Tryz.underlying32 hx 0 3 0 1 rfl (by kernel_rfl)
      obtain ⟨n1, y1, g1⟩ := trod_field Tryz.underlying32 hx 1 3 1 1 rfl (by kernel_rfl)
      obtain ⟨n2, y2, g2⟩ := trod_field Tryz.underlying32 hx 2 3 2 1 rfl (by kernel_rfl)
      obtain ⟨n3, y3, g3⟩ := trod_field Tryz.underlying32 hx 3 3 3 1 rfl (by kernel_rfl)
      obtain ⟨n4, y4, g4⟩ := trod_field Tryz.underlying32 hx 4 9 4 1 rfl (by kernel_rfl)
      obtain ⟨a0, e0, _, w0⟩ := DataW.trod_int Tryz.underlying3 g0
      obtain ⟨a1, e1, _, w1⟩ := DataW.trod_int Tryz.underlying3 g1
      obtain ⟨a2, e2, _, w2⟩ := DataW.trod_int Tryz.underlying3 g2
      obtain ⟨a3, e3, _, w3⟩ := DataW.trod_int Tryz.underlying3 g3
      obtain ⟨s4, e4, _, w4⟩ := DataW.trod_string Tryz.underlying9 g4
      simp at e0 e1 e2 e3 e4
      subst e0 e1 e2 e3 e4
      rcases s4 with ⟨⟨t⟩⟩
      exact ⟨⟨a0, a1, a2, a3, t⟩, rfl, rfl, trivial⟩
  obtain ⟨l, h1, h2⟩ := open_slice_of (size := 5) A7.cells (fun _ => True) Tryz.underlying22 (by kernel_rfl) (by decide) helem hv h
  exact ⟨l, h1⟩
end Go.Proofs.YtgegjjnfcnalfaaGreatDoor
namespace Go.Proofs.YtgegjjnfcnalfaaGreatDoor
open Go Go.RowKit Go.Lw
set_option maxRecDepth 100000
set_option linter.unusedVariables false
set_option linter.unusedSimpArgs false
set_option linter.unusedSectionVars false
def opnR (rs : List Rc) : List Rc := match (runJ rs).opn with
  | none => rs
  | some _ => rs ++ [.cut (runJ rs).cs.length]
structure Rdt (K : Nat) (D : Dsk) (rs : List Rc) (t : List UInt8) : Prop where
  hold : Hold D (pays rs) t
  stop : D.stopped = false
  plan : D.is = false
  ok : D.ok
  good : Good rs
  few : rs.length ≤ 100
  puts : D.puts ≤ K
  np : -(K : Int) ≤ D.np
  k : K ≤ 1000000
theorem Rdt.recd {K : Nat} {D : Dsk} {rs : List Rc} {t : List UInt8} (h : Rdt K D rs t) (hd : Dead t) (hk : K + 1 ≤ 1000000) : ∃ D', recF D = (D', 0) ∧ Rdt (K + 1) D' rs (zeros t.length) ∧ D'.cap = D.cap ∧ (t = [] → D' = D) := by
  cases t with
  | nil => exact ⟨D, rec_bare h.hold h.stop, ⟨h.hold, h.stop, h.plan, h.ok, h.good, h.few, Nat.le_succ_of_le h.puts, by have := h.np; omega, hk⟩, rfl, fun _ => rfl⟩
  | cons a t =>
    have h1 := rec_clean h.hold hd (by simp) h.stop (by rw [h.plan]; simp)
    have hl : (encF fz (pays rs) ++ zeros (a :: t).length).length ≤ D.cap := by rw [List.length_append, zeros_len]; exact h.hold.len
    have hp := h.puts; have hn := h.np; have hK := h.k
    refine ⟨_, h1, ⟨⟨rfl, h.hold.l, h.hold.c, hl⟩, h.stop, h.plan, ⟨hl, h.ok.cap, ?_, ?_, ?_, ?_, h.ok.nb⟩, h.good, h.few, ?_, ?_, hk⟩, rfl, fun h => by cases h⟩
    · show D.puts + 1 < _; omega
    · show _ < D.np - 1; omega
    · show D.np - 1 ≤ _; have := h.ok.hi; omega
    · intro hi
      change D.is = true at hi
      rw [h.plan] at hi; cases hi
    · show D.puts + 1 ≤ K + 1; omega
    · show -((K + 1 : Nat) : Int) ≤ D.np - 1; omega
def AppT (D : Dsk) (rs : List Rc) (r : Rc) (t : List UInt8) : Dsk := { D with b := encF fz (pays (rs ++ [r])) ++ t.drop (10 + r.bytes.length), puts := D.puts + 1, np := D.np - 1 }
theorem zdrop (a b : Nat) : (zeros a).drop b = zeros (a - b) := by unfold zeros; rw [List.drop_replicate]
theorem Rdt.app {K m : Nat} {D : Dsk} {rs : List Rc} {r : Rc} (h : Rdt K D rs (zeros m)) (hf : r.Fit (runJ rs)) (hr : 89 * rs.length + 89 ≤ D.cap) (hk : K + 1 ≤ 1000000) (hn : rs.length < 100) :
    appF D (endF fz (pays rs)) r.bytes = (AppT D rs r (zeros m), endF fz (pays (rs ++ [r])), rs.length + 1, 0) ∧ Rdt (K + 1) (AppT D rs r (zeros m)) (rs ++ [r]) (zeros (m - (10 + r.bytes.length))) ∧ (AppT D rs r (zeros m)).cap = D.cap := by
  have hb := bytes_len hf
  have hl : (encF fz (pays rs)).length ≤ 89 * rs.length := by
    have := enc_le (pays rs) h.good.len
    simpa [pays] using this
  have h1 := app_fits h.hold (p := r.bytes) (by omega) h.stop (by omega) (by rw [h.plan]; simp)
  have hg := h.good.snoc hf
  have hm := h.hold.len
  rw [zeros_len] at hm
  have hbb : (encF fz (pays (rs ++ [r])) ++ (zeros m).drop (10 + r.bytes.length)).length ≤ D.cap := by
    rw [List.length_append, pays_snoc, enc_snoc, List.length_append, frm_len, zdrop, zeros_len]
    omega
  have hp := h.puts; have hnp := h.np; have hK := h.k
  refine ⟨?_, ⟨⟨?_, ?_, h.hold.c, hbb⟩, h.stop, h.plan, ⟨hbb, h.ok.cap, ?_, ?_, ?_, ?_, h.ok.nb⟩, hg, by simp; omega, ?_, ?_, hk⟩, rfl⟩
  · rw [h1, ← pays_snoc]
    simp [pays, AppT]
  · simp [AppT, zdrop]
  · intro p hp
    have := hg.len p hp
    omega
  · show D.puts + 1 < _; omega
  · show _ < D.np - 1; omega
  · show D.np - 1 ≤ _; have := h.ok.hi; omega
  · intro hi
    change D.is = true at hi
    rw [h.plan] at hi; cases hi
  · show D.puts + 1 ≤ K + 1; omega
  · show -((K + 1 : Nat) : Int) ≤ D.np - 1; omega
def CutOk (w : World) (B : Nat → Prop) (j BL g : Nat) (D : Dsk) (rs : List Rc) (w' : World) : Prop := ∃ v', JL w' (fun k => B k ∨ w.heap.size ≤ k) j BL g v' D rs ∧ Kept B w w'
theorem CutOk.of {w w' : World} {B B' : Nat → Prop} {j BL g : Nat} {v : Value} {D : Dsk} {rs : List Rc} {r : Rc} {e : Ending} (h : AJPost w BL g v D (endF fz (pays (rs ++ [r]))) B' j (r.doJ (runJ rs)) e w') (hB : ∀ k, (B' k ∨ k = BL ∨ k = g ∨ blk v k) → B k) : e = .returned (.int .i64 0) ∧ ∃ v', JL w' (fun k => B k ∨ w.heap.size ≤ k) j BL g v' D (rs ++ [r]) ∧ Kept B w w' ∧ ∀ k, blk v' k → blk v k ∨ w.heap.size ≤ k := by
  obtain ⟨he, v', F, va, sp, h1, h2, h3, h4, h5⟩ := h
  refine ⟨he, v', ⟨⟨fun k => F k ∧ k < w'.heap.size, va, sp, ?_, fun k hk => ⟨hk.2, (h4 k hk.1).2⟩, fun k hk => ?_⟩, h1, fun k hk => ?_⟩, h5.mono (fun i _ hi => hB i hi), h2⟩
  · rw [runJ_snoc]; exact h3.mono (fun b hb hf => ⟨hf, hb⟩)
  · exact (h4 k hk.1).1.imp (fun h => hB k (.inl h)) (fun h => h)
  · rcases hk with e | e | e
    · exact .inl (hB k (.inr (.inl e)))
    · exact .inl (hB k (.inr (.inr (.inl e))))
    · exact (h2 k e).imp (fun h => hB k (.inr (.inr (.inr h)))) (fun h => h)
theorem app_cutT (w : World) (B : Nat → Prop) (j BL g : Nat) (v : Value) (D : Dsk) (rs : List Rc) (K m : Nat) (h : JL w B j BL g v D rs) (hd : Rdt K D rs (zeros m)) (ht : Tab w) (hr : 89 * rs.length + 89 ≤ D.cap) (hk : K + 1 ≤ 1000000) (hn : rs.length < 100) (id : Nat) (hf : (Rc.cut id).Fit (runJ rs)) :
    Calls Tryz.prog 30 #[.pointer (some ⟨j, 0, none⟩), rv 5 id [] 0 0 0 none 0 0 0] w fun e w' => e = .returned (.int .i64 0) ∧ ∃ v', JL w' (fun k => B k ∨ w.heap.size ≤ k) j BL g v' (AppT D rs (.cut id) (zeros m)) (rs ++ [.cut id]) ∧ Kept B w w' ∧ ∀ k, blk v' k → blk v k ∨ w.heap.size ≤ k := by
  obtain ⟨F, va, sp, h1, h2, h3⟩ := h.m
  obtain ⟨hap, -, -⟩ := hd.app hf hr hk hn
  obtain ⟨hi, c, ho⟩ := hf
  obtain ⟨cs, hc, hov⟩ := opn_last ho
  have hl := runJ_len rs
  refine (jappend5 w F F j BL sp va (runJ rs) _ h1 g v D _ _ _ _ h.l hd.ok ht hd.hold.fin (sum_ok _) (fun _ h => h) h2 id [] 0 0 0 none 0 0 0 _ hap
    (fun w' k => fits5_yes w' F j BL sp va _ (h1.kept k (fun _ _ h => h)) cs c hc hov id [] 0 0 0 none 0 0 0 rfl)
    (fun w' k => bytes5_any w' id [] 0 0 0 none 0 0 0 (by omega))
    (fun w' k => (cut_any w' F j BL sp va _ (h1.kept k (fun i hi hS => ?_)) cs c hc hov id [] 0 0 0 none 0 0 0).mono (fun e w2 ⟨h5, h6⟩ => ⟨h5, ?_⟩))).mono (fun e w' hp => CutOk.of hp (fun k hk => hk.elim (h3 k) (h.b k)))
  · have := h2 i hi
    rcases hS with e | e | e
    · exact this.2.1 e
    · exact this.2.2.1 e
    · exact this.2.2.2 e
  · have e : (Rc.cut id).doJ (runJ rs) = { runJ rs with cs := cs ++ [{ c with status := 125, over := true, cut := true }] } := by
      show ({ runJ rs with cs := modLast (Rc.mod (.cut id)) (runJ rs).cs } : Jr) = _
      rw [hc, modLast_snoc]; rfl
    rw [e]; exact h6
structure JoAt (w0 : World) (F0 : Nat → Prop) (j BL : Nat) (X : Nat → Prop) (pre : List Rc) (V : World) : Prop where
  k : Kept F0 w0 V
  x : ∀ k, X k → w0.heap.size ≤ k
  m : ∃ F va sp, JAt V F j BL va sp (runJ pre) ∧ ∀ k, F k → (F0 k ∨ w0.heap.size ≤ k) ∧ ¬ X k ∧ k < V.heap.size
theorem JoAt.ab {w0 A A' : World} {F0 : Nat → Prop} {j BL : Nat} {X X' : Nat → Prop} {pre : List Rc} (h : JoAt w0 F0 j BL X pre A) (hk : Kept X A A') (hx : ∀ k, X' k → X k ∨ (A.heap.size ≤ k ∧ k < A'.heap.size)) : JoAt w0 F0 j BL X' pre A' := by
  obtain ⟨F, va, sp, h1, h2⟩ := h.m
  have hz := h.k.size; have hxx := h.x
  refine ⟨h.k.trans hk (fun i hi hX => by have := hxx i hX; omega), fun k hk' => ?_, F, va, sp, h1.kept hk (fun b hb hX => (h2 b hb).2.1 hX), fun k hf => ⟨(h2 k hf).1, fun hX => ?_, Nat.lt_of_lt_of_le (h2 k hf).2.2 hk.size⟩⟩
  · rcases hx k hk' with h | h
    · exact hxx k h
    · omega
  · rcases hx k hX with h | h
    · exact (h2 k hf).2.1 h
    · have := (h2 k hf).2.2; omega
theorem JoAt.fin {w0 V V4 V5 : World} {F0 B F : Nat → Prop} {j BL : Nat} {X Xp : Nat → Prop} {pre : List Rc} {r : Rc} (hk0 : Kept F0 w0 V) (hx : ∀ k, X k → w0.heap.size ≤ k) (hXX : ∀ k, X k → Xp k) (hX : ∀ k, Xp k → k < V.heap.size)
    (hF : ∀ k, F k → (F0 k ∨ w0.heap.size ≤ k) ∧ ¬ Xp k ∧ k < V.heap.size) (kv : Kept (fun _ => False) V V4) (hp : JPost V4 V5 B B j BL (r.doJ (runJ pre))) (hB : ∀ k, B k → F k ∨ V.heap.size ≤ k) (hF0 : ∀ k, F0 k → k < w0.heap.size) :
    JoAt w0 F0 j BL X (pre ++ [r]) V5 ∧ ∀ R : Nat → Prop, (∀ k, R k → k < w0.heap.size ∧ ¬ F0 k) → Keeps (fun k => R k ∨ X k) V V5 := by
  obtain ⟨F', va', sp', h1, h2, h3⟩ := hp
  have hz0 := hk0.size; have hz4 := kv.size; have hz5 := h3.size
  have kb : Kept B V V5 := (kv.mono (fun _ _ h => h.elim)).trans h3 (fun _ _ h => h)
  refine ⟨⟨hk0.trans kb (fun i hi hb => ?_), hx, fun k => F' k ∧ k < V5.heap.size, va', sp', ?_, fun k hk => ⟨?_, fun hxk => ?_, hk.2⟩⟩, fun R hR => kb.keeps (fun k hk hr hb => ?_)⟩
  · rcases hB i hb with h | h
    · rcases (hF i h).1 with h4 | h4
      · exact h4
      · omega
    · omega
  · rw [runJ_snoc]; exact h1.mono (fun b hb hf => ⟨hf, hb⟩)
  · rcases h2 k hk.1 with h | h
    · rcases hB k h with h4 | h4
      · exact (hF k h4).1
      · exact .inr (by omega)
    · exact .inr (by omega)
  · have hxp := hX k (hXX k hxk)
    rcases h2 k hk.1 with h | h
    · rcases hB k h with h4 | h4
      · exact (hF k h4).2.1 (hXX k hxk)
      · omega
    · omega
  · rcases hB k hb with h | h
    · rcases hr with h4 | h4
      · have h5 := hR k h4
        rcases (hF k h).1 with h6 | h6
        · exact h5.2 h6
        · omega
      · exact (hF k h).2.1 (hXX k h4)
    · omega
end Go.Proofs.YtgegjjnfcnalfaaGreatDoor
namespace Go.Proofs.YtgegjjnfcnalfaaGreatDoor
open Go Go.RowKit Go.Lw
set_option maxRecDepth 100000
set_option linter.unusedVariables false
set_option linter.unusedSimpArgs false
attribute [local go_sem] Oper.semAt_some
attribute [local go_sem] BA_toList
abbrev RowC (w : World) (v : Value) (cs : List Cmd) : Prop := w.ownsRow 0 54 8 v cs.length (cs.flatMap Cmd.cells)
theorem oneCs (cs : List Cmd) : ∀ u ∈ cs.flatMap Cmd.cells, u.oneCell' = true := by
  intro u hu
  obtain ⟨c, _, hc⟩ := List.mem_flatMap.1 hu
  simp only [Cmd.cells, List.mem_cons, List.not_mem_nil, or_false] at hc
  rcases hc with rfl | rfl | rfl | rfl | rfl | rfl | rfl | rfl <;> rfl
set_option maxHeartbeats 4000000 in
theorem cclone_any (w : World) (v : Value) (cs : List Cmd) (h : RowC w v cs) (hl : cs.length ≤ 1000) :
    Calls Tryz.prog 51 #[v] w fun e w' => ∃ v', e = .returned v' ∧ RowC w' v' cs ∧ (∀ k, blk v' k → w.heap.size ≤ k) ∧ Kept (fun _ => False) w w' := by
  obtain ⟨n, hn⟩ : ∃ n, cs.length = n := ⟨_, rfl⟩
  unfold RowC at h ⊢
  rw [hn] at h hl ⊢
  obtain ⟨ad, cap, rfl, h1, h2, h3⟩ := own_slice h
  cases ad with
  | none =>
    obtain rfl : n = 0 := by
      rcases Nat.eq_zero_or_pos n with h | h
      · exact h
      · obtain ⟨g, hg⟩ := h3 h; cases hg
    have hc : cs = [] := List.eq_nil_of_length_eq_zero hn
    subst hc
    have hc0 : cap = 0 := by
      rcases h.2 with ⟨e, _⟩ | ⟨g, c, cur, e, _⟩
      · cases e; rfl
      · cases e
    subst hc0
    clear h h1 h2 h3
    have heq := fun w => Lib.run_eql_slice_nil (P := Tryz.prog) w 34 54 none 0 0 0 0 Tryz.underlying34
    go_enter Tryz.func51, Tryz.ntmps51
    go_wp2_with fail
    go_ret
    exact ⟨_, rfl, World.ownsRow_nil _ _ _ _, fun k hk => (blk_none hk).elim, Kept.refl _ _⟩
  | some a =>
    have HR := Lw.hid (Rd.own h)
    obtain ⟨g, off, pth⟩ := a
    have HO := Lw.hid (World.ownsRow_lit (base := 0) (e := 54) (size := 8) w #[] 0 (Nat.zero_le _) (by decide) rfl)
    clear h h3
    unfold maxLen at h2
    have heq := fun w => Lib.run_eql_slice_nil (P := Tryz.prog) w 34 54 (some ⟨g, off, pth⟩) n cap 0 0 Tryz.underlying34
    go_enter Tryz.func51, Tryz.ntmps51
    go_wp2_with (at_builtin; refine wpList_app rfl _ _ _ rfl EC _ 0 _ rfl HO.out _ n _ rfl (Rd.alloc HR.out _) (oneCs cs) (by unfold maxLen; omega) (by omega) ?_; intro ad' cap' w5 ho hg hf; have HO5 := Lw.hid ho; have HG := Lw.hid hg; have HF := Lw.hid hf; clear ho hg hf)
    go_ret
    refine ⟨_, rfl, ?_, fun k hk => ?_, ?_⟩
    · have := HO5.out
      simp only [List.nil_append, Nat.zero_add] at this
      simpa using this
    · rcases HF.out k (by simpa using hk) with h | h
      · rw [blk_some h]; exact Nat.le_refl _
      · simp at h; omega
    · exact ((Kept.refl (fun _ => False) w).alloc _).grown HG.out (fun k hk hl => by cases hk; exact absurd hl (Nat.lt_irrefl _))
abbrev cmdE (c : Cmd) : Array Value := #[.agg #[.int .u32 (c.id : Int), .string (BA c.text), .string (BA c.out), .string (BA c.err), .int .i64 c.sig, .int .i64 c.status, .bool c.over, .bool c.cut]]
structure CmAt (w : World) (BB j BL sp : Nat) (va : Value) (m : Mk) (cs : List Cmd) : Prop where
  box : w.heap[BB]? = some (.cells #[.pointer (some ⟨j, 0, none⟩)] 27 (0, 0))
  j : w.heap[j]? = some (jbox BL va sp m)
  row : RowC w va cs
def CmR (BB j : Nat) (va : Value) (k : Nat) : Prop := k = BB ∨ k = j ∨ blk va k
theorem CmAt.keeps {R : Nat → Prop} {w w' : World} {BB j BL sp : Nat} {va : Value} {m : Mk} {cs : List Cmd} (h : CmAt w BB j BL sp va m cs) (k : Keeps R w w') (hR : ∀ i, CmR BB j va i → R i) : CmAt w' BB j BL sp va m cs :=
  ⟨k.heap h.box (hR _ (.inl rfl)), k.heap h.j (hR _ (.inr (.inl rfl))), own_of_heap h.row (fun g hg => k.2 g (own_lt h.row g hg) (hR _ (.inr (.inr hg))))⟩
set_option maxHeartbeats 8000000 in
theorem jall_iter (w : World) (BB j BL sp : Nat) (va : Value) (m : Mk) (cs : List Cmd) (h : CmAt w BB j BL sp va m cs) (hl : cs.length ≤ 1000) :
    Iter Tryz.prog 78 #[.pointer (some ⟨BB, 0, none⟩)] cmdE (CmR BB j va) cs w := by
  intro y J Jx X W hW hX hJ hJx hY h0
  have HC := Lw.hid (h.keeps hW (fun k h => h))
  have HY := Lw.hid hY; have HJ := Lw.hid hJ; have HJX := Lw.hid hJx; have H0 := Lw.hid h0; have HX := Lw.hid hX
  have b0 := heap_cell HC.out.box 0
  have j1 := heap_cell HC.out.j 1
  clear hY hJ hJx h0 hW hX h
  refine (callsIn_wide (n := 0)).1 (callsIn_of_wp Tryz.func78 rfl trivial ?_)
  simp only [Tryz.ntmps78, List.size_toArray, List.length_cons, List.length_nil, Nat.reduceAdd, Nat.reduceSub, Array.replicate_succ, Array.replicate_zero, List.push_toArray, List.append_toArray, List.nil_append, List.cons_append]
  gi_wp2_with fail
  refine ⟨trivial, rfl, (callsIn_wide.2 (jnone_any W j BL sp va m HC.out.j)).mono ?_⟩
  rintro e _ ⟨rfl, rfl⟩
  gi_wp2_with fail
  refine ⟨trivial, rfl, (callsIn_wide.2 (cclone_any W va cs HC.out.row hl)).mono ?_⟩
  rintro e W1 ⟨vc, rfl, hrc, hfc, k1⟩
  obtain ⟨n, hn⟩ : ∃ n, cs.length = n := ⟨_, rfl⟩
  have HN := Lw.hid hn
  have hrc' := hrc
  unfold RowC at hrc'
  rw [hn] at hrc' hl
  obtain ⟨ad, cap, rfl, hc1, hc2, hc3⟩ := own_slice hrc'
  have HR1 := Lw.hid hrc'; have HF1 := Lw.hid hfc; have K1 := Lw.hid k1; have HC3 := Lw.hid hc3
  obtain ⟨X2, hX2⟩ : ∃ X2 : Nat → Prop, X2 = fun k => X k ∨ blk (.slice ad n cap) k := ⟨_, rfl⟩
  have HX2 := Lw.hid hX2
  have HJ1 : Hid (J X2 [] W1) := Lw.hid (HJ.out X X2 [] W W1 H0.out (k1.mono (fun _ _ h => h.elim)) (fun k hk => by
    rw [hX2] at hk
    exact hk.imp (fun h => h) (fun h => ⟨hfc k h, own_lt hrc' k h⟩)))
  have HXB : Hid (∀ k, X2 k → k < W1.heap.size) := Lw.hid (fun k hk => by
    rw [hX2] at hk
    rcases hk with h | h
    · exact Nat.lt_of_lt_of_le (HX.out k h) k1.size
    · exact own_lt hrc' k h)
  unfold maxLen at hc2
  clear hrc hfc k1 hn hrc' hc3 hX2
  gi_wp2_with fail
  gi_loopg [13] n (fun gk s8 wr => ∃ k : Nat, gk = n - k ∧ k ≤ n ∧ s8 = .int .i64 (k : Int) ∧ J X2 (cs.take k) wr ∧ Keeps (fun i => CmR BB j va i ∨ X2 i) W1 wr ∧ (∀ i, X2 i → i < wr.heap.size))
  case atStart => exact ⟨0, rfl, Nat.zero_le _, rfl, HJ1.out, Keeps.refl _ _, HXB.out⟩
  case round =>
    obtain ⟨k, rfl, hk, rfl, hjs, hkp, hXr⟩ := hrel
    have HJS := Lw.hid hjs; have HKP := Lw.hid hkp; have HXR := Lw.hid hXr
    have HRr : Hid (wr.ownsRow 0 54 8 (.slice ad n cap) n (cs.flatMap Cmd.cells)) := Lw.hid (own_of_heap HR1.out (fun g hg => hkp.2 g (own_lt HR1.out g hg) (.inr (by rw [HX2.out]; exact .inr hg))))
    clear hjs hkp hXr b0 j1
    by_cases hlt : k < n
    · have hkc : k < cs.length := by rw [HN.out]; exact hlt
      obtain ⟨g, rfl⟩ := HC3.out (by omega)
      obtain ⟨c, hc⟩ : ∃ c, cs[k] = c := ⟨_, rfl⟩
      have HCC := Lw.hid hc
      have q : ∀ i, i < 8 → wr.cell? ⟨g, k * 8 + i, none⟩ = c.cells[i]? := fun i hi => by
        rw [HRr.out.cellAt _ (by omega), cc_get cs k hkc i hi, hc]
      have q0 := q 0 (by decide); have q1 := q 1 (by decide); have q2 := q 2 (by decide); have q3 := q 3 (by decide); have q4 := q 4 (by decide); have q5 := q 5 (by decide); have q6 := q 6 (by decide); have q7 := q 7 (by decide)
      simp only [Cmd.cells, List.getElem?_cons_zero, List.getElem?_cons_succ, Nat.add_zero] at q0 q1 q2 q3 q4 q5 q6 q7
      have i0 : (0 : Int) ≤ (k : Int) := by omega
      have i1 : (k : Int) < (n : Int) := by omega
      have hkn : k + 1 ≤ n := hlt
      have HTK : Hid (cs.take (k + 1) = cs.take k ++ [c]) := Lw.hid (by rw [take_snoc cs k hkc, hc])
      clear hc q
      gi_wp2_with fail
      obtain ⟨w6, hw6⟩ : ∃ w6, wr.alloc (.cells #[.int .u32 (c.id : Int), .string (BA c.text), .string (BA c.out), .string (BA c.err), .int .i64 c.sig, .int .i64 c.status, .bool c.over, .bool c.cut] 54) = w6 := ⟨_, rfl⟩
      have K6 : Hid (Kept (fun _ => False) wr w6) := Lw.hid (by rw [← hw6]; exact (Kept.refl _ wr).alloc _)
      have HJ6 := Lw.hid (HJ.out X2 X2 _ _ _ HJS.out (K6.out.mono (fun i _ e => e.elim)) (fun _ h => .inl h))
      have HX6 : Hid (∀ i, X2 i → i < w6.heap.size) := Lw.hid (fun i hi => Nat.lt_of_lt_of_le (HXR.out i hi) K6.out.size)
      have HKP6 : Hid (Keeps (fun i => CmR BB j va i ∨ X2 i) W1 w6) := Lw.hid (HKP.out.trans (K6.out.keeps (fun i _ _ e => e)))
      rw [hw6]
      clear hw6 q0 q1 q2 q3 q4 q5 q6 q7
      obtain ⟨fn, tmps, assign, body, hy, hR⟩ := HY.out X2 (cs.take k) c w6 HJ6.out HX6.out (by rw [← HTK.out]; exact List.take_prefix _ _)
      dsimp only [cmdE] at hy
      gi_wp2_with fail
      rw [hy]
      refine ⟨fun h => (by cases h), (roundAny hR).mono ?_⟩
      rintro e W3 (⟨rfl, hj3, hk3⟩ | ⟨rfl, hx3, hk3⟩)
      · have HJ3 := Lw.hid hj3; have HK3 := Lw.hid hk3
        clear hj3 hk3
        gi_wp2_with fail
        gi_roundg (n - (k + 1))
        case measure => omega
        case rel => exact ⟨k + 1, rfl, hkn, by go_num, by rw [HTK.out]; exact HJ3.out, HKP6.out.trans HK3.out, fun i hi => Nat.lt_of_lt_of_le (HX6.out i hi) HK3.out.1⟩
      · gi_wp2_with fail
        refine bodyPost_ret (results_none rfl _ _ _) rfl ?_
        exact ⟨⟨_, rfl⟩, .inr ⟨X2, _, fun i hi => Nat.lt_of_lt_of_le (HX6.out i hi) hk3.1, fun _ h => by rw [HX2.out]; exact .inl h, by rw [← HTK.out]; exact List.take_prefix _ _, by simp, hx3⟩⟩
    · obtain rfl : k = n := by omega
      gi_wp2_with fail
      go_end0
      refine ⟨⟨_, rfl⟩, .inl ⟨X2, HXR.out, fun _ h => by rw [HX2.out]; exact .inl h, ?_⟩⟩
      have := HJS.out
      rwa [List.take_of_length_le (by rw [HN.out]; exact Nat.le_refl _)] at this
end Go.Proofs.YtgegjjnfcnalfaaGreatDoor
