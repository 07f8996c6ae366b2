/- Of the proof of TopBooks: StJ, StK. -/
import Derived.Test.YtgegjjnfcnalfaaGreatDoorG23
namespace Go.Proofs.YtgegjjnfcnalfaaGreatDoor
open Go Go.RowKit Go.Lw
set_option maxRecDepth 100000
set_option linter.unusedVariables false
set_option linter.unusedSimpArgs false
attribute [local go_sem] BA_toList
def oldV (o : Option (List UInt8)) : List UInt8 := o.getD []
theorem look_v {w : World} {m : Nat} {o : Option (List UInt8)} (h : MapAt w m (dV o)) : (Instr.lookup 89 (.map (some m)) (.string (BA [118])) false).run Tryz.prog w = .ok (vV (oldV o)) w := by
  obtain ⟨v, ps, hrun, hv⟩ := h.lookup (key := .string (BA [118])) (kl := .string [118]) KS Tryz.underlying89 (z := vV []) (zd := .held (vV [])) (zp := []) (by kernel_rfl) rfl (by kernel_rfl)
  have e : v = vV (oldV o) := by
    have h1 : some (DataW.held v, ([] : List MemPlace)) = some ((dV o).atKey (.string [118]) (.held (vV [])), ps) := hv
    have h2 := congrArg Prod.fst (Option.some.inj h1)
    cases o <;> (cases h2; rfl)
  rw [hrun, e]
theorem field_v (x : List UInt8) (w : World) : (Instr.field 95 (.agg #[.string (BA x), .bool false]) 1).run Tryz.prog w = .ok (.bool false) w := by kernel_rfl
theorem set_end {w wz : World} {F : Nat → Prop} {g ft m : Nat} {st : Int} {o : Option (List UInt8)} {t : List UInt8} {w' : World} (h1 : w.heap[g]? = some (stateO st ft m)) (h2 : TrAt w (fun b => F b ∧ b ≠ g ∧ b ≠ m) ft) (h3 : MapAt w m (dV o)) (h4 : F g) (h5 : F m) (h6 : m ≠ g)
    (k : Kept (fun _ => False) w wz) (hm : w'.ownsMap Tryz.prog 9 RV m 2 ((dV o).put (.string [118]) (.held (vV t)))) (hg : wz.grownBy w' (some m)) : StAt w' F g st (some t) ∧ Kept F w w' := by
  have k2 : Kept (fun b => b = m) w w' := (k.mono (fun _ _ h => h.elim)).grown hg (fun b e _ => by cases e; rfl)
  refine ⟨⟨ft, m, k2.heap h1 (fun e => h6 e.symm), h2.kept k2 (fun b hb e => hb.2.2 e), ?_, h4, h5, h6⟩, k2.mono (fun b _ e => by rw [e]; exact h5)⟩
  rw [put_v] at hm
  exact MapAt.tight hm (by simp)
theorem val_v {u : List UInt8} {c : Value} {kl : Lit} {y : DataW Value × List MemPlace} (hv : RV c = some y) (hat : ∀ zd, (dV (some u)).atKey kl zd = y.1) (e : kl = .string [118]) : c = .agg #[.string (BA u), .bool false] := by
  subst e
  cases hv
  have h := hat .nil
  cases h
  rfl
set_option maxHeartbeats 16000000 in
theorem sset_any (w : World) (F : Nat → Prop) (g : Nat) (st : Int) (o : Option (List UInt8)) (t : List UInt8) (h : StAt w F g st o) (ht : t.length ≤ 4096) : Calls Tryz.prog 47 #[.pointer (some ⟨g, 0, none⟩), bS [118], .string (BA t)] w fun e w' => e = .returned (.int .i64 0) ∧ StAt w' F g st (some t) ∧ Kept F w w' := by
  have H := Lw.hid h
  have HZ : Hid ((BA t).size = t.length) := Lw.hid (BA_size t)
  have hz1 : (BA [118]).size = 1 := rfl
  clear h
  obtain ⟨n, hn⟩ : ∃ n, t.length = n := ⟨_, rfl⟩
  rw [hn] at ht HZ
  have hd1 : decide ((4096 : Int) < (n : Int)) = false := decide_eq_false (by omega)
  have hd2 : decide ((8192 : Int) < 1 + (n : Int)) = false := decide_eq_false (by omega)
  clear hn
  go_enter Tryz.func47, Tryz.ntmps47
  go_wp2_with fail
  refine (snone_any w F g st o H.out).mono ?_
  rintro e _ ⟨rfl, rfl⟩
  go_wp2_with fail
  refine (name_v w).mono ?_
  rintro e _ ⟨rfl, rfl⟩
  obtain ⟨ft, m, h1, h2, h3, h4, h5, h6⟩ := H.out.mem
  have c2 := heap_cell h1 2
  have HB := Lw.hid h1; have HT := Lw.hid h2; have HM := Lw.hid h3; have HF := Lw.hid (And.intro h4 (And.intro h5 h6))
  clear h1 h2 h3 h4 h5 h6
  go_wp2_with (first | (rw [HZ.out]) | (at_range; refine wpList_range_own _ rfl _ _ rfl 9 95 KS Tryz.underlying89 RV m _ (dV o) rfl HM.out ?_; intro W1 hr1 hg1 hz1; have HR1 := Lw.hid hr1; have HG1 := Lw.hid hg1; clear hr1 hg1))
  have K1 : Hid (Kept (fun _ => False) w W1) := Lw.hid ((Kept.refl _ w).grown HG1.out (fun k e _ => by cases e))
  clear c2
  cases o with
  | none =>
    refine wp_loop_rounds 1 ?_
    rw [rounds_succ]
    go_wp2_with (at_next; refine wpList_next_ranges _ rfl _ rfl 9 KS RV bS (fun v : Value => v) (fun key kl h => invS h) (fun v y _ => ⟨v, rfl⟩) m w.heap.size 1 _ _ _ rfl HR1.out (fun _ _ => ?_) (fun x c kl y w' cnt' hkey hl => absurd hl (has_none kl)))
    obtain ⟨wq, hwq⟩ : ∃ wq, W1 = wq := ⟨_, rfl⟩
    have KQ : Hid (Kept (fun _ => False) w wq) := by rw [← hwq]; exact K1
    rw [hwq]
    clear hwq
    refine wp_region_tailD 14 [stV (.pointer (some ⟨g, 0, none⟩)), stV (.pointer (some ⟨g, 0, none⟩)), stV (.pointer (some ⟨g, 2, none⟩)), stV (.map (some m)), stV (bS [118]), stV (.string (BA t)), stV (.pointer (some ⟨g, 0, none⟩)), stV (.pointer (some ⟨g, 0, none⟩)), stV (.pointer (some ⟨g, 2, none⟩)), stV (.map (some m)), stV (bS [118]), stV (.agg #[.string (BA (oldV (none))), .bool false]), stV (.bool false), stV (.agg #[.string (BA t), .bool false])] (by kernel_rfl) (by kernel_rfl) ?_ ?_
    · iterate 14
        refine ssteps_cons (fun a' w' hI hag hf K hK => ?_) ?_
        · obtain ⟨⟨_, h0, rfl⟩, ⟨_, h1, rfl⟩, -⟩ := hf
          have s0 := hag.same 0 (by decide)
          have s1 := hag.same 1 (by decide)
          have s2 := hag.same 2 (by decide)
          clear hag
          have c2 := heap_cell ((KQ.out.trans hI (fun _ _ h => h)).heap HB.out (fun h => h)) 2
          have hlk := look_v (MapAt.kept HM.out (KQ.out.trans hI (fun _ _ h => h)) (fun h => h))
          simp only [vV] at hlk
          have hfd := fun w => field_v (oldV (none)) w
          go_wp2_with fail
          exact hK _ _ hI (Kept.refl _ _) rfl
      exact trivial
    · intro vs wz hI hvs
      simp only [pzz, putAll, Act.put, Nat.reduceAdd, spv (hvs 0 _ _ rfl rfl) rfl, spv (hvs 1 _ _ rfl rfl) rfl, spv (hvs 2 _ _ rfl rfl) rfl, spv (hvs 3 _ _ rfl rfl) rfl, spv (hvs 4 _ _ rfl rfl) rfl, spv (hvs 5 _ _ rfl rfl) rfl, spv (hvs 6 _ _ rfl rfl) rfl, spv (hvs 7 _ _ rfl rfl) rfl, spv (hvs 8 _ _ rfl rfl) rfl, spv (hvs 9 _ _ rfl rfl) rfl, spv (hvs 10 _ _ rfl rfl) rfl, spv (hvs 11 _ _ rfl rfl) rfl, spv (hvs 12 _ _ rfl rfl) rfl, spv (hvs 13 _ _ rfl rfl) rfl]
      clear hvs
      have HI := Lw.hid (KQ.out.trans hI (fun _ _ h => h))
      clear hI
      go_wp2_with (refine wpList_mapUpdate_own _ rfl _ _ _ _ rfl 9 95 KS Tryz.underlying89 RV m 1 (dV (none)) rfl (MapAt.kept HM.out HI.out (fun h => h)) (by unfold maxLen; omega) (.string (BA [118])) (vV t) (.string [118]) rfl rfl (by kernel_rfl) (.held (vV t)) [] rfl ?_; intro w9 hm9 hg9; have HM9 := Lw.hid hm9; have HG9 := Lw.hid hg9; clear hm9 hg9)
      go_ret
      exact ⟨rfl, set_end HB.out HT.out HM.out HF.out.1 HF.out.2.1 HF.out.2.2 HI.out HM9.out HG9.out⟩
  | some u =>
    refine wp_loop_rounds 2 ?_
    rw [rounds_succ]
    go_wp2_with (at_next; refine wpList_next_ranges _ rfl _ rfl 9 KS RV bS (fun v : Value => v) (fun key kl h => invS h) (fun v y _ => ⟨v, rfl⟩) m w.heap.size 1 _ _ _ rfl HR1.out (fun h _ => absurd h (by simp [dV, Maps.size])) ?_; intro x c kl y w' cnt' hkey hl hv hat hrg hlt hg2 hsz hen; have HRG := Lw.hid hrg; have HG2 := Lw.hid hg2; have HKL := Lw.hid (has_v u kl hl); obtain rfl := key_v hkey HKL.out; obtain rfl := val_v hv hat HKL.out; clear hkey hl hv hat hrg hg2)
    have HR3 := Lw.hid (HRG.out.alloc (.cells #[.string (BA u), .bool false] 95))
    have K2 : Hid (Kept (fun _ => False) w (w'.alloc (.cells #[.string (BA u), .bool false] 95))) := Lw.hid ((K1.out.grown HG2.out (fun k e hk => by cases e; omega)).alloc _)
    rw [rounds_succ]
    go_wp2_with (at_next; refine wpList_next_ranges _ rfl _ rfl 9 KS RV bS (fun v : Value => v) (fun key kl h => invS h) (fun v y _ => ⟨v, rfl⟩) m w.heap.size 1 _ _ _ rfl HR3.out (fun _ _ => ?_) (fun x c kl2 y w' cnt' hkey hl => absurd hl (by
        intro h
        rw [Bool.and_eq_true] at h
        have h2 := has_v u kl2 h.1
        have h3 := h.2
        rw [h2, HKL.out] at h3
        simp [Lit.sameKey] at h3)))
    obtain ⟨wq, hwq⟩ : ∃ wq, w'.alloc (.cells #[.string (BA u), .bool false] 95) = wq := ⟨_, rfl⟩
    have KQ : Hid (Kept (fun _ => False) w wq) := by rw [← hwq]; exact K2
    rw [hwq]
    clear hwq
    refine wp_region_tailD 14 [stV (.pointer (some ⟨g, 0, none⟩)), stV (.pointer (some ⟨g, 0, none⟩)), stV (.pointer (some ⟨g, 2, none⟩)), stV (.map (some m)), stV (bS [118]), stV (.string (BA t)), stV (.pointer (some ⟨g, 0, none⟩)), stV (.pointer (some ⟨g, 0, none⟩)), stV (.pointer (some ⟨g, 2, none⟩)), stV (.map (some m)), stV (bS [118]), stV (.agg #[.string (BA (oldV (some u))), .bool false]), stV (.bool false), stV (.agg #[.string (BA t), .bool false])] (by kernel_rfl) (by kernel_rfl) ?_ ?_
    · iterate 14
        refine ssteps_cons (fun a' w' hI hag hf K hK => ?_) ?_
        · obtain ⟨⟨_, h0, rfl⟩, ⟨_, h1, rfl⟩, -⟩ := hf
          have s0 := hag.same 0 (by decide)
          have s1 := hag.same 1 (by decide)
          have s2 := hag.same 2 (by decide)
          clear hag
          have c2 := heap_cell ((KQ.out.trans hI (fun _ _ h => h)).heap HB.out (fun h => h)) 2
          have hlk := look_v (MapAt.kept HM.out (KQ.out.trans hI (fun _ _ h => h)) (fun h => h))
          simp only [vV] at hlk
          have hfd := fun w => field_v (oldV (some u)) w
          go_wp2_with fail
          exact hK _ _ hI (Kept.refl _ _) rfl
      exact trivial
    · intro vs wz hI hvs
      simp only [pzz, putAll, Act.put, Nat.reduceAdd, spv (hvs 0 _ _ rfl rfl) rfl, spv (hvs 1 _ _ rfl rfl) rfl, spv (hvs 2 _ _ rfl rfl) rfl, spv (hvs 3 _ _ rfl rfl) rfl, spv (hvs 4 _ _ rfl rfl) rfl, spv (hvs 5 _ _ rfl rfl) rfl, spv (hvs 6 _ _ rfl rfl) rfl, spv (hvs 7 _ _ rfl rfl) rfl, spv (hvs 8 _ _ rfl rfl) rfl, spv (hvs 9 _ _ rfl rfl) rfl, spv (hvs 10 _ _ rfl rfl) rfl, spv (hvs 11 _ _ rfl rfl) rfl, spv (hvs 12 _ _ rfl rfl) rfl, spv (hvs 13 _ _ rfl rfl) rfl]
      clear hvs
      have HI := Lw.hid (KQ.out.trans hI (fun _ _ h => h))
      clear hI
      go_wp2_with (refine wpList_mapUpdate_own _ rfl _ _ _ _ rfl 9 95 KS Tryz.underlying89 RV m 1 (dV (some u)) rfl (MapAt.kept HM.out HI.out (fun h => h)) (by unfold maxLen; omega) (.string (BA [118])) (vV t) (.string [118]) rfl rfl (by kernel_rfl) (.held (vV t)) [] rfl ?_; intro w9 hm9 hg9; have HM9 := Lw.hid hm9; have HG9 := Lw.hid hg9; clear hm9 hg9)
      go_ret
      exact ⟨rfl, set_end HB.out HT.out HM.out HF.out.1 HF.out.2.1 HF.out.2.2 HI.out HM9.out HG9.out⟩
end Go.Proofs.YtgegjjnfcnalfaaGreatDoor
namespace Go.Proofs.YtgegjjnfcnalfaaGreatDoor
open Go Go.RowKit Go.Lw
set_option maxRecDepth 100000
set_option linter.unusedVariables false
set_option linter.unusedSimpArgs false
def wR (bw : Nat) (γ : Value) (w : World) (γ' : Value) (w' : World) : Prop := Kept (fun k => k = bw ∨ blk γ k) w w' ∧ Fresh w γ γ'
theorem wR.pure {bw : Nat} {γ : Value} {w w' : World} (k : Kept (fun _ => False) w w') : wR bw γ w γ w' := ⟨k.mono (fun _ _ h => h.elim), Fresh.refl _ _⟩
def lW (l0 : List UInt8) (cs : List (Nat × List UInt8)) (D : Nat → Bool) : List UInt8 := cs.foldl (fun l p => if D p.1 then l ++ p.2 else l) l0
theorem lW_pure {l0 : List UInt8} {cs : List (Nat × List UInt8)} {D : Nat → Bool} {j : Nat} (h : ∀ p ∈ cs, p.1 ≠ j) : lW l0 cs (fun k => if k = j then true else D k) = lW l0 cs D := by
  unfold lW
  induction cs generalizing l0 with
  | nil => rfl
  | cons p cs ih =>
    have e : (if p.1 = j then true else D p.1) = D p.1 := if_neg (h p List.mem_cons_self)
    simp only [List.foldl_cons, e]
    exact ih (fun q hq => h q (List.mem_cons_of_mem _ hq))
structure WI (w0 : World) (bw : Nat) (l0 : List UInt8) (cs : List (Nat × List UInt8)) (D : Nat → Bool) (γ : Value) (w : World) : Prop where
  kept : Kept (fun _ => False) w0 w
  wr : WriterAt w bw γ (lW l0 cs D) 0
  lo : w0.heap.size ≤ bw
  fr : ∀ k, blk γ k → w0.heap.size ≤ k
theorem WI.pure {w0 w w' : World} {bw : Nat} {l0 : List UInt8} {cs : List (Nat × List UInt8)} {D : Nat → Bool} {γ : Value} (h : WI w0 bw l0 cs D γ w) (k : Kept (fun _ => False) w w') {j : Nat} (hj : cs.all (fun p => p.1 != j) = true) : WI w0 bw l0 cs (fun k => if k = j then true else D k) γ w' :=
  ⟨h.kept.trans k (fun _ _ h => h), by rw [lW_pure (fun p hp => by have := List.all_eq_true.1 hj p hp; simpa using this)]; exact h.wr.kept k (fun h => h) (fun _ _ h => h), h.lo, h.fr⟩
theorem WI.same {w0 w w' : World} {bw : Nat} {l0 : List UInt8} {cs : List (Nat × List UInt8)} {D : Nat → Bool} {γ : Value} (h : WI w0 bw l0 cs D γ w) (k : Kept (fun _ => False) w w') : WI w0 bw l0 cs D γ w' :=
  ⟨h.kept.trans k (fun _ _ h => h), h.wr.kept k (fun h => h) (fun _ _ h => h), h.lo, h.fr⟩
theorem WI.call {w0 w w' : World} {bw : Nat} {l0 l' : List UInt8} {cs : List (Nat × List UInt8)} {D : Nat → Bool} {γ : Value} (h : WI w0 bw l0 cs D γ w) (hp : WrPost w w' bw γ l' 0) {j : Nat} (hl : lW l0 cs (fun k => if k = j then true else D k) = l') :
    ∃ γ', WI w0 bw l0 cs (fun k => if k = j then true else D k) γ' w' ∧ wR bw γ w γ' w' := by
  obtain ⟨v, h1, h2, h3⟩ := hp
  have hz := h.kept.size
  refine ⟨v, ⟨h.kept.trans h2 (fun i hi hk => ?_), by rw [hl]; exact h1, h.lo, fun k hk => ?_⟩, h2, h3⟩
  · rcases hk with rfl | hk
    · have := h.lo; omega
    · have := h.fr i hk; omega
  · rcases h3 k hk with h4 | h4
    · exact h.fr k h4
    · omega
def wRow (bw : Nat) (L : List UInt8) : StableG (wR bw) := ⟨fun v γ w => RdB w v L ∧ ∀ k, blk v k → k ≠ bw ∧ ¬ blk γ k ∧ k < w.heap.size, fun v γ w γ' w' hr ⟨h1, h2⟩ => by
  refine ⟨h1.kept hr.1 (fun k hk hS => ?_), fun k hk => ⟨(h2 k hk).1, fun hg => ?_, Nat.lt_of_lt_of_le (h2 k hk).2.2 hr.1.size⟩⟩
  · rcases hS with h | h
    · exact (h2 k hk).1 h
    · exact (h2 k hk).2.1 h
  · rcases hr.2 k hg with h | h
    · exact (h2 k hk).2.1 h
    · have := (h2 k hk).2.2; omega⟩
end Go.Proofs.YtgegjjnfcnalfaaGreatDoor
