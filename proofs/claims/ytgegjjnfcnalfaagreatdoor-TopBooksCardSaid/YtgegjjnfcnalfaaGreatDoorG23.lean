/- Of the proof of TopBooks: StH, StI, TailDeep. -/
import Derived.Test.YtgegjjnfcnalfaaGreatDoorG22
import Derived.Test.YtgegjjnfcnalfaaGreatDoorG14
import Derived.Test.YtgegjjnfcnalfaaGreatDoorG03
namespace Go.Proofs.YtgegjjnfcnalfaaGreatDoor
open Go Go.RowKit Go.Lw
set_option maxRecDepth 100000
set_option linter.unusedVariables false
set_option linter.unusedSimpArgs false
attribute [local go_sem] BA_toList
def treeB : List UInt8 := [0, 1, 47, 0, 0]
theorem own_row {w : World} {l : List UInt8} {v : Value} {b0 : Nat} (h : IsOwn b0 l v w) (hl : 0 < l.length) : ∃ r cap, v = .slice (some ⟨r, 0, none⟩) l.length cap ∧ b0 ≤ r ∧ r < w.heap.size ∧ blk v r := by
  obtain ⟨ad, cap, rfl, _, _, h3⟩ := own_slice h.1
  obtain ⟨g, rfl⟩ := h3 hl
  exact ⟨g, cap, rfl, h.2 g rfl, own_lt h.1 g rfl, rfl⟩
structure TG where
  r : Nat
  c : Nat
  dn : Bool
  st : Bool
def tR (γ : TG) (w : World) (γ' : TG) (w' : World) : Prop :=
  (γ.r = 0 ∨ γ'.r = γ.r) ∧ (γ.c = 0 ∨ γ'.c = γ.c) ∧ (γ'.dn = false → γ.dn = false) ∧ (γ'.st = false → γ.st = false) ∧ (γ'.c = γ.c ∨ w.heap.size ≤ γ'.c) ∧
    Kept (fun k => (k = γ.r ∧ k ≠ γ.c ∧ γ.dn = false ∧ γ'.dn = true) ∨ (k = γ.c ∧ γ.st = false ∧ γ'.st = true ∧ γ.dn = true)) w w'
theorem tR.pure {γ : TG} {w w' : World} (k : Kept (fun _ => False) w w') : tR γ w γ w' := ⟨.inr rfl, .inr rfl, id, id, .inl rfl, k.mono (fun _ _ h => h.elim)⟩
structure TI (w0 : World) (D : Nat → Bool) (γ : TG) (w : World) : Prop where
  kept : Kept (fun _ => False) w0 w
  r0 : D 4 = false → γ.r = 0
  d0 : D 11 = false → γ.dn = false
  c0 : D 12 = false → γ.c = 0
  s0 : D 13 = false → γ.st = false
  s1 : D 13 = true → γ.st = true
  lr : γ.r = 0 ∨ (w0.heap.size ≤ γ.r ∧ γ.r < w.heap.size)
  lc : γ.c = 0 ∨ (w0.heap.size ≤ γ.c ∧ γ.c < w.heap.size)
  ne : γ.r ≠ 0 → γ.c ≠ 0 → γ.r ≠ γ.c
  fin : γ.st = true → ∃ v, w.heap[γ.c]? = some (.cells #[v] 36 (0, 0)) ∧ IsOwn w0.heap.size treeB v w ∧ (∀ k, blk v k → k ≠ γ.c) ∧ w0.heap.size ≤ γ.c
theorem TI.start {w0 w : World} (k : Kept (fun _ => False) w0 w) : TI w0 (fun _ => false) ⟨0, 0, false, false⟩ w :=
  ⟨k, fun _ => rfl, fun _ => rfl, fun _ => rfl, fun _ => rfl, (fun h => by cases h), .inl rfl, .inl rfl, fun h => absurd rfl h, fun h => by cases h⟩
theorem TI.pure {w0 w w' : World} {D : Nat → Bool} {γ : TG} (h : TI w0 D γ w) (k : Kept (fun _ => False) w w') {j : Nat} (hj : (4 : Nat) ≠ j ∧ (11 : Nat) ≠ j ∧ (12 : Nat) ≠ j ∧ (13 : Nat) ≠ j) : TI w0 (fun k => if k = j then true else D k) γ w' := by
  have hz := k.size
  refine ⟨h.kept.trans k (fun _ _ h => h), ?_, ?_, ?_, ?_, ?_, h.lr.imp id (fun h => ⟨h.1, by omega⟩), h.lc.imp id (fun h => ⟨h.1, by omega⟩), h.ne, fun hs => ?_⟩
  · show (if (4 : Nat) = j then true else D 4) = false → _
    rw [if_neg hj.1]; exact h.r0
  · show (if (11 : Nat) = j then true else D 11) = false → _
    rw [if_neg hj.2.1]; exact h.d0
  · show (if (12 : Nat) = j then true else D 12) = false → _
    rw [if_neg hj.2.2.1]; exact h.c0
  · show (if (13 : Nat) = j then true else D 13) = false → _
    rw [if_neg hj.2.2.2]; exact h.s0
  · show (if (13 : Nat) = j then true else D 13) = true → _
    rw [if_neg hj.2.2.2]; exact h.s1
  · obtain ⟨v, h1, h2, h3, h4⟩ := h.fin hs
    exact ⟨v, k.heap h1 (fun h => h), ⟨own_kept k h2.1 (fun _ _ h => h), h2.2⟩, h3, h4⟩
def tA (n0 : Nat) : StableG tR := ⟨fun v γ w => γ.r ≠ 0 ∧ blk v γ.r ∧ (γ.dn = false → IsOwn n0 [0, 1, 47] v w), fun v γ w γ' w' hr ⟨h0, h1, h2⟩ => by
  have e : γ'.r = γ.r := hr.1.resolve_left h0
  refine ⟨by rw [e]; exact h0, by rw [e]; exact h1, fun hd => ?_⟩
  have hd0 := hr.2.2.1 hd
  obtain ⟨h3, h4⟩ := h2 hd0
  exact ⟨own_kept hr.2.2.2.2.2 h3 (fun g _ hk => by
    rcases hk with ⟨_, _, _, h⟩ | ⟨_, _, _, h⟩
    · rw [hd] at h; cases h
    · rw [hd0] at h; cases h), h4⟩⟩
def tB (n0 : Nat) : StableG tR := ⟨fun v γ w => γ.dn = false → IsOwn n0 [0, 0] v w, fun v γ w γ' w' hr h2 => by
  intro hd
  have hd0 := hr.2.2.1 hd
  obtain ⟨h3, h4⟩ := h2 hd0
  exact ⟨own_kept hr.2.2.2.2.2 h3 (fun g _ hk => by
    rcases hk with ⟨_, _, _, h⟩ | ⟨_, _, _, h⟩
    · rw [hd] at h; cases h
    · rw [hd0] at h; cases h), h4⟩⟩
def tC (n0 : Nat) : StableG tR := ⟨fun v γ w => γ.dn = true ∧ IsOwn n0 treeB v w ∧ ∀ k, blk v k → k ≠ γ.c, fun v γ w γ' w' hr ⟨h1, h2, h3⟩ => by
  have hd : γ'.dn = true := by
    cases hx : γ'.dn with
    | true => rfl
    | false => have := hr.2.2.1 hx; rw [h1] at this; cases this
  have hlt := own_lt h2.1
  refine ⟨hd, ⟨own_kept hr.2.2.2.2.2 h2.1 (fun g hg hk => ?_), h2.2⟩, fun k hk => ?_⟩
  · rcases hk with ⟨_, _, h, _⟩ | ⟨h, _⟩
    · rw [h1] at h; cases h
    · exact h3 g hg h
  · rcases hr.2.2.2.2.1 with h | h
    · rw [h]; exact h3 k hk
    · have := hlt k hk; omega⟩
def tD : StableG tR := ⟨fun v γ w => γ.c ≠ 0 ∧ v = .pointer (some ⟨γ.c, 0, none⟩) ∧ (γ.st = false → w.heap[γ.c]? = some (.cells #[.slice none 0 0] 36 (0, 0))), fun v γ w γ' w' hr ⟨h0, h1, h2⟩ => by
  have e : γ'.c = γ.c := hr.2.1.resolve_left h0
  refine ⟨by rw [e]; exact h0, by rw [e]; exact h1, fun hd => ?_⟩
  rw [e]
  refine hr.2.2.2.2.2.heap (h2 (hr.2.2.2.1 hd)) (fun hk => ?_)
  rcases hk with ⟨_, h, _⟩ | ⟨_, _, h, _⟩
  · exact h rfl
  · rw [hd] at h; cases h⟩
set_option maxHeartbeats 8000000 in
theorem tbytes_any (w : World) (F : Nat → Prop) (ft : Nat) (h : TrAt w F ft) : Calls Tryz.prog 42 #[.pointer (some ⟨ft, 0, none⟩)] w fun e w' => ∃ v, e = .returned v ∧ IsOwn w.heap.size treeB v w' ∧ Kept (fun _ => False) w w' := by
  have H := Lw.hid h
  clear h
  refine calls_of_wp_marks Tryz.func42 rfl ?_
  simp only [Tryz.ntmps42, List.size_toArray, List.length_cons, List.length_nil, Nat.reduceAdd, Nat.reduceSub, Array.replicate_succ, Array.replicate_zero, List.push_toArray, List.append_toArray, List.nil_append, List.cons_append]
  go_wp2_with fail
  refine (tnone_any w F ft H.out).mono ?_
  rintro e _ ⟨rfl, rfl⟩
  obtain ⟨m, h1, h2, h3, h4, h5⟩ := H.out.mem
  have hn0 : 0 < w.heap.size := by have := heap_lt h1; omega
  have HB := Lw.hid h1; have HM := Lw.hid h2; have HNE := Lw.hid h5
  clear h1 h2 h3 h4 h5
  go_wp2_with fail
  refine wp_region_set 14 (TI w) (tR) [gV (.pointer (some ⟨ft, 0, none⟩)), gV (.pointer (some ⟨ft, 0, none⟩)), gV (.pointer (some ⟨ft, 1, none⟩)), gV (.string (BA [47])), tA w.heap.size, gV (.pointer (some ⟨ft, 0, none⟩)), gV (.pointer (some ⟨ft, 0, none⟩)), gV (.pointer (some ⟨ft, 0, none⟩)), gV (.map (some m)), gV (.int .i64 0), tB w.heap.size, tC w.heap.size, tD, gV undef] (⟨0, 0, false, false⟩) (by kernel_rfl) (by kernel_rfl) (TI.start ((Kept.refl _ w).drew)) ?_ ?_
  · refine gsteps_cons (fun D γ a' w' hI hD0 hdep hcl hag hlt hf K hK => ?_) ?_
    · have s0 := hag.same 0 (by decide)
      clear hlt
      clear hag
      go_wp2_with fail
      exact hK _ _ _ (hI.pure (Kept.refl _ _) (by decide)) (tR.pure (Kept.refl _ _)) rfl
    refine gsteps_cons (fun D γ a' w' hI hD0 hdep hcl hag hlt hf K hK => ?_) ?_
    · obtain ⟨⟨_, h0, rfl⟩, -⟩ : SFacts _ _ a' w' [0] := hf
      clear hlt
      clear hag
      go_wp2_with fail
      exact hK _ _ _ (hI.pure (Kept.refl _ _) (by decide)) (tR.pure (Kept.refl _ _)) rfl
    refine gsteps_cons (fun D γ a' w' hI hD0 hdep hcl hag hlt hf K hK => ?_) ?_
    · obtain ⟨⟨_, h1, rfl⟩, -⟩ : SFacts _ _ a' w' [1] := hf
      clear hlt
      clear hag
      go_wp2_with fail
      exact hK _ _ _ (hI.pure (Kept.refl _ _) (by decide)) (tR.pure (Kept.refl _ _)) rfl
    refine gsteps_cons (fun D γ a' w' hI hD0 hdep hcl hag hlt hf K hK => ?_) ?_
    · obtain ⟨⟨_, h2, rfl⟩, -⟩ : SFacts _ _ a' w' [2] := hf
      clear hlt
      clear hag
      have c1 := heap_cell (hI.kept.heap HB.out (fun h => h)) 1
      go_wp2_with fail
      exact hK _ _ _ (hI.pure (Kept.refl _ _) (by decide)) (tR.pure (Kept.refl _ _)) rfl
    refine gsteps_cons (fun D γ a' w' hI hD0 hdep hcl hag hlt hf K hK => ?_) ?_
    · obtain ⟨⟨_, h3, rfl⟩, -⟩ : SFacts _ _ a' w' [3] := hf
      clear hlt
      clear hag
      have HI := Lw.hid hI
      clear hI
      go_wp2_with fail
      refine (ftold_any w' [47] (by decide)).mono ?_
      rintro e w4 ⟨v4, rfl, ho4, k4⟩
      go_wp2_with fail
      have hz0 := HI.out.kept.size; have hz4 := k4.size
      obtain ⟨r, cap, -, hr1, hr2, hr3⟩ := own_row ho4 (by decide)
      have hdn : γ.dn = false := HI.out.d0 (by cases hx : D 11 with | false => rfl | true => exact absurd (hcl 11 _ rfl hx 4 (by decide)) (by rw [hD0]; decide))
      have hst : γ.st = false := HI.out.s0 (by cases hx : D 13 with | false => rfl | true => exact absurd (hcl 11 _ rfl (hcl 13 _ rfl hx 11 (by decide)) 4 (by decide)) (by rw [hD0]; decide))
      exact hK _ { γ with r := r } _ ⟨HI.out.kept.trans k4 (fun _ _ h => h), fun h => absurd h (by simp), fun _ => hdn, fun h => HI.out.c0 h, fun _ => hst, fun h => HI.out.s1 h, .inr ⟨by show w.heap.size ≤ r; omega, hr2⟩, HI.out.lc.imp id (fun h => ⟨h.1, by show γ.c < _; omega⟩), fun _ hc => by have := HI.out.lc.resolve_left hc; show r ≠ γ.c; omega, fun h => by rw [hst] at h; cases h⟩ ⟨.inl (HI.out.r0 hD0), .inr rfl, id, id, .inl rfl, k4.mono (fun _ _ h => h.elim)⟩ ⟨by show r ≠ 0; omega, hr3, fun _ => ⟨ho4.1, fun k hk => Nat.le_trans hz0 (ho4.2 k hk)⟩⟩
    refine gsteps_cons (fun D γ a' w' hI hD0 hdep hcl hag hlt hf K hK => ?_) ?_
    · have s0 := hag.same 0 (by decide)
      clear hlt
      clear hag
      go_wp2_with fail
      exact hK _ _ _ (hI.pure (Kept.refl _ _) (by decide)) (tR.pure (Kept.refl _ _)) rfl
    refine gsteps_cons (fun D γ a' w' hI hD0 hdep hcl hag hlt hf K hK => ?_) ?_
    · obtain ⟨⟨_, h5, rfl⟩, -⟩ : SFacts _ _ a' w' [5] := hf
      clear hlt
      clear hag
      go_wp2_with fail
      exact hK _ _ _ (hI.pure (Kept.refl _ _) (by decide)) (tR.pure (Kept.refl _ _)) rfl
    refine gsteps_cons (fun D γ a' w' hI hD0 hdep hcl hag hlt hf K hK => ?_) ?_
    · obtain ⟨⟨_, h6, rfl⟩, -⟩ : SFacts _ _ a' w' [6] := hf
      clear hlt
      clear hag
      go_wp2_with fail
      exact hK _ _ _ (hI.pure (Kept.refl _ _) (by decide)) (tR.pure (Kept.refl _ _)) rfl
    refine gsteps_cons (fun D γ a' w' hI hD0 hdep hcl hag hlt hf K hK => ?_) ?_
    · obtain ⟨⟨_, h7, rfl⟩, -⟩ : SFacts _ _ a' w' [7] := hf
      clear hlt
      clear hag
      have c0 := heap_cell (hI.kept.heap HB.out (fun h => h)) 0
      go_wp2_with fail
      exact hK _ _ _ (hI.pure (Kept.refl _ _) (by decide)) (tR.pure (Kept.refl _ _)) rfl
    refine gsteps_cons (fun D γ a' w' hI hD0 hdep hcl hag hlt hf K hK => ?_) ?_
    · obtain ⟨⟨_, h8, rfl⟩, -⟩ : SFacts _ _ a' w' [8, 4] := hf
      clear hlt
      clear hag
      have HI := Lw.hid hI
      have HM9 := Lw.hid (MapAt.kept HM.out hI.kept (fun h => h))
      clear hI
      refine wpList_len_own _ rfl _ _ rfl 9 142 Tryz.underlying136 RV m 1 dE (by simp [Act.eval, h8]) HM9.out ?_
      exact wpList_nil (hK _ _ _ (HI.out.pure (Kept.refl _ _) (by decide)) (tR.pure (Kept.refl _ _)) rfl)
    refine gsteps_cons (fun D γ a' w' hI hD0 hdep hcl hag hlt hf K hK => ?_) ?_
    · obtain ⟨⟨_, h9, rfl⟩, -⟩ : SFacts _ _ a' w' [9] := hf
      clear hlt
      clear hag
      have HI := Lw.hid hI
      clear hI
      go_wp2_with fail
      refine (ftwo_any w' 0 (by decide)).mono ?_
      rintro e w4 ⟨v4, rfl, ho4, k4⟩
      go_wp2_with fail
      have hz0 := HI.out.kept.size
      exact hK _ _ _ (HI.out.pure k4 (by decide)) (tR.pure k4) (fun _ => ⟨ho4.1, fun k hk => Nat.le_trans hz0 (ho4.2 k hk)⟩)
    refine gsteps_cons (fun D γ a' w' hI hD0 hdep hcl hag hlt hf K hK => ?_) ?_
    · obtain ⟨⟨v4, h4, e4⟩, ⟨v10, h10, e10⟩, -⟩ : SFacts _ _ a' w' [4, 10] := hf
      clear hlt
      clear hag
      obtain ⟨h0, hb4, e4⟩ := e4
      have hdn : γ.dn = false := hI.d0 hD0
      have hst : γ.st = false := hI.s0 (by cases hx : D 13 with | false => rfl | true => exact absurd (hcl 13 _ rfl hx 11 (by decide)) (by rw [hD0]; decide))
      have HI := Lw.hid hI; have O4 := Lw.hid (e4 hdn); have O10 := Lw.hid (e10 hdn)
      have HBK := Lw.hid hb4
      clear hI e4 e10 hb4
      refine wpList_app rfl _ _ _ rfl EB v4 3 _ (by simp [Act.eval, h4]) O4.out.1 v10 2 _ (by simp [Act.eval, h10]) (RdB.of_own O10.out.1 rfl) (fun u hu => by obtain ⟨c, _, rfl⟩ := List.mem_map.1 hu; rfl) (by unfold maxLen; omega) (by omega) (fun ad cap w5 ho5 hg5 hf5 => ?_)
      have hgz := hg5.size
      have ebk : v4.ownBlock = some γ.r := HBK.out
      rw [ebk] at hg5
      have hlr := HI.out.lr.resolve_left h0
      have hz0 := HI.out.kept.size
      have k5 : Kept (fun k => k = γ.r) w' w5 := (Kept.refl _ w').grown hg5 (fun k e _ => by cases e; rfl)
      refine wpList_nil (hK _ { γ with dn := true } _ ⟨HI.out.kept.trans k5 (fun i hi e => by omega), fun h => HI.out.r0 h, fun h => absurd h (by simp), fun h => HI.out.c0 h, fun _ => hst, fun h => HI.out.s1 h, .inr ⟨hlr.1, by show γ.r < _; omega⟩, HI.out.lc.imp id (fun h => ⟨h.1, by show γ.c < _; omega⟩), HI.out.ne, fun h => by rw [hst] at h; cases h⟩ ⟨.inr rfl, .inr rfl, (fun h => by cases h), id, .inl rfl, k5.mono (fun k hk e => .inl ⟨e, by rw [e]; intro e2; by_cases hc : γ.c = 0; omega; exact HI.out.ne h0 hc e2, hdn, rfl⟩)⟩ ⟨rfl, ⟨ho5, fun k hk => by rcases hf5 k hk with h | h; exact O4.out.2 k h; omega⟩, fun k hk => by rcases hf5 k hk with h | h; rw [Option.some.inj (h.symm.trans ebk)]; intro e2; have e2 : γ.r = γ.c := e2; by_cases hc : γ.c = 0; omega; exact HI.out.ne h0 hc e2; intro e2; have := HI.out.lc; show False; have e3 : k = γ.c := e2; omega⟩)
    refine gsteps_cons (fun D γ a' w' hI hD0 hdep hcl hag hlt hf K hK => ?_) ?_
    · clear hlt
      clear hag
      have HI := Lw.hid hI
      have hst : γ.st = false := hI.s0 (by cases hx : D 13 with | false => rfl | true => exact absurd (hcl 13 _ rfl hx 12 (by decide)) (by rw [hD0]; decide))
      clear hI
      go_wp2_with fail
      have k5 : Kept (fun _ => False) w' (w'.alloc (.cells #[.slice none 0 0] 36)) := (Kept.refl _ w').alloc _
      have hz0 := HI.out.kept.size
      have hz5 : (w'.alloc (.cells #[.slice none 0 0] 36)).heap.size = w'.heap.size + 1 := by simp
      exact hK _ { γ with c := w'.heap.size } _ ⟨HI.out.kept.trans k5 (fun _ _ h => h), fun h => HI.out.r0 h, fun h => HI.out.d0 h, fun h => absurd h (by simp), fun _ => hst, fun h => HI.out.s1 h, HI.out.lr.imp id (fun h => ⟨h.1, by show γ.r < _; omega⟩), .inr ⟨hz0, by show w'.heap.size < _; omega⟩, fun hr _ => by have := HI.out.lr.resolve_left hr; show γ.r ≠ w'.heap.size; omega, fun h => by rw [hst] at h; cases h⟩ ⟨.inr rfl, .inl (HI.out.c0 hD0), id, id, .inr (Nat.le_refl _), k5.mono (fun _ _ h => h.elim)⟩ ⟨by show w'.heap.size ≠ 0; omega, rfl, fun _ => heap_alloc _ _⟩
    refine gsteps_cons (fun D γ a' w' hI hD0 hdep hcl hag hlt hf K hK => ?_) ?_
    · obtain ⟨⟨v12, h12, e12⟩, ⟨v11, h11, e11⟩, -⟩ : SFacts _ _ a' w' [12, 11, 0, 1, 2, 3, 4, 5, 6, 7, 8, 9, 10] := hf
      clear hlt
      clear hag
      obtain ⟨hdn, O5, hbc⟩ := e11
      obtain ⟨r11, cap11, rfl, -, -, -⟩ := own_row O5 (by decide)
      obtain ⟨hc0, rfl, hcell⟩ := e12
      have hst : γ.st = false := hI.s0 hD0
      have hcl2 := hcell hst
      have c0 := heap_cell hcl2 0; have f0 := heap_free hcl2 0
      have HI := Lw.hid hI; have HO := Lw.hid O5; have HBC := Lw.hid hbc; have HCL := Lw.hid hcl2
      clear hI O5 hbc hcell hcl2
      go_wp2_with fail
      have k5 : Kept (fun k => k = γ.c) w' (w'.setCell ⟨γ.c, 0, none⟩ (.slice (some ⟨r11, 0, none⟩) treeB.length cap11)) := (Kept.refl (fun k => k = γ.c) w').set _ _ (fun _ => rfl) _
      have hlc := HI.out.lc.resolve_left hc0
      have hz5 := k5.size
      exact hK undef { γ with st := true } _ ⟨HI.out.kept.trans k5 (fun i hi e => by omega), fun h => HI.out.r0 h, fun h => HI.out.d0 h, fun h => HI.out.c0 h, fun h => absurd h (by simp), fun _ => rfl, HI.out.lr.imp id (fun h => ⟨h.1, by show γ.r < _; omega⟩), .inr ⟨hlc.1, by show γ.c < _; omega⟩, HI.out.ne, fun _ => ⟨_, heap_set HCL.out 0 _, ⟨own_kept k5 HO.out.1 (fun k hk e => HBC.out k hk e), HO.out.2⟩, HBC.out, hlc.1⟩⟩ ⟨.inr rfl, .inr rfl, id, (fun h => by cases h), .inl rfl, k5.mono (fun k _ e => .inr ⟨e, hst, rfl, hdn⟩)⟩ rfl
    exact trivial
  · intro vs γ wz hI hvs
    have q0 : vs 0 = (.pointer (some ⟨ft, 0, none⟩)) := hvs 0 _ _ rfl rfl
    have q1 : vs 1 = (.pointer (some ⟨ft, 0, none⟩)) := hvs 1 _ _ rfl rfl
    have q2 : vs 2 = (.pointer (some ⟨ft, 1, none⟩)) := hvs 2 _ _ rfl rfl
    have q3 : vs 3 = (.string (BA [47])) := hvs 3 _ _ rfl rfl
    have q4 := hvs 4 _ _ rfl rfl
    have q5 : vs 5 = (.pointer (some ⟨ft, 0, none⟩)) := hvs 5 _ _ rfl rfl
    have q6 : vs 6 = (.pointer (some ⟨ft, 0, none⟩)) := hvs 6 _ _ rfl rfl
    have q7 : vs 7 = (.pointer (some ⟨ft, 0, none⟩)) := hvs 7 _ _ rfl rfl
    have q8 : vs 8 = (.map (some m)) := hvs 8 _ _ rfl rfl
    have q9 : vs 9 = (.int .i64 0) := hvs 9 _ _ rfl rfl
    have q10 := hvs 10 _ _ rfl rfl
    have q11 := hvs 11 _ _ rfl rfl
    have q12 := hvs 12 _ _ rfl rfl
    clear hvs
    simp only [List.take_succ_cons, List.take_zero, List.drop_succ_cons, List.drop_zero, putAll, Act.put, List.setIfInBounds_toArray, List.set_cons_zero, List.set_cons_succ, Nat.reduceAdd, q0, q1, q2, q3, q5, q6, q7, q8, q9]
    clear q0 q1 q2 q3 q5 q6 q7 q8 q9
    generalize vs 4 = x4 at *
    generalize vs 10 = x10 at *
    generalize vs 11 = x11 at *
    generalize vs 12 = x12 at *
    obtain ⟨hc0, rfl, -⟩ := q12
    have hst := hI.s1 rfl
    obtain ⟨v, hv1, hv2, hv3, hv4⟩ := hI.fin hst
    have HI := Lw.hid hI.kept; have HV1 := Lw.hid hv1; have HV2 := Lw.hid hv2; have HV3 := Lw.hid hv3
    clear hI hv1 hv2 hv3 q4 q10 q11
    obtain ⟨rz, capz, rfl, -, -, -⟩ := own_row HV2.out (by decide)
    obtain ⟨cb, hcb⟩ : ∃ cb, γ.c = cb := ⟨_, rfl⟩
    rw [hcb] at HV1 HV3 hv4 hc0 ⊢
    have HCB := Lw.hid hcb
    clear hcb
    go_wp2_with fail
    have hk := HI.out
    have IT := Lw.hid (walk0_iter wz F ft m (hk.heap HB.out (fun h => h)) (MapAt.kept HM.out hk (fun h => h)) HNE.out)
    have hRl : ∀ k, (k = ft ∨ k = m) → k < wz.heap.size := fun k h => by
      have h1 := heap_lt HB.out; have h2 := HM.out.lt; have h3 := hk.size
      rcases h with rfl | rfl <;> omega
    clear hk
    refine wp_nm (fun ac hac => ?_)
    refine wp_rangeP (gf := 87) (pr := #[.pointer (some ⟨ft, 0, none⟩)]) (lb := #[]) (by rw [hac.out]; rfl) (Go.Proofs.enters_of Tryz.func87 (by kernel_rfl) rfl) IT.out hRl (fun _ => rfl)
      (fun X pre V => Own1 wz wz.heap.size X V) (fun c X pre V => False) ?_ ?_ ?_ (fun _ _ _ => False) (fun _ _ _ _ _ h _ _ => h) ?_ ?_ ?_ ?_
    · exact fun X X' s V V' h hk hx => h.ab hk hx
    · exact fun c X X' s V V' h hk hx => h
    · exact ⟨Kept.refl _ _, fun k h => h.elim, Nat.le_refl _, Nat.le_refl _⟩
    · rintro l X pre x V K hi hX hp
      exact absurd hp (by intro h; have := h.length_le; simp at this)
    · rintro l X pre x a' V hi ha
      exact ha.elim
    · rintro X DD V hDD hXD hXb hi hdf
      rw [hac.out]
      have hk := hi.k
      have hb2 := hk.heap HV1.out (fun h => h)
      have o0 := heap_cell hb2 0
      have HO2 := Lw.hid (own_kept hk HV2.out.1 (fun _ _ h => h)); have HK2 := Lw.hid (HI.out.trans hk (fun _ _ h => h))
      have HX := Lw.hid hXb; have HDF := Lw.hid hdf
      clear hi hk hb2 hXb hdf
      go_wp2_with fail
      have hzz := HI.out.size
      refine leaves_marks [DD] V (by simp) (fun r hr => by rw [List.mem_singleton.1 hr]; exact HDF.out) (fun V' hk => ⟨_, results_tmp rfl _ _ _, _, rfl, ?_, HK2.out.trans hk (fun i hi h => by rw [List.mem_singleton.1 h] at hi; omega)⟩)
      refine ⟨own_kept hk HO2.out (fun k hb hd => ?_), HV2.out.2⟩
      have h1 := own_lt HV2.out.1 k hb
      rw [List.mem_singleton.1 hd] at h1; omega
    · rintro X c pre DD V hDD hXD hXb hpre hne h
      exact h.elim
end Go.Proofs.YtgegjjnfcnalfaaGreatDoor
namespace Go.Proofs.YtgegjjnfcnalfaaGreatDoor
open Go Go.RowKit Go.Lw
set_option maxRecDepth 100000
set_option linter.unusedVariables false
set_option linter.unusedSimpArgs false
set_option maxHeartbeats 4000000 in
theorem letter_v (w : World) : Calls Tryz.prog 105 #[.int .u8 118, .bool true] w fun e w' => e = .returned (.bool true) ∧ w = w' := by
  go_enter Tryz.func105, Tryz.ntmps105
  go_wp2_with fail
  go_ret
  exact ⟨rfl, rfl⟩
set_option maxHeartbeats 4000000 in
theorem name_v (w : World) : Calls Tryz.prog 88 #[bS [118]] w fun e w' => e = .returned (.bool true) ∧ w = w' := by
  have hz : (BA [118]).size = 1 := rfl
  have hne : (BA [118] == (⟨#[]⟩ : ByteArray)) = false := rfl
  go_enter Tryz.func88, Tryz.ntmps88
  go_wp2_with fail
  refine wp_loop_rounds 2 ?_
  rw [rounds_succ]
  go_wp2_with fail
  refine (letter_v w).mono ?_
  rintro e _ ⟨rfl, rfl⟩
  go_wp2_with fail
  rw [rounds_succ]
  go_wp2_with fail
  · rename_i h
    rw [BA_toList] at h
    cases h
  · go_ret
    refine ⟨?_, rfl⟩
    show Ending.returned (.bool (!(BA [118]).toList.isEmpty)) = _
    rw [BA_toList]
    rfl
theorem MapAt.tight {w : World} {b n : Nat} {l : List (Lit × DataW Value)} (h : w.ownsMap Tryz.prog 9 RV b n (.map l)) (hl : l.length ≤ 1) : MapAt w b (.map l) := by
  obtain ⟨es, clock, h1, h2, h3, h4⟩ := h
  refine ⟨es, clock, h1, h2, ?_, h4⟩
  have e : l = (es.toList.map (WideElems.rg Tryz.prog 9 RV)).foldr DataW.insert [] := by
    injection h4
  have hp := (WideShapes.sorted_perm (es.toList.map (WideElems.rg Tryz.prog 9 RV))).length_eq
  rw [← e, List.length_map] at hp
  have hq : es.toList.length = es.size := Array.length_toList
  omega
theorem put_v (o : Option (List UInt8)) (t : List UInt8) : (dV o).put (.string [118]) (.held (vV t)) = dV (some t) := by
  cases o <;> rfl
end Go.Proofs.YtgegjjnfcnalfaaGreatDoor
namespace Go.Lw
open Go Go.RowKit
section
variable {P : Program} {Q : Exit → Act → World → Prop}
def tailOrdD (l : List Oper) : Nat → List Oper → Bool
  | _, [] => true
  | k, o :: rest => ((List.range k).all fun i => (closeF l 24 (sdeps o)).contains i) && tailOrdD l (k + 1) rest
theorem tailOrd_atD {l : List Oper} : ∀ (m : List Oper) (k j : Nat) (o : Oper), tailOrdD l k m = true → m[j]? = some o → ∀ D : Nat → Prop, Closed l D → (∀ e ∈ o.after, Region.binds .any e = true → D e.on) → ∀ i, i < k + j → D i
  | [], _, _, _, _, h => by simp at h
  | o' :: m, k, 0, o, hs, h => by
    simp at h; subst h
    intro D hD hd i hi
    simp only [tailOrdD, Bool.and_eq_true, List.all_eq_true] at hs
    have := hs.1 i (List.mem_range.2 hi)
    refine closeF_in hD 24 (sdeps o') (fun k hk => ?_) i (by simpa using this)
    obtain ⟨e, he, hb, rfl⟩ := mem_sdeps hk
    exact hd e he hb
  | o' :: m, k, j + 1, o, hs, h => by
    simp only [tailOrdD, Bool.and_eq_true] at hs
    have := tailOrd_atD m (k + 1) j o hs.2 (by simpa using h)
    rw [show k + (j + 1) = k + 1 + j by omega]; exact this
def softTailOkD (m n : Nat) (l : List Oper) : Bool := decide (n ≤ l.length) && decide (softDst (l.take n)).Nodup && (softDst (l.take n)).all (fun d => decide (d < m)) && softOrd 0 l && tailOrdD l n (l.drop n) && guardB n l
theorem wpAny_tailD {l : List Oper} {a0 : Act} {w0 : World} (n : Nat) (specs : List Stable)
    (hok : softTailOkD a0.tmps.size n l = true)
    (hs : SSteps P Q (l.take n) (Kept (fun _ => False) w0) (Kept (fun _ => False)) (sphi specs) a0 0 (l.take n))
    (hend : ∀ (vs : Nat → Value) w, Kept (fun _ => False) w0 w → (∀ k o d, (l.take n)[k]? = some o → o.dst = some d → sphi specs k (vs k) w) → wpList P l.toArray Q (l.drop n) (putAll vs 0 (l.take n) a0) w) : wpAny P .any l.toArray Q l.toArray.size (Array.replicate l.toArray.size false) a0 w0.drew := by
  simp only [softTailOkD, Bool.and_eq_true, decide_eq_true_eq, List.all_eq_true] at hok
  obtain ⟨⟨⟨⟨⟨h0, h1⟩, h2⟩, h3⟩, h4⟩, h5⟩ := hok
  refine (softtail_any (I := Kept (fun _ => False) w0) (R := Kept (fun _ => False)) (Φ := sphi specs) (a0 := a0) n h0 h1 h2 (fun k v w w' hr h => ?_) hs (fun k o hk e he hb => by have := softOrd_at l 0 k o h3 hk e he hb; omega) (fun j o hj ho D hD hd i hi => ?_) (fun k o hk ho a => guard_of h5 k o hk ho a) (fun a w hI ha hf => ?_) _ _ _ _ (by simp) (fun k hk => ?_) ((Kept.refl _ _).drew) ⟨rfl, fun _ _ => rfl, rfl⟩ (fun k hk => ?_) (by simp) (fun k o hk hD => by simp [Array.getD] at hD))
  · unfold sphi at *
    split
    · rename_i p hp
      rw [hp] at h
      exact p.2 v w w' hr h
    · trivial
  · have := tailOrd_atD (l.drop n) n (j - n) o h4 (by rw [List.getElem?_drop, show n + (j - n) = j by omega]; exact ho) D hD hd i (by omega)
    exact this
  · obtain ⟨vs, rfl, hvs⟩ := frame_is h1 h2 ha (fun k hk => hf k (by rw [List.length_take] at hk; omega))
    exact hend vs w hI hvs
  · simp [Array.getD] at hk
  · simp [Array.getD] at hk
theorem wp_region_tailD {id : Nat} {l : List Oper} {a0 : Act} {w0 : World} (n : Nat) (specs : List Stable)
    (hm : P.follows .mixedOrders = true) (hok : softTailOkD a0.tmps.size n l = true)
    (hs : SSteps P Q (l.take n) (Kept (fun _ => False) w0) (Kept (fun _ => False)) (sphi specs) a0 0 (l.take n))
    (hend : ∀ (vs : Nat → Value) w, Kept (fun _ => False) w0 w → (∀ k o d, (l.take n)[k]? = some o → o.dst = some d → sphi specs k (vs k) w) → wpList P l.toArray Q (l.drop n) (putAll vs 0 (l.take n) a0) w) : (Code.region id l.toArray true).wp P Q a0 w0 := by
  exact wp_region_any hm (wpAny_tailD n specs hok hs hend)
end
end Go.Lw
