/- Of the proof of TopBooks: LogL, LogW. -/
import Derived.Test.YtgegjjnfcnalfaaGreatDoorG27
namespace Go.Proofs.YtgegjjnfcnalfaaGreatDoor
open Go Go.RowKit Go.Lw
set_option maxRecDepth 100000
set_option linter.unusedVariables false
set_option linter.unusedSimpArgs false
attribute [local go_sem] Oper.semAt_some
theorem DiskAt.keeps {R : Nat → Prop} {w w' : World} {g : Nat} {v : Value} {D : Dsk} (h : DiskAt w g v D) (k : Keeps R w w') (hg : R g) (hv : ∀ b, blk v b → R b) : DiskAt w' g v D :=
  ⟨k.heap h.box hg, own_of_heap h.own (fun b hb => k.2 b (own_lt h.own b hb) (hv b hb)), h.apart⟩
theorem LogAt.keeps {R : Nat → Prop} {w w' : World} {BL g : Nat} {v : Value} {D : Dsk} {s : Fd} (h : LogAt w BL g v D s) (k : Keeps R w w') (hl : R BL) (hg : R g) (hv : ∀ b, blk v b → R b) : LogAt w' BL g v D s :=
  ⟨k.heap h.box hl, h.d.keeps k hg hv, h.ne, h.ap⟩
def AlE (lo : Nat) (X Xp : Nat → Prop) (f : Fd) (A : Array Value) (W : World) : Prop :=
  ∃ v, A = #[.int .u32 (f.num : Int), v] ∧ RdB W v f.p ∧ (f.p.length ≠ 0 → ∀ k, blk v k → lo ≤ k ∧ ¬ X k ∧ Xp k)
theorem AlE.mono : EMono AlE := by
  rintro lo X X' Xp Xp' f A W ⟨v, h1, h2, h3⟩ hX hXp
  exact ⟨v, h1, h2, fun hn k hk => ⟨(h3 hn k hk).1, fun hx => by
    rcases hX k hx with h | h
    · exact (h3 hn k hk).2.1 h
    · have := (h3 hn k hk).1; omega, hXp k (h3 hn k hk).2.2⟩⟩
abbrev pbox (p : Option Addr) : Obj := .cells #[.pointer p] 61 (0, 0)
structure AlAt (w : World) (BB BL g : Nat) (v : Value) (D : Dsk) (s : Fd) : Prop where
  box : w.heap[BB]? = some (pbox (some ⟨BL, 0, none⟩))
  l : LogAt w BL g v D s
  tab : Tab w
def AlR (BB BL g : Nat) (v : Value) (k : Nat) : Prop := k = BB ∨ k = BL ∨ k = g ∨ blk v k ∨ k = 0
theorem AlAt.lt {w : World} {BB BL g : Nat} {v : Value} {D : Dsk} {s : Fd} (h : AlAt w BB BL g v D s) : ∀ k, AlR BB BL g v k → k < w.heap.size := fun k hk => by
  rcases hk with rfl | rfl | rfl | hk | rfl
  · exact heap_lt h.box
  · exact heap_lt h.l.box
  · exact heap_lt h.l.d.box
  · exact own_lt h.l.d.own k hk
  · exact World.block_lt_of_cell? w _ (h.tab 0 (by decide))
theorem AlAt.keeps {R : Nat → Prop} {w w' : World} {BB BL g : Nat} {v : Value} {D : Dsk} {s : Fd} (h : AlAt w BB BL g v D s) (hk : Keeps R w w') (hR : ∀ k, AlR BB BL g v k → R k) : AlAt w' BB BL g v D s :=
  ⟨hk.heap h.box (hR _ (.inl rfl)), h.l.keeps hk (hR _ (.inr (.inl rfl))) (hR _ (.inr (.inr (.inl rfl)))) (fun b hb => hR _ (.inr (.inr (.inr (.inl hb))))), fun i hi => hk.cell (h.tab i hi) (hR _ (.inr (.inr (.inr (.inr rfl)))))⟩
theorem lall_any (w : World) (p : Option Addr) :
    Calls Tryz.prog 25 #[.pointer p] w fun x w' => ∃ BB, x = .returned (.func (.func 56) #[] #[.pointer (some ⟨BB, 0, none⟩)]) ∧ w'.heap[BB]? = some (pbox p) ∧ Kept (fun _ => False) w w' ∧ w.heap.size ≤ BB := by
  go_enter Tryz.func25, Tryz.ntmps25
  go_wp2_with fail
  go_ret
  exact ⟨w.heap.size, rfl, heap_alloc _ _, (Kept.refl _ w).alloc _, Nat.le_refl _⟩
def IsFr (b0 : Nat) (B : List UInt8) (v : Value) (w : World) : Prop := ∃ BX vr, v = .func (.func 89) #[] #[.pointer (some ⟨BX, 0, none⟩)] ∧ w.heap[BX]? = some (.cells #[vr] 36 (0, 0)) ∧ RdB w vr B ∧ b0 ≤ BX ∧ ∀ k, blk vr k → b0 ≤ k
def stFr (b0 : Nat) (B : List UInt8) : Stable := ⟨IsFr b0 B, fun _ _ _ hk ⟨BX, vr, h1, h2, h3, h4, h5⟩ => ⟨BX, vr, h1, hk.heap h2 (fun h => h), h3.kept hk (fun _ _ h => h), h4, h5⟩⟩
def logL (D : Dsk) (s : Fd) : List Fd := framesF (D.rd 0 (s.fin : Int)) ((D.rd 0 (s.fin : Int)).length + 1) Fd.zero
theorem rd_le (D : Dsk) (a n : Int) : (D.rd a n).length ≤ D.b.length := by
  unfold Dsk.rd
  split
  · simp
  · simp only [List.length_take, List.length_drop]; omega
structure RdF (lo kf : Nat) (vv : Value) (f : Fd) (X Xp : Nat → Prop) (V : World) : Prop where
  box : V.heap[kf]? = some (fcell vv f)
  no : ¬ X kf
  rd : RdB V vv f.p
  pl : f.p.length ≠ 0 → ∀ k, blk vv k → lo ≤ k ∧ ¬ X k ∧ Xp k
theorem RdF.ab {lo kf : Nat} {vv : Value} {f : Fd} {A A' : World} {X X' Xp Xp' : Nat → Prop} (h : RdF lo kf vv f X Xp A) (hk : Kept X A A') (hx : ∀ k, X' k → X k ∨ (A.heap.size ≤ k ∧ k < A'.heap.size)) (hp : ∀ k, Xp k → Xp' k) : RdF lo kf vv f X' Xp' A' :=
  ⟨hk.heap h.box h.no, fun h' => by
    have := (Array.getElem?_eq_some_iff.1 h.box).1
    rcases hx kf h' with h2 | h2
    · exact h.no h2
    · omega, h.rd.keptE hk (fun hn k hb => (h.pl hn k hb).2.1), fun hn k hb => ⟨(h.pl hn k hb).1, fun h' => by
    have := h.rd.lt hn k hb
    rcases hx k h' with h2 | h2
    · exact (h.pl hn k hb).2.1 h2
    · omega, hp k (h.pl hn k hb).2.2⟩⟩
set_option maxHeartbeats 8000000 in
theorem all1_iter (w : World) (BB BL g : Nat) (v : Value) (D : Dsk) (s : Fd) (ha : AlAt w BB BL g v D s) (hD : D.b.length ≤ 1048576) (hs : s.fin ≤ 1048576) :
    IterE Tryz.prog 56 #[.pointer (some ⟨BB, 0, none⟩)] AlE (AlR BB BL g v) (logL D s) w := by
  intro y J Jx X W hW hX hJ hJx hY h0
  have HA := Lw.hid (ha.keeps hW (fun _ h => h))
  have HY := Lw.hid hY; have HJ := Lw.hid hJ; have HJX := Lw.hid hJx; have H0 := Lw.hid h0; have HX := Lw.hid hX
  have HLT := Lw.hid HA.out.lt
  obtain ⟨R, hR⟩ : ∃ R, AlR BB BL g v = R := ⟨_, rfl⟩
  have HR := Lw.hid hR
  rw [hR] at HY HLT
  obtain ⟨sf, hsf⟩ : ∃ sf, s.fin = sf := ⟨_, rfl⟩
  have HSF := Lw.hid hsf
  rw [hsf] at hs
  obtain ⟨B, hB⟩ : ∃ B, D.rd 0 (sf : Int) = B := ⟨_, rfl⟩
  have HB := Lw.hid hB
  have hBl : B.length ≤ 1048576 := by rw [← hB]; exact Nat.le_trans (rd_le _ _ _) hD
  have hxs : logL D s = framesF B (B.length + 1) Fd.zero := by unfold logL; rw [hsf, hB]
  rw [hxs] at HY ⊢
  have hBY := heap_alloc W (.cells #[.func (.yield y) #[] #[]] 116)
  obtain ⟨W0, hW0⟩ : ∃ W0, W.alloc (.cells #[.func (.yield y) #[] #[]] 116) = W0 := ⟨_, rfl⟩
  obtain ⟨BY, hBYe⟩ : ∃ BY, W.heap.size = BY := ⟨_, rfl⟩
  have KW : Hid (Kept (fun _ => False) W W0) := Lw.hid (by rw [← hW0]; exact (Kept.refl _ W).alloc _)
  rw [hW0, hBYe] at hBY
  have HYB := Lw.hid hBY
  have HBY := Lw.hid hBYe
  have hbW : BY < W0.heap.size := heap_lt hBY
  have HW0 := Lw.hid hW0
  clear hY hJ hJx h0 hW hX ha hR hsf hB hxs hBY hW0 hBYe
  refine calls_of_wp_marks Tryz.func56 rfl ?_
  simp only [Tryz.ntmps56, List.size_toArray, List.length_cons, List.length_nil, Nat.reduceAdd, Nat.reduceSub, Array.replicate_succ, Array.replicate_zero, List.push_toArray, List.append_toArray, List.nil_append, List.cons_append]
  have cb : (W.alloc (.cells #[.func (.yield y) #[] #[]] 116)).cell? ⟨BB, 0, none⟩ = some (.pointer (some ⟨BL, 0, none⟩)) := ((Kept.refl (fun _ => False) W).alloc _).cell (heap_cell HA.out.box 0) (fun h => h)
  go_wp2_with fail
  rw [HW0.out, HBY.out]
  rw [HW0.out] at cb
  have HA0 := Lw.hid (HA.out.keeps (KW.out.keeps (R := AlR BB BL g v) (fun _ _ _ h => h)) (fun _ h => h))
  refine (lnone_any W0 BL g _ _ _ HA0.out.l.box).mono ?_
  rintro e _ ⟨rfl, rfl⟩
  have c0 := heap_cell HA0.out.l.box 0
  have c1 : W0.cell? ⟨BL, 1, none⟩ = some (.int .i64 (sf : Int)) := by rw [← HSF.out]; exact heap_cell HA0.out.l.box 1
  go_wp2_with fail
  refine wp_region_tail 10 [stV (.pointer (some ⟨BL, 0, none⟩)), stV (.pointer (some ⟨BL, 0, none⟩)), stV (.pointer (some ⟨BL, 0, none⟩)), stV (.pointer (some ⟨g, 0, none⟩)), stV (.pointer (some ⟨BL, 0, none⟩)), stV (.pointer (some ⟨BL, 0, none⟩)), stV (.pointer (some ⟨BL, 1, none⟩)), stV (.int .i64 (sf : Int)), stOwn W0.heap.size B, stFr W0.heap.size B] (by kernel_rfl) (by kernel_rfl) ?_ ?_
  · refine ssteps_cons (fun a' w' hI hag hf K hK => ?_) ?_
    · have s1 := hag.same 1 (by decide)
      clear hag
      have HI' := Lw.hid hI
      have cc := hI.cell cb (fun h => h)
      clear hI
      go_wp2_with fail
      exact hK _ _ HI'.out (Kept.refl _ _) rfl
    iterate 2
      refine ssteps_cons (fun a' w' hI hag hf K hK => ?_) ?_
      · obtain ⟨⟨_, h0, rfl⟩, -⟩ := hf
        clear hag
        go_wp2_with fail
        exact hK _ _ hI (Kept.refl _ _) rfl
    refine ssteps_cons (fun a' w' hI hag hf K hK => ?_) ?_
    · obtain ⟨⟨_, h2, rfl⟩, -⟩ : SFacts _ _ a' w' [2] := hf
      clear hag
      have HI' := Lw.hid hI
      have cc := hI.cell c0 (fun h => h)
      clear hI
      go_wp2_with fail
      exact hK _ _ HI'.out (Kept.refl _ _) rfl
    refine ssteps_cons (fun a' w' hI hag hf K hK => ?_) ?_
    · have s1 := hag.same 1 (by decide)
      clear hag
      have HI' := Lw.hid hI
      have cc := hI.cell cb (fun h => h)
      clear hI
      go_wp2_with fail
      exact hK _ _ HI'.out (Kept.refl _ _) rfl
    iterate 2
      refine ssteps_cons (fun a' w' hI hag hf K hK => ?_) ?_
      · obtain ⟨⟨_, h0, rfl⟩, -⟩ := hf
        clear hag
        go_wp2_with fail
        exact hK _ _ hI (Kept.refl _ _) rfl
    refine ssteps_cons (fun a' w' hI hag hf K hK => ?_) ?_
    · obtain ⟨⟨_, h6, rfl⟩, -⟩ : SFacts _ _ a' w' [6] := hf
      clear hag
      have HI' := Lw.hid hI
      have cc := hI.cell c1 (fun h => h)
      clear hI
      go_wp2_with fail
      exact hK _ _ HI'.out (Kept.refl _ _) rfl
    refine ssteps_cons (fun a' w' hI hag hf K hK => ?_) ?_
    · obtain ⟨⟨_, h3, rfl⟩, ⟨_, h7, rfl⟩, -⟩ : SFacts _ _ a' w' [3, 7] := hf
      clear hag
      have HI' := Lw.hid hI
      clear hI
      go_wp2_with fail
      refine (dread_any w' g v D (HA0.out.l.d.kept HI'.out (fun h => h) (fun _ _ h => h)) hD 0 (sf : Int) (by decide) (by omega)).mono ?_
      rw [HB.out]
      rintro e w2 ⟨r, rfl, hr, hk, hb⟩
      have HB2 := Lw.hid hb; have HK := Lw.hid hk; have HR2 := Lw.hid hr
      obtain ⟨adr, capr, hre, _, _, _⟩ := own_slice hr
      obtain ⟨fl, hfl⟩ : ∃ fl, B.length = fl := ⟨_, rfl⟩
      rw [hfl] at hre
      subst hre
      clear hb hk hr hfl
      go_wp2_with fail
      exact hK _ _ (HI'.out.trans HK.out (fun _ _ h => h)) HK.out ⟨HR2.out, fun k hk => Nat.le_trans HI'.out.size (HB2.out k hk)⟩
    refine ssteps_cons (fun a' w' hI hag hf K hK => ?_) ?_
    · obtain ⟨⟨v8, h8, e8⟩, -⟩ : SFacts _ _ a' w' [8] := hf
      clear hag
      have HI' := Lw.hid hI
      have HE8 := Lw.hid e8
      clear hI e8
      go_wp2_with fail
      refine (frames_any w' _ B (RdB.of_own HE8.out.1 rfl)).mono ?_
      rintro e w2 ⟨BX, rfl, hbx, hk, hlx⟩
      have HBX := Lw.hid hbx; have HK := Lw.hid hk
      clear hbx hk
      go_wp2_with fail
      exact hK _ _ (HI'.out.trans HK.out (fun _ _ h => h)) HK.out ⟨BX, _, rfl, HBX.out, (RdB.of_own HE8.out.1 rfl : RdB w' _ B).kept HK.out (fun _ _ h => h), Nat.le_trans HI'.out.size hlx, HE8.out.2⟩
    exact trivial
  · intro vs w9 hI hvs
    have q8 := hvs 8 _ _ rfl rfl
    have q9 := hvs 9 _ _ rfl rfl
    simp only [pzz, putAll, Act.put, Nat.reduceAdd, spv (hvs 0 _ _ rfl rfl) rfl, spv (hvs 1 _ _ rfl rfl) rfl, spv (hvs 2 _ _ rfl rfl) rfl, spv (hvs 3 _ _ rfl rfl) rfl, spv (hvs 4 _ _ rfl rfl) rfl, spv (hvs 5 _ _ rfl rfl) rfl, spv (hvs 6 _ _ rfl rfl) rfl, spv (hvs 7 _ _ rfl rfl) rfl]
    clear hvs
    generalize vs 8 = x8 at *
    generalize vs 9 = x9 at *
    have K9 := Lw.hid (KW.out.trans hI (fun _ _ h => h))
    have HYB9 := Lw.hid (hI.heap HYB.out (fun h => h))
    have hs9 := hI.size
    obtain ⟨BX, vr, rfl, hbx, hrd, hb1, hb2⟩ := q9
    have FR : Hid (FrAt w9 BX vr B) := Lw.hid ⟨hbx, hrd, HA0.out.tab.below (hI.below (Nat.le_refl _) (fun _ _ h => h))⟩
    have HB2 := Lw.hid hb2
    clear hI q8 hbx hrd hb2
    obtain ⟨lo, hlo⟩ : ∃ lo, w9.heap.size = lo := ⟨_, rfl⟩
    have HLO := Lw.hid hlo
    have hBlo : BY < lo := by omega
    have FRL : Hid (∀ k, FrR BX vr B k → k < w9.heap.size ∧ (R k ∨ (BY ≤ k ∧ k < lo))) := Lw.hid (fun k hk => ⟨FR.out.lt k hk, by
      have h1 := FR.out.lt k hk
      rcases hk with h | ⟨_, h⟩ | h
      · exact .inr (by omega)
      · have := HB2.out k h; exact .inr (by omega)
      · exact .inl (by rw [← HR.out]; exact .inr (.inr (.inr (.inr h))))⟩)
    obtain ⟨Z, hZ⟩ : ∃ Z : (Nat → Prop) → Nat → Prop, Z = fun X' k => X k ∨ (BY ≤ k ∧ k < lo) ∨ X' k := ⟨_, rfl⟩
    have HZ := Lw.hid hZ
    have ZM : Hid (∀ (X1 X2 : Nat → Prop) (A A' : World), lo ≤ A.heap.size → (∀ k, X2 k → X1 k ∨ (A.heap.size ≤ k ∧ k < A'.heap.size)) → (∀ k, Z X2 k → Z X1 k ∨ (A.heap.size ≤ k ∧ k < A'.heap.size))) := Lw.hid (by
      intro X1 X2 A A' _ hx k hk
      rw [hZ] at hk ⊢
      rcases hk with h | h | h
      · exact .inl (.inl h)
      · exact .inl (.inr (.inl h))
      · exact (hx k h).imp (fun h => .inr (.inr h)) id)
    have ZX : Hid (∀ X' k, X' k → Z X' k) := Lw.hid (fun X' k h => by rw [hZ]; exact .inr (.inr h))
    have ZL : Hid (∀ X' (V : World), lo ≤ V.heap.size → (∀ k, X' k → k < V.heap.size) → ∀ k, Z X' k → k < V.heap.size) := Lw.hid (fun X' V h1 h2 k hk => by
      rw [hZ] at hk
      rcases hk with h | h | h
      · have := HX.out k h; have := HBY.out; omega
      · omega
      · exact h2 k h)
    have ZD : Hid (∀ X' k, lo ≤ k → ¬ X' k → ¬ Z X' k) := Lw.hid (fun X' k h1 h2 hk => by
      rw [hZ] at hk
      rcases hk with h | h | h
      · have := HX.out k h; have := HBY.out; omega
      · omega
      · exact h2 h)
    clear hlo hZ
    go_wp2_with fail
    refine wp_nm (fun ac hac => ?_)
    refine wp_rangeE (gf := 89) (lb := #[.pointer (some ⟨BX, 0, none⟩)]) (by rw [hac.out]; rfl) (Go.Proofs.enters_of Tryz.func89 (by kernel_rfl) rfl)
      (frames_iter w9 BX vr B FR.out hBl) FdE.mono (fun k hk => (FRL.out k hk).1) (fun _ _ _ x A W h => by obtain ⟨v, rfl, _⟩ := h; rfl)
      (fun X' pre V => J (Z X') pre V ∧ V.heap[BY]? = some (.cells #[.func (.yield y) #[] #[]] 116 (0, 0)) ∧ (∀ k, X' k → lo ≤ k) ∧ Keeps R W V ∧ lo ≤ V.heap.size)
      (fun c X' pre V => c = .ret ∧ Jx (Z X') pre V ∧ (∀ k, X' k → lo ≤ k) ∧ lo ≤ V.heap.size)
      ?_ ?_ ?_ (fun X' Xp q V => ∃ kf vv, RdF lo kf vv q.2.1 X' Xp V ∧ q.2.2 = { tmps := (ac.tmps.setIfInBounds 16 (.agg #[vv, .int .u32 (q.2.1.num : Int), .int .u32 (q.2.1.sum : Int), .int .i64 (q.2.1.fin : Int)])).setIfInBounds 3 (.pointer (some ⟨kf, 0, none⟩)), defers := [] }) ?_ ?assign ?body ?done ?stop
    · rintro X1 X2 s V V' ⟨h1, h2, h3, h4, h5⟩ hk hx
      have hBV := heap_lt h2
      refine ⟨HJ.out _ _ _ _ _ h1 (hk.mono (fun i _ h => ZX.out _ i h)) (ZM.out _ _ _ _ h5 hx), hk.heap h2 (fun h => by have := h3 _ h; omega), fun k hk' => ?_, h4.trans (hk.keeps (fun i hi hr hx => by have h6 := h3 i hx; have h7 := HLT.out i hr; have := HBY.out; omega)), Nat.le_trans h5 hk.size⟩
      rcases hx k hk' with h | h
      · exact h3 k h
      · omega
    · rintro c X1 X2 s V V' ⟨h0, h1, h3, h5⟩ hk hx
      refine ⟨h0, HJX.out _ _ _ _ _ h1 (hk.mono (fun i _ h => ZX.out _ i h)) (ZM.out _ _ _ _ h5 hx), fun k hk' => ?_, Nat.le_trans h5 hk.size⟩
      rcases hx k hk' with h | h
      · exact h3 k h
      · omega
    · refine ⟨HJ.out _ _ _ _ _ H0.out (K9.out.mono (fun _ _ h => h.elim)) (fun k hk => ?_), HYB9.out, fun _ h => h.elim, K9.out.keeps (fun _ _ _ h => h), by have := HLO.out; omega⟩
      rw [HZ.out] at hk
      rcases hk with h | h | h
      · exact .inl h
      · have := HLO.out; have := HBY.out; exact .inr (by omega)
      · exact h.elim
    · rintro X1 X2 Xp Xp' s V V' ⟨kf, vv, h1, h2⟩ hk hx hp
      exact ⟨kf, vv, h1.ab hk hx hp, h2⟩
    case assign =>
      rintro q X' Xp pre x A V K hi hXX ⟨vv, rfl, hrdv, hbv⟩ hXb hpx hsz hK
      obtain ⟨adv, capv, rfl, _, _, _⟩ := hrdv.open
      obtain ⟨pl, hpl⟩ : ∃ pl, x.p.length = pl := ⟨_, rfl⟩
      have HRV := Lw.hid hrdv; have HBV := Lw.hid hbv; have HPL := Lw.hid hpl
      rw [hpl] at HRV HBV ⊢
      clear hrdv hbv hpl
      have hac' := hac.out
      rw [hac'] at hK ⊢
      have HM := Lw.hid (made_fc V (.slice adv pl capv) x)
      have HI := Lw.hid hi; have HXB := Lw.hid hXb
      clear hi hXb
      gi_wp2
      have hi := HI.out
      refine hK _ _ (HM.out.1.keeps (fun _ _ _ h => h)) ⟨HJ.out _ _ _ _ _ hi.1 (HM.out.1.mono (fun _ _ h => h.elim)) (fun _ h => .inl h), HM.out.1.heap hi.2.1 (fun h => h), hi.2.2.1, hi.2.2.2.1.trans (HM.out.1.keeps (fun _ _ _ h => h)), Nat.le_trans hi.2.2.2.2 HM.out.1.size⟩ ⟨V.heap.size, .slice adv pl capv, ⟨HM.out.2, fun h => by have := (HXB.out _ (hXX _ h)).2; omega, HRV.out.kept HM.out.1 (fun _ _ h => h), fun hn k hk => by have h1 := HBV.out (by rw [← HPL.out]; exact hn) k hk; have := HLO.out; exact ⟨by omega, h1.2⟩⟩, rfl⟩
    case body =>
      rintro q X' Xp pre x a' V ⟨h1, h2, h3, h4, h5⟩ hXX ⟨kf, vv, hrf, hax⟩ hXb hpx hsz
      dsimp only at hax hrf
      subst hax
      rw [hac.out]
      simp only [List.setIfInBounds_toArray, List.set_cons_zero, List.set_cons_succ]
      obtain ⟨adv, capv, rfl, _, _, _⟩ := hrf.rd.open
      obtain ⟨pl, hpl⟩ : ∃ pl, x.p.length = pl := ⟨_, rfl⟩
      have HRF := Lw.hid hrf; have HPL := Lw.hid hpl; have HH1 := Lw.hid h1; have HH2 := Lw.hid h2; have HH3 := Lw.hid h3; have HH4 := Lw.hid h4; have HXB := Lw.hid hXb; have HXX := Lw.hid hXX
      rw [hpl] at HRF ⊢
      have k0 := heap_cell HRF.out.box 0; have k1 := heap_cell HRF.out.box 1
      have cY := heap_cell h2 0
      clear hrf hpl h1 h2 h3 h4 hXb hXX
      obtain ⟨fn, tmps, assign, body, hy, hRR⟩ := HY.out (Z X') (Z Xp) pre x V HH1.out (fun k hk => by rw [HZ.out] at hk ⊢; exact hk.imp id (fun h => h.imp id (HXX.out k))) (ZL.out Xp V h5 (fun k h => (HXB.out k h).2)) hpx #[.int .u32 (x.num : Int), .slice adv pl capv]
        ⟨_, rfl, HRF.out.rd, fun hn k hk => by
          have h6 := HRF.out.pl hn k hk
          exact ⟨by have := HBY.out; omega, ZD.out X' k h6.1 h6.2.1, ZX.out Xp k h6.2.2⟩⟩
      gi_wp2_with fail
      refine ⟨rfl, RoundIn.mono (F := Fence.wide.inRound q) (roundAny hRR) ?_⟩
      have kk : ∀ {W5 : World}, Keeps (fun k => R k ∨ Z X' k) V W5 → Keeps (fun k => FrR BX vr B k ∨ X' k) V W5 := fun hk5 => hk5.mono (fun i hi => hi.elim (fun h => (FRL.out i h).2.imp id (fun h => by rw [HZ.out]; exact .inr (.inl h))) (fun h => .inr (ZX.out X' i h)))
      rintro e W5 (⟨rfl, hj5, hk5⟩ | ⟨rfl, hx5, hk5⟩)
      · gi_wp2
        exact ⟨kk hk5, hj5, hk5.heap HH2.out (.inr (by rw [HZ.out]; exact .inr (.inl (by have := HLO.out; omega)))), fun k h => HH3.out k (HXX.out k h), HH4.out.trans (hk5.mono (fun i h => .inl h)), Nat.le_trans h5 hk5.1⟩
      · gi_wp2
        exact ⟨kk hk5, rfl, hx5, fun k h => HH3.out k (HXX.out k h), Nat.le_trans h5 hk5.1⟩
    case done =>
      rintro X' D' V hD' hXD hXb ⟨h1, h2, h3, h4, h5⟩ hdf
      rw [hac.out]
      go_wp2
      refine leaves_marks [D'] V (by simp) (fun r hr => by rw [List.mem_singleton.1 hr]; exact hdf) (fun V' hk => ?_)
      exact ⟨_, results_none rfl _ _ _, ⟨_, rfl⟩, .inl ⟨Z X', fun k hk' => Nat.lt_of_lt_of_le (ZL.out X' V h5 (fun k h => (hXb k h).2) k hk') hk.size, fun k h => by rw [HZ.out]; exact .inl h, HJ.out _ _ _ _ _ h1 (hk.mono (fun i _ h => by rw [List.mem_singleton.1 h]; exact ZX.out X' _ hXD)) (fun i h => .inl h)⟩⟩
    case stop =>
      rintro X' c pre D' V hD' hXD hXb hpre hne ⟨rfl, h2, h3, h5⟩ hdf
      rw [hac.out]
      go_wp2
      refine leaves_marks [D'] V (by simp) (fun r hr => by rw [List.mem_singleton.1 hr]; exact hdf) (fun V' hk => ?_)
      exact ⟨_, results_none rfl _ _ _, ⟨_, rfl⟩, .inr ⟨Z X', pre, fun k hk' => Nat.lt_of_lt_of_le (ZL.out X' V h5 (fun k h => (hXb k h).2) k hk') hk.size, fun k h => by rw [HZ.out]; exact .inl h, hpre, hne, HJX.out _ _ _ _ _ h2 (hk.mono (fun i _ h => by rw [List.mem_singleton.1 h]; exact ZX.out X' _ hXD)) (fun i h => .inl h)⟩⟩
structure RdP (lo : Nat) (vv : Value) (l : List UInt8) (X Xp : Nat → Prop) (V : World) : Prop where
  rd : RdB V vv l
  pl : l.length ≠ 0 → ∀ k, blk vv k → lo ≤ k ∧ ¬ X k ∧ Xp k
theorem RdP.ab {lo : Nat} {vv : Value} {l : List UInt8} {A A' : World} {X X' Xp Xp' : Nat → Prop} (h : RdP lo vv l X Xp A) (hk : Kept X A A') (hx : ∀ k, X' k → X k ∨ (A.heap.size ≤ k ∧ k < A'.heap.size)) (hp : ∀ k, Xp k → Xp' k) : RdP lo vv l X' Xp' A' :=
  ⟨h.rd.keptE hk (fun hn k hb => (h.pl hn k hb).2.1), fun hn k hb => ⟨(h.pl hn k hb).1, fun h' => by
    have := h.rd.lt hn k hb
    rcases hx k h' with h2 | h2
    · exact (h.pl hn k hb).2.1 h2
    · omega, hp k (h.pl hn k hb).2.2⟩⟩
def logP (D : Dsk) (s : Fd) : List (List UInt8) := (logL D s).map Fd.p
end Go.Proofs.YtgegjjnfcnalfaaGreatDoor
