/- Of the proof of TopBooks: LogA. -/
import Derived.Test.YtgegjjnfcnalfaaGreatDoorG12
namespace Go.Proofs.YtgegjjnfcnalfaaGreatDoor
open Go Go.RowKit Go.Lw
set_option maxRecDepth 100000
set_option linter.unusedVariables false
set_option linter.unusedSimpArgs false
structure LogAt (w : World) (BL g : Nat) (v : Value) (D : Dsk) (s : Fd) : Prop where
  box : w.heap[BL]? = some (logB g s)
  d : DiskAt w g v D
  ne : BL ≠ g
  ap : ¬ blk v BL
theorem LogAt.kept {S : Nat → Prop} {w w' : World} {BL g : Nat} {v : Value} {D : Dsk} {s : Fd} (h : LogAt w BL g v D s) (k : Kept S w w') (hl : ¬ S BL) (hg : ¬ S g) (hv : ∀ b, blk v b → ¬ S b) : LogAt w' BL g v D s :=
  ⟨k.heap h.box hl, h.d.kept k hg hv, h.ne, h.ap⟩
def fdOf (s : Fd) (p : List UInt8) : Fd := ⟨p, nextN s, checkN s.sum (nextN s) p, s.fin + 10 + p.length⟩
def appF (D : Dsk) (s : Fd) (p : List UInt8) : Dsk × Fd × Nat × Nat :=
  if 65535 < p.length then (D, s, 0, 3)
  else if (D.put (s.fin : Int) (frameB (nextN s) (checkN s.sum (nextN s) p) p)).2 = 0 then ((D.put (s.fin : Int) (frameB (nextN s) (checkN s.sum (nextN s) p) p)).1, fdOf s p, nextN s, 0)
  else ((D.put (s.fin : Int) (frameB (nextN s) (checkN s.sum (nextN s) p) p)).1, s, 0, (D.put (s.fin : Int) (frameB (nextN s) (checkN s.sum (nextN s) p) p)).2)
theorem nextN_lt (s : Fd) : nextN s < 4294967296 := Nat.mod_lt _ (by decide)
theorem frameB_len (a b : Nat) (p : List UInt8) : (frameB a b p).length = 10 + p.length := by unfold frameB; simp [be_length]; omega
theorem lnone_any (w : World) (BL g at_ sum next : Nat) (h : w.heap[BL]? = some (logC g at_ sum next)) :
    Calls Tryz.prog 57 #[.pointer (some ⟨BL, 0, none⟩)] w fun e w' => e = .returned (.bool false) ∧ w = w' := by
  have c0 := heap_cell h 0
  clear h
  go_enter Tryz.func57, Tryz.ntmps57
  go_wp2_with fail
  go_ret
  exact ⟨rfl, rfl⟩
def ApPost (w : World) (BL g : Nat) (v : Value) (D : Dsk) (s : Fd) (p : List UInt8) (e : Ending) (w' : World) : Prop :=
  e = .returned (.tuple #[.int .u32 ((appF D s p).2.2.1 : Int), .int .i64 ((appF D s p).2.2.2 : Int)]) ∧ ∃ v', LogAt w' BL g v' (appF D s p).1 (appF D s p).2.1 ∧ Kept (fun k => k = BL ∨ k = g ∨ blk v k) w w' ∧ ∀ k, blk v' k → blk v k ∨ w.heap.size ≤ k
set_option maxHeartbeats 8000000 in
theorem append_any (w : World) (BL g : Nat) (v : Value) (D : Dsk) (s : Fd) (h : LogAt w BL g v D s) (ok : D.ok) (ht : Tab w) (hs : s.fin ≤ 1048576) (hsum : s.sum < 4294967296) (src : Value) (p : List UInt8) (hp : RdB w src p) :
    Calls Tryz.prog 75 #[.pointer (some ⟨BL, 0, none⟩), src] w (ApPost w BL g v D s p) := by
  have H := Lw.hid h; have HT := Lw.hid ht; have OK := Lw.hid ok; have HP := Lw.hid hp
  obtain ⟨ad, cap, rfl, hc1, hc2, _⟩ := hp.open
  obtain ⟨n, hn⟩ : ∃ n, p.length = n := ⟨_, rfl⟩
  have HN := Lw.hid hn
  rw [hn] at hc1 HP ⊢
  unfold maxLen at hc2
  have hBL := heap_lt h.box
  have hgl := heap_lt h.d.box
  have HVL : Hid (∀ k, blk v k → k < w.heap.size) := Lw.hid (own_lt h.d.own)
  have c0 := heap_cell h.box 0; have c1 := heap_cell h.box 1; have c2 := heap_cell h.box 2; have c3 := heap_cell h.box 3
  have f1 := heap_free h.box 1; have f2 := heap_free h.box 2; have f3 := heap_free h.box 3
  obtain ⟨sf, hsf⟩ : ∃ sf, s.fin = sf := ⟨_, rfl⟩
  obtain ⟨ss, hss⟩ : ∃ ss, s.sum = ss := ⟨_, rfl⟩
  obtain ⟨nx, hnx⟩ : ∃ nx, nextN s = nx := ⟨_, rfl⟩
  have hnx9 : nx < 4294967296 := by rw [← hnx]; exact nextN_lt s
  rw [hsf] at c1 hs; rw [hss] at c2 hsum; rw [hnx] at c3
  have HSF := Lw.hid hsf; have HSS := Lw.hid hss; have HNX := Lw.hid hnx
  clear h ht ok hp hn hsf hss hnx
  go_enter Tryz.func75, Tryz.ntmps75
  go_wp2_with fail
  refine (lnone_any w BL g _ _ _ H.out.box).mono ?_
  rintro e _ ⟨rfl, rfl⟩
  by_cases hlong : 65535 < n
  · have hq : decide ((65535 : Int) < (n : Int)) = true := by simp; omega
    have HA : Hid (appF D s p = (D, s, 0, 3)) := Lw.hid (by unfold appF; rw [HN.out, if_pos hlong])
    go_wp2_with fail
    refine bodyPost_ret (v := .tuple #[.int .u32 0, .int .i64 3]) (by simp [results, go_sem]) rfl ?_
    refine ⟨by rw [HA.out]; rfl, v, by rw [HA.out]; exact H.out, Kept.refl _ _, fun k hk => .inl hk⟩
  have hq : decide ((65535 : Int) < (n : Int)) = false := by simp; omega
  go_wp2_with fail
  refine (check_any w ss nx _ p HP.out (by rw [HN.out]; omega) hsum hnx9 HT.out).mono ?_
  rintro e w1 ⟨rfl, k1⟩
  have hcl := checkN_lt ss nx p
  obtain ⟨cs, hcs⟩ : ∃ cs, checkN ss nx p = cs := ⟨_, rfl⟩
  have HCS := Lw.hid hcs
  rw [hcs] at hcl ⊢
  have K1 := Lw.hid k1
  have d0 := k1.cell c0 (fun h => h); have d1 := k1.cell c1 (fun h => h)
  have H1 := Lw.hid (H.out.kept k1 (fun h => h) (fun h => h) (fun _ _ h => h)); have HP1 := Lw.hid (HP.out.kept k1 (fun _ _ h => h))
  have hs1 := k1.size
  clear hcs k1
  go_wp2_with fail
  refine wp_region_tail 12 [stV (.pointer (some ⟨BL, 0, none⟩)), stV (.pointer (some ⟨BL, 0, none⟩)), stV (.pointer (some ⟨BL, 0, none⟩)), stV (.pointer (some ⟨g, 0, none⟩)), stV (.pointer (some ⟨BL, 0, none⟩)), stV (.pointer (some ⟨BL, 0, none⟩)), stV (.pointer (some ⟨BL, 1, none⟩)), stV (.int .i64 (sf : Int)), stV (.int .u32 (nx : Int)), stV (.int .u32 (cs : Int)), stV (.slice ad n cap), stOwn w1.heap.size (frameB nx cs p)] (by kernel_rfl) (by kernel_rfl) ?_ ?_
  · iterate 3
      refine ssteps_cons (fun a' w' hI hag hf K hK => ?_) ?_
      · obtain ⟨⟨_, h0, rfl⟩, -⟩ := hf
        have s0 := hag.same 0 (by decide)
        clear hag
        go_wp2_with fail
        exact hK _ _ hI (Kept.refl _ _) rfl
    refine ssteps_cons (fun a' w' hI hag hf K hK => ?_) ?_
    · obtain ⟨⟨_, h2, rfl⟩, -⟩ : SFacts _ _ a' w' [2] := hf
      clear hag
      have HI' := Lw.hid hI
      have cc := hI.cell d0 (fun h => h)
      clear hI
      go_wp2_with fail
      exact hK _ _ HI'.out (Kept.refl _ _) rfl
    iterate 3
      refine ssteps_cons (fun a' w' hI hag hf K hK => ?_) ?_
      · obtain ⟨⟨_, h0, rfl⟩, -⟩ := hf
        have s0 := hag.same 0 (by decide)
        clear hag
        go_wp2_with fail
        exact hK _ _ hI (Kept.refl _ _) rfl
    refine ssteps_cons (fun a' w' hI hag hf K hK => ?_) ?_
    · obtain ⟨⟨_, h6, rfl⟩, -⟩ : SFacts _ _ a' w' [6] := hf
      clear hag
      have HI' := Lw.hid hI
      have cc := hI.cell d1 (fun h => h)
      clear hI
      go_wp2_with fail
      exact hK _ _ HI'.out (Kept.refl _ _) rfl
    iterate 3
      refine ssteps_cons (fun a' w' hI hag hf K hK => ?_) ?_
      · have s1 := hag.same 1 (by decide)
        have s6 := hag.same 6 (by decide)
        have s7 := hag.same 7 (by decide)
        clear hag
        go_wp2_with fail
        exact hK _ _ hI (Kept.refl _ _) rfl
    refine ssteps_cons (fun a' w' hI hag hf K hK => ?_) ?_
    · obtain ⟨⟨_, h8, rfl⟩, ⟨_, h9, rfl⟩, ⟨_, h10, rfl⟩, -⟩ : SFacts _ _ a' w' [8, 9, 10] := hf
      clear hag
      have HI' := Lw.hid hI
      clear hI
      go_wp2_with fail
      refine (frame_any w' nx cs _ p (HP1.out.kept HI'.out (fun _ _ h => h)) (by rw [HN.out]; omega) hnx9 hcl).mono ?_
      rintro e w2 ⟨r, rfl, hr, hb, hk⟩
      have HB := Lw.hid hb; have HK := Lw.hid hk; have HR2 := Lw.hid hr
      obtain ⟨adr, capr, hre, _, _, _⟩ := own_slice hr
      obtain ⟨fl, hfl⟩ : ∃ fl, (frameB nx cs p).length = fl := ⟨_, rfl⟩
      rw [hfl] at hre
      subst hre
      clear hb hk hr hfl
      go_wp2_with fail
      exact hK _ _ (HI'.out.trans HK.out (fun _ _ h => h)) HK.out ⟨HR2.out, fun k hk => Nat.le_trans HI'.out.size (HB.out k hk)⟩
    exact trivial
  · intro vs w9 hI hvs
    have q11 := hvs 11 _ _ rfl rfl
    simp only [pzz, putAll, Act.put, Nat.reduceAdd, spv (hvs 0 _ _ rfl rfl) rfl, spv (hvs 1 _ _ rfl rfl) rfl, spv (hvs 2 _ _ rfl rfl) rfl, spv (hvs 3 _ _ rfl rfl) rfl, spv (hvs 4 _ _ rfl rfl) rfl, spv (hvs 5 _ _ rfl rfl) rfl, spv (hvs 6 _ _ rfl rfl) rfl, spv (hvs 7 _ _ rfl rfl) rfl, spv (hvs 8 _ _ rfl rfl) rfl, spv (hvs 9 _ _ rfl rfl) rfl, spv (hvs 10 _ _ rfl rfl) rfl]
    clear hvs
    generalize vs 11 = x11 at *
    have HK9 := Lw.hid hI
    have HQ := Lw.hid q11
    obtain ⟨adz, capz, hz4, _, _, _⟩ := own_slice q11.1
    have hk9 := hI.size
    clear hI q11
    obtain ⟨zl, hzl⟩ : ∃ zl, (frameB nx cs p).length = zl := ⟨_, rfl⟩
    have HZL := Lw.hid hzl
    rw [hzl] at hz4
    subst hz4
    clear hzl
    have H9 := Lw.hid (H1.out.kept HK9.out (fun h => h) (fun h => h) (fun _ _ h => h))
    go_wp2_with fail
    refine (dput_any w9 g v D H9.out.d OK.out (sf : Int) (by omega) _ (frameB nx cs p) (RdB.of_own HQ.out.1 rfl) (fun _ k hk => by have h1 := HQ.out.2 k (by rw [← HZL.out] at hk ⊢; exact hk); exact ⟨by omega, fun hb => by have := HVL.out k hb; omega⟩)).mono ?_
    rintro e wA ⟨rfl, vA, dA, kA, fA⟩
    obtain ⟨⟨D1, er⟩, hp⟩ : ∃ x, D.put (sf : Int) (frameB nx cs p) = x := ⟨_, rfl⟩
    rw [hp] at dA ⊢
    have HPUT : Hid (D.put (s.fin : Int) (frameB (nextN s) (checkN s.sum (nextN s) p) p) = (D1, er)) := Lw.hid (by rw [HSF.out, HSS.out, HNX.out, HCS.out]; exact hp)
    have DA := Lw.hid dA; have FA := Lw.hid fA
    have KA : Hid (Kept (fun k => k = g ∨ blk v k) w wA) := Lw.hid (((K1.out.trans HK9.out (fun _ _ h => h)).mono (fun _ _ h => h.elim)).trans kA (fun _ _ h => h))
    have hnb : ¬ (BL = g ∨ blk v BL) := fun e => e.elim H.out.ne H.out.ap
    have bxA := KA.out.heap H.out.box hnb
    have g1 : wA.cell? ⟨BL, 1, none⟩ = some (.int .i64 (sf : Int)) := by rw [← HSF.out]; exact heap_cell bxA 1
    have g2 := heap_cell bxA 2; have g3 := heap_cell bxA 3
    have e1 := heap_free bxA 1; have e2 := heap_free bxA 2; have e3 := heap_free bxA 3
    have BXA := Lw.hid bxA
    clear dA kA fA hp bxA
    dsimp only
    by_cases he : er = 0
    · subst he
      have HA : Hid (appF D s p = (D1, fdOf s p, nx, 0)) := Lw.hid (by unfold appF; rw [HPUT.out, if_neg (by rw [HN.out]; omega), if_pos rfl, HNX.out])
      go_wp2_with fail
      refine bodyPost_ret (v := .tuple #[.int .u32 (nx : Int), .int .i64 0]) (by simp [results, go_sem]) rfl ?_
      obtain ⟨w7, hw7⟩ : ∃ w7, ((wA.setCell ⟨BL, 1, none⟩ (.int .i64 ((sf : Int) + 10 + (n : Int)))).setCell ⟨BL, 2, none⟩ (.int .u32 (cs : Int))).setCell ⟨BL, 3, none⟩ (.int .u32 (((nx : Int) + 1) % 4294967296)) = w7 := ⟨_, rfl⟩
      have K7 : Kept (fun k => k = BL) wA w7 := by rw [← hw7]; exact ((((Kept.refl (fun k => k = BL) wA).set BL 1 (fun _ => rfl) _).set BL 2 (fun _ => rfl) _).set BL 3 (fun _ => rfl) _)
      have hb7 : w7.heap[BL]? = some (logB g (fdOf s p)) := by
        have e1 : (logB g (fdOf s p)) = .cells (((#[.pointer (some ⟨g, 0, none⟩), .int .i64 (s.fin : Int), .int .u32 (s.sum : Int), .int .u32 (nextN s : Int)].setIfInBounds 1 (.int .i64 ((sf : Int) + 10 + (n : Int)))).setIfInBounds 2 (.int .u32 (cs : Int))).setIfInBounds 3 (.int .u32 (((nx : Int) + 1) % 4294967296))) 110 (0, 0) := by
          have a1 : ((fdOf s p).fin : Int) = (sf : Int) + 10 + (n : Int) := by show ((s.fin + 10 + p.length : Nat) : Int) = _; rw [HSF.out, HN.out]; omega
          have a2 : ((fdOf s p).sum : Int) = (cs : Int) := by show ((checkN s.sum (nextN s) p : Nat) : Int) = _; rw [HSS.out, HNX.out, HCS.out]
          have a3 : (nextN (fdOf s p) : Int) = ((nx : Int) + 1) % 4294967296 := by show (((nextN s + 1) % 4294967296 : Nat) : Int) = _; rw [HNX.out]; omega
          unfold logB logC
          rw [a1, a2, a3]; rfl
        rw [e1, ← hw7]
        exact heap_set (heap_set (heap_set BXA.out 1 _) 2 _) 3 _
      rw [hw7]
      refine ⟨by rw [HA.out]; rfl, vA, ?_, (KA.out.mono (fun _ _ h => .inr h)).trans K7 (fun i _ e => .inl e), fun k hk => (FA.out k hk).imp id (fun h => by omega)⟩
      rw [HA.out]
      have hap : ¬ blk vA BL := fun hb => by rcases FA.out _ hb with h | h; exact H.out.ap h; omega
      exact ⟨hb7, DA.out.kept K7 (fun e => H.out.ne e.symm) (fun b hb e => hap (e ▸ hb)), H.out.ne, hap⟩
    · have hen : ((er : Int) != 0) = true := by rw [bne_iff_ne]; omega
      have HA : Hid (appF D s p = (D1, s, 0, er)) := Lw.hid (by unfold appF; rw [HPUT.out, if_neg (by rw [HN.out]; omega), if_neg he])
      go_wp2_with fail
      refine bodyPost_ret (v := .tuple #[.int .u32 0, .int .i64 (er : Int)]) (by simp [results, go_sem]) rfl ?_
      exact ⟨by rw [HA.out]; rfl, vA, by rw [HA.out]; exact ⟨BXA.out, DA.out, H.out.ne, fun hb => by rcases FA.out _ hb with h | h; exact H.out.ap h; omega⟩, KA.out.mono (fun _ _ h => .inr h), fun k hk => (FA.out k hk).imp id (fun h => by omega)⟩
end Go.Proofs.YtgegjjnfcnalfaaGreatDoor
