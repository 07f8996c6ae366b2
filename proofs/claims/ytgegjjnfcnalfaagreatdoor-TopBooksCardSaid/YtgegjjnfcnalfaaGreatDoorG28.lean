/- Of the proof of TopBooks: JI. -/
import Derived.Test.YtgegjjnfcnalfaaGreatDoorG19
import Derived.Test.YtgegjjnfcnalfaaGreatDoorG26
import Derived.Test.YtgegjjnfcnalfaaGreatDoorG27
import Derived.Test.YtgegjjnfcnalfaaGreatDoorG23
import Derived.Test.YtgegjjnfcnalfaaGreatDoorG14
namespace Go.Proofs.YtgegjjnfcnalfaaGreatDoor
open Go Go.RowKit Go.Lw
set_option maxRecDepth 100000
set_option linter.unusedVariables false
set_option linter.unusedSimpArgs false
attribute [local go_sem] BA_toList
def stFM (w0 : World) : Stable := ⟨fun v w => ∃ b, v = .map (some b) ∧ FMap w0 w Tryz.prog 5 b 6 doesL, fun _ _ _ hk ⟨b, h1, h2⟩ => ⟨b, h1, h2.keep hk⟩⟩
theorem look_does {W0 w : World} {b : Nat} (h : FMap W0 w Tryz.prog 5 b 6 doesL) (k : Int) (hk : 0 ≤ k ∧ k ≤ 255) (v : Value) (hv : assocI doesL k = some v) : (Instr.lookup 74 (.map (some b)) (.int .u8 k) false).run Tryz.prog w = .ok v w := by
  obtain ⟨z, hz⟩ : ∃ z, (zeroValue 73).run Tryz.prog w = .ok z w := ⟨_, rfl⟩
  exact h.look Tryz.underlying5 Tryz.underlying74 hz k hk v hv
def aR (S : Nat → Prop) (γ : Bool) (w : World) (γ' : Bool) (w' : World) : Prop := Kept S w w' ∧ (γ = true → γ' = true ∧ Kept (fun _ => False) w w')
structure AI (m : Nat) (S : Nat → Prop) (Φ : World → Prop) (w1 : World) (D : Nat → Bool) (γ : Bool) (w : World) : Prop where
  kept : Kept S w1 w
  no : D m = false → γ = false ∧ Kept (fun _ => False) w1 w
  yes : D m = true → γ = true ∧ Φ w
theorem AI.start {m : Nat} {S : Nat → Prop} {Φ : World → Prop} {w1 w : World} (k : Kept (fun _ => False) w1 w) : AI m S Φ w1 (fun _ => false) false w := ⟨k.mono (fun _ _ h => h.elim), fun _ => ⟨rfl, k⟩, fun h => by cases h⟩
theorem AI.pure {m : Nat} {S : Nat → Prop} {Φ : World → Prop} {w1 w w' : World} {D : Nat → Bool} {γ : Bool} (hΦ : ∀ a b, Kept (fun _ => False) a b → Φ a → Φ b) (h : AI m S Φ w1 D γ w) (k : Kept (fun _ => False) w w') {j : Nat} (hj : (m == j) = false) : AI m S Φ w1 (fun k => if k = j then true else D k) γ w' := by
  have e : (if m = j then true else D m) = D m := if_neg (by simpa using hj)
  exact ⟨h.kept.trans k (fun _ _ h => h.elim), fun h1 => ⟨(h.no (e ▸ h1)).1, (h.no (e ▸ h1)).2.trans k (fun _ _ h => h)⟩, fun h1 => ⟨(h.yes (e ▸ h1)).1, hΦ _ _ k (h.yes (e ▸ h1)).2⟩⟩
theorem aR.pure {S : Nat → Prop} {w w' : World} {γ : Bool} (k : Kept (fun _ => False) w w') : aR S γ w γ w' := ⟨k.mono (fun _ _ h => h.elim), fun h => ⟨h, k⟩⟩
def aOwn (S : Nat → Prop) (b0 : Nat) (hS : ∀ k, S k → k < b0) (l : List UInt8) : StableG (aR S) := ⟨fun v _ w => IsOwn b0 l v w, fun _ _ _ _ _ hr h => ⟨own_kept hr.1 h.1 (fun k hk e => by have := h.2 k hk; have := hS k e; omega), h.2⟩⟩
def AJPost (w : World) (BL g : Nat) (v : Value) (D : Dsk) (s : Fd) (B : Nat → Prop) (j : Nat) (J : Jr) (e : Ending) (w' : World) : Prop :=
  e = .returned (.int .i64 0) ∧ ∃ v' F va sp, LogAt w' BL g v' D s ∧ (∀ k, blk v' k → blk v k ∨ w.heap.size ≤ k) ∧ JAt w' F j BL va sp J ∧ (∀ k, F k → (B k ∨ w.heap.size ≤ k) ∧ k ≠ BL ∧ k ≠ g ∧ ¬ blk v' k) ∧ Kept (fun k => B k ∨ k = BL ∨ k = g ∨ blk v k) w w'
set_option maxHeartbeats 8000000 in
theorem jappend_no (w : World) (j : Nat) (k id : Int) (t : List UInt8) (ch off num : Int) (sq : Option Addr) (a b d : Int) (er : Int) (her : er ≠ 0)
    (hfit : ∀ w', Kept (fun _ => False) w w' → Calls Tryz.prog 67 #[.pointer (some ⟨j, 0, none⟩), rv k id t ch off num sq a b d] w' fun e w2 => e = .returned (.int .i64 er) ∧ Kept (fun _ => False) w' w2) :
    Calls Tryz.prog 30 #[.pointer (some ⟨j, 0, none⟩), rv k id t ch off num sq a b d] w fun e w' => e = .returned (.int .i64 er) ∧ Kept (fun _ => False) w w' := by
  have HF := Lw.hid hfit
  have hen : (er == 0) = false := by simpa using her
  have hen' : (er != 0) = true := by simpa using her
  clear hfit her
  unfold rv at HF ⊢
  go_enter Tryz.func30, Tryz.ntmps30
  go_wp2_with fail
  have k1 : Kept (fun _ => False) w (w.alloc (.cells #[.int .u8 k, .int .u32 id, .string (BA t), .int .i64 ch, .int .i64 off, .int .i64 num, .pointer sq, .int .u32 a, .int .u32 b, .int .u32 d] 69)) := (Kept.refl _ w).alloc _
  refine (HF.out _ k1).mono ?_
  rintro e w2 ⟨rfl, k2⟩
  have K2 := Lw.hid (k1.trans k2 (fun _ _ h => h))
  clear k1 k2
  go_wp2_with fail
  go_ret
  exact ⟨by simp, K2.out⟩
set_option maxHeartbeats 8000000 in
theorem jappend1 (w : World) (F B : Nat → Prop) (j BL sp : Nat) (va : Value) (J J' : Jr) (h : JAt w F j BL va sp J) (g : Nat) (v : Value) (DD D' : Dsk) (s s' : Fd) (nn : Nat) (hl : LogAt w BL g v DD s) (ok : DD.ok) (ht : Tab w) (hsf : s.fin ≤ 1048576) (hsum : s.sum < 4294967296) (hFB : ∀ k, F k → B k) (hB : ∀ k, B k → k < w.heap.size ∧ k ≠ BL ∧ k ≠ g ∧ ¬ blk v k)
    (id : Int) (t : List UInt8) (ch off num : Int) (sq : Option Addr) (a b d : Int) (p : List UInt8) (hap : appF DD s p = (D', s', nn, 0))
    (hfit : ∀ w', Kept (fun _ => False) w w' → Calls Tryz.prog 67 #[.pointer (some ⟨j, 0, none⟩), rv 1 id t ch off num sq a b d] w' fun e w2 => e = .returned (.int .i64 0) ∧ Kept (fun _ => False) w' w2)
    (hbyt : ∀ w', Kept (fun _ => False) w w' → Calls Tryz.prog 76 #[rv 1 id t ch off num sq a b d] w' fun e w2 => BPost w' w2 e p)
    (hdo : ∀ w', Kept (fun k => k = BL ∨ k = g ∨ blk v k) w w' → Calls Tryz.prog 69 #[.pointer (some ⟨j, 0, none⟩), rv 1 id t ch off num sq a b d] w' fun e w2 => e = .returned (.tuple #[]) ∧ JPost w' w2 B B j BL J') :
    Calls Tryz.prog 30 #[.pointer (some ⟨j, 0, none⟩), rv 1 id t ch off num sq a b d] w (AJPost w BL g v D' s' B j J') := by
  have H := Lw.hid h; have HL := Lw.hid hl; have OK := Lw.hid ok; have HT := Lw.hid ht; have HFI := Lw.hid hfit; have HBY := Lw.hid hbyt; have HDO := Lw.hid hdo; have HAP := Lw.hid hap; have HBB := Lw.hid hB
  unfold rv at HFI HBY HDO ⊢
  obtain ⟨w1, hw1⟩ : ∃ w1, w.alloc (.cells #[.int .u8 1, .int .u32 id, .string (BA t), .int .i64 ch, .int .i64 off, .int .i64 num, .pointer sq, .int .u32 a, .int .u32 b, .int .u32 d] 69) = w1 := ⟨_, rfl⟩
  obtain ⟨r, hr⟩ : ∃ r, w.heap.size = r := ⟨_, rfl⟩
  have K1 : Hid (Kept (fun _ => False) w w1) := Lw.hid (by rw [← hw1]; exact (Kept.refl _ w).alloc _)
  have HRB : Hid (w1.heap[r]? = some (.cells #[.int .u8 1, .int .u32 id, .string (BA t), .int .i64 ch, .int .i64 off, .int .i64 num, .pointer sq, .int .u32 a, .int .u32 b, .int .u32 d] 69 (0, 0))) := Lw.hid (by rw [← hw1, ← hr]; exact heap_alloc w _)
  have HW1 := Lw.hid hw1; have HR := Lw.hid hr
  clear h hl ok ht hfit hbyt hdo hap hw1 hr hB
  go_enter Tryz.func30, Tryz.ntmps30
  go_wp2_with fail
  rw [HW1.out, HR.out]
  refine (HFI.out w1 K1.out).mono ?_
  rintro e w2 ⟨rfl, k2⟩
  have K2 := Lw.hid (K1.out.trans k2 (fun _ _ h => h))
  have HRB2 := Lw.hid (k2.heap HRB.out (fun h => h))
  have H2 := Lw.hid (H.out.kept K2.out (fun _ _ h => h))
  clear k2
  have HSL : Hid (∀ k, (k = BL ∨ k = g ∨ blk v k) → k < w2.heap.size) := Lw.hid (fun k hk => by
    have hz := K2.out.size
    rcases hk with h | h | h
    · have := heap_lt HL.out.box; omega
    · have := heap_lt HL.out.d.box; omega
    · have := own_lt HL.out.d.own _ h; omega)
  have HRN : Hid (¬ (r = BL ∨ r = g ∨ blk v r)) := Lw.hid (fun hk => by
    have hz := HR.out
    rcases hk with h | h | h
    · have := heap_lt HL.out.box; omega
    · have := heap_lt HL.out.d.box; omega
    · have := own_lt HL.out.d.own _ h; omega)
  have HJN : Hid (¬ (j = BL ∨ j = g ∨ blk v j)) := Lw.hid (fun hk => by
    have hz := HBB.out j (hFB j H.out.fj)
    rcases hk with h | h | h
    · exact hz.2.1 h
    · exact hz.2.2.1 h
    · exact hz.2.2.2 h)
  have HPH : Hid (∀ (x y : World), Kept (fun _ => False) x y → (∃ v', LogAt x BL g v' D' s' ∧ ∀ k, blk v' k → blk v k ∨ w.heap.size ≤ k) → ∃ v', LogAt y BL g v' D' s' ∧ ∀ k, blk v' k → blk v k ∨ w.heap.size ≤ k) := Lw.hid (fun x y k ⟨v', h1, h2⟩ => ⟨v', h1.kept k (fun h => h) (fun h => h) (fun _ _ h => h), h2⟩)
  go_wp2_with fail
  refine wp_region_set 12 (AI 6 (fun k => k = BL ∨ k = g ∨ blk v k) (fun wx => ∃ v', LogAt wx BL g v' D' s' ∧ ∀ k, blk v' k → blk v k ∨ w.heap.size ≤ k) w2) (aR (fun k => k = BL ∨ k = g ∨ blk v k)) [gV (.pointer (some ⟨j, 0, none⟩)), gV (.pointer (some ⟨j, 0, none⟩)), gV (.pointer (some ⟨j, 0, none⟩)), gV (.pointer (some ⟨BL, 0, none⟩)), gV (.agg #[.int .u8 1, .int .u32 id, .string (BA t), .int .i64 ch, .int .i64 off, .int .i64 num, .pointer sq, .int .u32 a, .int .u32 b, .int .u32 d]), aOwn (fun k => k = BL ∨ k = g ∨ blk v k) w2.heap.size HSL.out p, gV (.tuple #[.int .u32 (nn : Int), .int .i64 0]), gV (.tuple #[.int .u32 (nn : Int), .int .i64 0]), gV (.int .u32 (nn : Int)), gV (.int .i64 0), gV (.int .u32 (nn : Int)), gV (.int .i64 0)] (false) (by kernel_rfl) (by kernel_rfl) (AI.start ((Kept.refl _ w2).drew)) ?_ ?_
  · refine gsteps_cons (fun D γ a' w' hI hD0 hdep hcl hag hlt hf K hK => ?_) ?_
    · have s0 := hag.same 0 (by decide)
      clear hlt
      clear hag
      go_wp2_with fail
      exact hK _ _ _ (hI.pure HPH.out (Kept.refl _ _) rfl) (aR.pure (Kept.refl _ _)) rfl
    refine gsteps_cons (fun D γ a' w' hI hD0 hdep hcl hag hlt hf K hK => ?_) ?_
    · obtain ⟨⟨_, h0, rfl⟩, -⟩ : SFacts _ _ a' w' [0] := hf
      clear hlt
      clear hag
      go_wp2_with fail
      exact hK _ _ _ (hI.pure HPH.out (Kept.refl _ _) rfl) (aR.pure (Kept.refl _ _)) rfl
    refine gsteps_cons (fun D γ a' w' hI hD0 hdep hcl hag hlt hf K hK => ?_) ?_
    · obtain ⟨⟨_, h1, rfl⟩, -⟩ : SFacts _ _ a' w' [1] := hf
      clear hlt
      clear hag
      go_wp2_with fail
      exact hK _ _ _ (hI.pure HPH.out (Kept.refl _ _) rfl) (aR.pure (Kept.refl _ _)) rfl
    refine gsteps_cons (fun D γ a' w' hI hD0 hdep hcl hag hlt hf K hK => ?_) ?_
    · obtain ⟨⟨_, h2, rfl⟩, -⟩ : SFacts _ _ a' w' [2] := hf
      clear hlt
      clear hag
      have c0 := heap_cell (hI.kept.heap H2.out.box HJN.out) 0
      go_wp2_with fail
      exact hK _ _ _ (hI.pure HPH.out (Kept.refl _ _) rfl) (aR.pure (Kept.refl _ _)) rfl
    refine gsteps_cons (fun D γ a' w' hI hD0 hdep hcl hag hlt hf K hK => ?_) ?_
    · have s3 := hag.same 3 (by decide)
      clear hlt
      clear hag
      have c0 := heap_cell (hI.kept.heap HRB2.out HRN.out) 0
      have c1 := heap_cell (hI.kept.heap HRB2.out HRN.out) 1
      have c2 := heap_cell (hI.kept.heap HRB2.out HRN.out) 2
      have c3 := heap_cell (hI.kept.heap HRB2.out HRN.out) 3
      have c4 := heap_cell (hI.kept.heap HRB2.out HRN.out) 4
      have c5 := heap_cell (hI.kept.heap HRB2.out HRN.out) 5
      have c6 := heap_cell (hI.kept.heap HRB2.out HRN.out) 6
      have c7 := heap_cell (hI.kept.heap HRB2.out HRN.out) 7
      have c8 := heap_cell (hI.kept.heap HRB2.out HRN.out) 8
      have c9 := heap_cell (hI.kept.heap HRB2.out HRN.out) 9
      go_wp2_with fail
      exact hK _ _ _ (hI.pure HPH.out (Kept.refl _ _) rfl) (aR.pure (Kept.refl _ _)) rfl
    refine gsteps_cons (fun D γ a' w' hI hD0 hdep hcl hag hlt hf K hK => ?_) ?_
    · obtain ⟨⟨_, h4, rfl⟩, -⟩ : SFacts _ _ a' w' [4] := hf
      clear hlt
      clear hag
      have h6 : D 6 = false := by cases hx : D 6 with | false => rfl | true => exact absurd (hcl 6 _ rfl hx 5 (by decide)) (by rw [hD0]; decide)
      have hq := hI.no h6
      have HI := Lw.hid hI; have HQ := Lw.hid hq.2
      clear hI hq
      go_wp2_with fail
      refine (HBY.out w' (K2.out.trans HQ.out (fun _ _ h => h))).mono ?_
      rintro e w4 ⟨rr, rfl, ⟨ho4, hb4⟩, k4⟩
      have HO4 := Lw.hid ho4; have HB4 := Lw.hid hb4; have K4 := Lw.hid k4
      clear ho4 hb4 k4
      go_wp2_with fail
      exact hK _ _ _ (HI.out.pure HPH.out K4.out rfl) (aR.pure K4.out) ⟨HO4.out, fun k hk => Nat.le_trans HQ.out.size (HB4.out k hk)⟩
    refine gsteps_cons (fun D γ a' w' hI hD0 hdep hcl hag hlt hf K hK => ?_) ?_
    · obtain ⟨⟨_, h3, rfl⟩, ⟨v5, h5, e5⟩, -⟩ : SFacts _ _ a' w' [3, 5] := hf
      clear hlt
      clear hag
      obtain ⟨ho5, hb5⟩ := e5
      obtain ⟨pl, hpl⟩ : ∃ pl, p.length = pl := ⟨_, rfl⟩
      obtain ⟨adp, capp, hxe, _, _, _⟩ := own_slice ho5
      rw [hpl] at hxe
      have HO5 := Lw.hid ho5; have HPL := Lw.hid hpl
      have hq := hI.no hD0
      have HI := Lw.hid hI; have HQ := Lw.hid hq.2; have HG0 := Lw.hid hq.1
      clear hI hq ho5 hb5 hpl
      subst hxe
      go_wp2_with fail
      refine (append_any w' BL g v DD s ((HL.out.kept K2.out (fun h => h) (fun h => h) (fun _ _ h => h)).kept HQ.out (fun h => h) (fun h => h) (fun _ _ h => h)) OK.out (HT.out.below ((K2.out.trans HQ.out (fun _ _ h => h)).below (Nat.le_refl _) (fun _ _ h => h))) hsf hsum _ p (RdB.of_own HO5.out rfl)).mono ?_
      rintro e w5 ⟨rfl, v5, hl5, k5, hv5⟩
      rw [HAP.out] at hl5 ⊢
      dsimp only at hl5 ⊢
      have HLG := Lw.hid hl5; have K5 := Lw.hid k5; have HV5 := Lw.hid hv5
      clear hl5 k5 hv5
      go_wp2_with fail
      exact hK _ true _ ⟨HI.out.kept.trans K5.out (fun _ _ h => h), fun h => by simp at h, fun _ => ⟨rfl, v5, HLG.out, fun k hk => (HV5.out k hk).imp (fun h => h) (fun h => by have := HQ.out.size; have := K2.out.size; omega)⟩⟩ ⟨K5.out, fun h => by rw [HG0.out] at h; cases h⟩ rfl
    refine gsteps_cons (fun D γ a' w' hI hD0 hdep hcl hag hlt hf K hK => ?_) ?_
    · obtain ⟨⟨_, h6, rfl⟩, -⟩ : SFacts _ _ a' w' [6] := hf
      clear hlt
      clear hag
      go_wp2_with fail
      exact hK _ _ _ (hI.pure HPH.out (Kept.refl _ _) rfl) (aR.pure (Kept.refl _ _)) rfl
    refine gsteps_cons (fun D γ a' w' hI hD0 hdep hcl hag hlt hf K hK => ?_) ?_
    · obtain ⟨⟨_, h7, rfl⟩, -⟩ : SFacts _ _ a' w' [7] := hf
      clear hlt
      clear hag
      go_wp2_with fail
      exact hK _ _ _ (hI.pure HPH.out (Kept.refl _ _) rfl) (aR.pure (Kept.refl _ _)) rfl
    refine gsteps_cons (fun D γ a' w' hI hD0 hdep hcl hag hlt hf K hK => ?_) ?_
    · obtain ⟨⟨_, h7, rfl⟩, -⟩ : SFacts _ _ a' w' [7] := hf
      clear hlt
      clear hag
      go_wp2_with fail
      exact hK _ _ _ (hI.pure HPH.out (Kept.refl _ _) rfl) (aR.pure (Kept.refl _ _)) rfl
    refine gsteps_cons (fun D γ a' w' hI hD0 hdep hcl hag hlt hf K hK => ?_) ?_
    · obtain ⟨⟨_, h8, rfl⟩, -⟩ : SFacts _ _ a' w' [8, 6, 0, 1, 2, 3, 4, 5, 7] := hf
      clear hlt
      clear hag
      go_wp2_with fail
      exact hK _ _ _ (hI.pure HPH.out (Kept.refl _ _) rfl) (aR.pure (Kept.refl _ _)) rfl
    refine gsteps_cons (fun D γ a' w' hI hD0 hdep hcl hag hlt hf K hK => ?_) ?_
    · obtain ⟨⟨_, h9, rfl⟩, -⟩ : SFacts _ _ a' w' [9, 10, 0, 1, 2, 3, 4, 5, 6, 7, 8] := hf
      clear hlt
      clear hag
      go_wp2_with fail
      exact hK _ _ _ (hI.pure HPH.out (Kept.refl _ _) rfl) (aR.pure (Kept.refl _ _)) rfl
    exact trivial
  · intro vs γ w5 hI hvs
    have q0 : vs 0 = (.pointer (some ⟨j, 0, none⟩)) := hvs 0 _ _ rfl rfl
    have q1 : vs 1 = (.pointer (some ⟨j, 0, none⟩)) := hvs 1 _ _ rfl rfl
    have q2 : vs 2 = (.pointer (some ⟨j, 0, none⟩)) := hvs 2 _ _ rfl rfl
    have q3 : vs 3 = (.pointer (some ⟨BL, 0, none⟩)) := hvs 3 _ _ rfl rfl
    have q4 : vs 4 = (.agg #[.int .u8 1, .int .u32 id, .string (BA t), .int .i64 ch, .int .i64 off, .int .i64 num, .pointer sq, .int .u32 a, .int .u32 b, .int .u32 d]) := hvs 4 _ _ rfl rfl
    have q5 := hvs 5 _ _ rfl rfl
    have q6 : vs 6 = (.tuple #[.int .u32 (nn : Int), .int .i64 0]) := hvs 6 _ _ rfl rfl
    have q7 : vs 7 = (.tuple #[.int .u32 (nn : Int), .int .i64 0]) := hvs 7 _ _ rfl rfl
    have q8 : vs 8 = (.int .u32 (nn : Int)) := hvs 8 _ _ rfl rfl
    have q9 : vs 9 = (.int .i64 0) := hvs 9 _ _ rfl rfl
    have q10 : vs 10 = (.int .u32 (nn : Int)) := hvs 10 _ _ rfl rfl
    have q11 : vs 11 = (.int .i64 0) := hvs 11 _ _ rfl rfl
    clear hvs
    simp only [List.take_succ_cons, List.take_zero, List.drop_succ_cons, List.drop_zero, putAll, Act.put, List.setIfInBounds_toArray, List.set_cons_zero, List.set_cons_succ, Nat.reduceAdd, q0, q1, q2, q3, q4, q6, q7, q8, q9, q10, q11]
    clear q0 q1 q2 q3 q4 q6 q7 q8 q9 q10 q11
    generalize vs 5 = x5 at *
    have hyy := hI.yes rfl
    obtain ⟨-, v5, hl5, hv5⟩ := hyy
    have HLG := Lw.hid hl5; have KL : Hid (Kept (fun k => k = BL ∨ k = g ∨ blk v k) w w5) := Lw.hid ((K2.out.mono (fun _ _ h => h.elim)).trans hI.kept (fun _ _ h => h))
    have HV5 := Lw.hid hv5
    have HRB3 := Lw.hid (hI.kept.heap HRB2.out HRN.out)
    clear hI hl5 hv5 q5
    go_wp2_with fail
    refine wp_region_tailD 6 [stFM w5, stV (.pointer (some ⟨r, 0, none⟩)), stV (.int .u8 1), stV (.func (.func 69) #[] #[]), stV (.pointer (some ⟨j, 0, none⟩)), stV (.agg #[.int .u8 1, .int .u32 id, .string (BA t), .int .i64 ch, .int .i64 off, .int .i64 num, .pointer sq, .int .u32 a, .int .u32 b, .int .u32 d])] (by kernel_rfl) (by kernel_rfl) ?_ ?_
    · refine ssteps_cons (fun a' w' hI hag hf K hK => ?_) ?_
      · clear hag
        have HI := Lw.hid hI
        clear hI
        go_wp2_with fail
        refine (does_any w').mono ?_
        rintro e w6 ⟨bm, rfl, hm⟩
        have k6 := hm.kept
        have HM := Lw.hid hm
        clear hm
        go_wp2_with fail
        exact hK _ _ (HI.out.trans k6 (fun _ _ h => h)) k6 ⟨bm, rfl, ⟨HM.out.owns, Nat.le_trans HI.out.size HM.out.new, HI.out.trans HM.out.kept (fun _ _ h => h)⟩⟩
      iterate 2
        refine ssteps_cons (fun a' w' hI hag hf K hK => ?_) ?_
        · obtain ⟨⟨_, h0, rfl⟩, -⟩ := hf
          have s3 := hag.same 3 (by decide)
          clear hag
          have c0 := heap_cell (hI.heap HRB3.out (fun h => h)) 0
          go_wp2_with fail
          exact hK _ _ hI (Kept.refl _ _) rfl
      refine ssteps_cons (fun a' w' hI hag hf K hK => ?_) ?_
      · obtain ⟨⟨v0, h0, e0⟩, ⟨_, h2, rfl⟩, -⟩ : SFacts _ _ a' w' [0, 2] := hf
        clear hag
        obtain ⟨bm, rfl, hm⟩ := e0
        have hlk := look_does hm 1 (by decide) _ rfl
        clear hm
        go_wp2_with fail
        exact hK _ _ hI (Kept.refl _ _) rfl
      iterate 2
        refine ssteps_cons (fun a' w' hI hag hf K hK => ?_) ?_
        · have s0 := hag.same 0 (by decide)
          have s3 := hag.same 3 (by decide)
          clear hag
          have c0 := heap_cell (hI.heap HRB3.out (fun h => h)) 0
          have c1 := heap_cell (hI.heap HRB3.out (fun h => h)) 1
          have c2 := heap_cell (hI.heap HRB3.out (fun h => h)) 2
          have c3 := heap_cell (hI.heap HRB3.out (fun h => h)) 3
          have c4 := heap_cell (hI.heap HRB3.out (fun h => h)) 4
          have c5 := heap_cell (hI.heap HRB3.out (fun h => h)) 5
          have c6 := heap_cell (hI.heap HRB3.out (fun h => h)) 6
          have c7 := heap_cell (hI.heap HRB3.out (fun h => h)) 7
          have c8 := heap_cell (hI.heap HRB3.out (fun h => h)) 8
          have c9 := heap_cell (hI.heap HRB3.out (fun h => h)) 9
          go_wp2_with fail
          exact hK _ _ hI (Kept.refl _ _) rfl
      exact trivial
    · intro vs wy hI hvs
      have q0 := hvs 0 _ _ rfl rfl
      simp only [pzz, putAll, Act.put, Nat.reduceAdd, spv (hvs 1 _ _ rfl rfl) rfl, spv (hvs 2 _ _ rfl rfl) rfl, spv (hvs 3 _ _ rfl rfl) rfl, spv (hvs 4 _ _ rfl rfl) rfl, spv (hvs 5 _ _ rfl rfl) rfl]
      clear hvs
      generalize vs 0 = x0 at *
      have KZ := Lw.hid hI
      clear hI q0
      go_wp2_with fail
      refine (HDO.out wy ((KL.out.trans KZ.out (fun _ _ h => h.elim)))).mono ?_
      rintro e w7 ⟨rfl, F7, va7, sp7, hj7, hf7, k7⟩
      have HJ7 := Lw.hid hj7; have HF7 := Lw.hid hf7; have K7 := Lw.hid k7
      clear hj7 hf7 k7
      go_wp2_with fail
      go_ret
      have hzl := KL.out.size; have hzz := KZ.out.size
      have hltb := heap_lt HLG.out.box; have hltg := heap_lt HLG.out.d.box; have hltv := own_lt HLG.out.d.own
      have hBs : ∀ k, B k → k ≠ BL ∧ k ≠ g ∧ ¬ blk v5 k := fun k hk => ⟨(HBB.out k hk).2.1, (HBB.out k hk).2.2.1, fun e => by
        rcases HV5.out k e with h | h
        · exact (HBB.out k hk).2.2.2 h
        · have := (HBB.out k hk).1; omega⟩
      have hLz : LogAt w7 BL g v5 D' s' := (HLG.out.kept KZ.out (fun h => h) (fun h => h) (fun _ _ h => h)).kept K7.out (fun h => (hBs _ h).1 rfl) (fun h => (hBs _ h).2.1 rfl) (fun k hk h => (hBs k h).2.2 hk)
      refine ⟨by simp, v5, F7, va7, sp7, hLz, HV5.out, HJ7.out, fun k hk => ?_, ?_⟩
      · rcases HF7.out k hk with h | h
        · exact ⟨.inl h, hBs k h⟩
        · exact ⟨.inr (by omega), by omega, by omega, fun e => by have := hltv k e; omega⟩
      · exact ((KL.out.trans KZ.out (fun _ _ h => h.elim)).mono (fun k _ h => .inr h)).trans K7.out (fun k _ h => .inl h)
set_option maxHeartbeats 8000000 in
theorem jappend2 (w : World) (F B : Nat → Prop) (j BL sp : Nat) (va : Value) (J J' : Jr) (h : JAt w F j BL va sp J) (g : Nat) (v : Value) (DD D' : Dsk) (s s' : Fd) (nn : Nat) (hl : LogAt w BL g v DD s) (ok : DD.ok) (ht : Tab w) (hsf : s.fin ≤ 1048576) (hsum : s.sum < 4294967296) (hFB : ∀ k, F k → B k) (hB : ∀ k, B k → k < w.heap.size ∧ k ≠ BL ∧ k ≠ g ∧ ¬ blk v k)
    (id : Int) (t : List UInt8) (ch off num : Int) (sq : Option Addr) (a b d : Int) (p : List UInt8) (hap : appF DD s p = (D', s', nn, 0))
    (hfit : ∀ w', Kept (fun _ => False) w w' → Calls Tryz.prog 67 #[.pointer (some ⟨j, 0, none⟩), rv 2 id t ch off num sq a b d] w' fun e w2 => e = .returned (.int .i64 0) ∧ Kept (fun _ => False) w' w2)
    (hbyt : ∀ w', Kept (fun _ => False) w w' → Calls Tryz.prog 76 #[rv 2 id t ch off num sq a b d] w' fun e w2 => BPost w' w2 e p)
    (hdo : ∀ w', Kept (fun k => k = BL ∨ k = g ∨ blk v k) w w' → Calls Tryz.prog 70 #[.pointer (some ⟨j, 0, none⟩), rv 2 id t ch off num sq a b d] w' fun e w2 => e = .returned (.tuple #[]) ∧ JPost w' w2 B B j BL J') :
    Calls Tryz.prog 30 #[.pointer (some ⟨j, 0, none⟩), rv 2 id t ch off num sq a b d] w (AJPost w BL g v D' s' B j J') := by
  have H := Lw.hid h; have HL := Lw.hid hl; have OK := Lw.hid ok; have HT := Lw.hid ht; have HFI := Lw.hid hfit; have HBY := Lw.hid hbyt; have HDO := Lw.hid hdo; have HAP := Lw.hid hap; have HBB := Lw.hid hB
  unfold rv at HFI HBY HDO ⊢
  obtain ⟨w1, hw1⟩ : ∃ w1, w.alloc (.cells #[.int .u8 2, .int .u32 id, .string (BA t), .int .i64 ch, .int .i64 off, .int .i64 num, .pointer sq, .int .u32 a, .int .u32 b, .int .u32 d] 69) = w1 := ⟨_, rfl⟩
  obtain ⟨r, hr⟩ : ∃ r, w.heap.size = r := ⟨_, rfl⟩
  have K1 : Hid (Kept (fun _ => False) w w1) := Lw.hid (by rw [← hw1]; exact (Kept.refl _ w).alloc _)
  have HRB : Hid (w1.heap[r]? = some (.cells #[.int .u8 2, .int .u32 id, .string (BA t), .int .i64 ch, .int .i64 off, .int .i64 num, .pointer sq, .int .u32 a, .int .u32 b, .int .u32 d] 69 (0, 0))) := Lw.hid (by rw [← hw1, ← hr]; exact heap_alloc w _)
  have HW1 := Lw.hid hw1; have HR := Lw.hid hr
  clear h hl ok ht hfit hbyt hdo hap hw1 hr hB
  go_enter Tryz.func30, Tryz.ntmps30
  go_wp2_with fail
  rw [HW1.out, HR.out]
  refine (HFI.out w1 K1.out).mono ?_
  rintro e w2 ⟨rfl, k2⟩
  have K2 := Lw.hid (K1.out.trans k2 (fun _ _ h => h))
  have HRB2 := Lw.hid (k2.heap HRB.out (fun h => h))
  have H2 := Lw.hid (H.out.kept K2.out (fun _ _ h => h))
  clear k2
  have HSL : Hid (∀ k, (k = BL ∨ k = g ∨ blk v k) → k < w2.heap.size) := Lw.hid (fun k hk => by
    have hz := K2.out.size
    rcases hk with h | h | h
    · have := heap_lt HL.out.box; omega
    · have := heap_lt HL.out.d.box; omega
    · have := own_lt HL.out.d.own _ h; omega)
  have HRN : Hid (¬ (r = BL ∨ r = g ∨ blk v r)) := Lw.hid (fun hk => by
    have hz := HR.out
    rcases hk with h | h | h
    · have := heap_lt HL.out.box; omega
    · have := heap_lt HL.out.d.box; omega
    · have := own_lt HL.out.d.own _ h; omega)
  have HJN : Hid (¬ (j = BL ∨ j = g ∨ blk v j)) := Lw.hid (fun hk => by
    have hz := HBB.out j (hFB j H.out.fj)
    rcases hk with h | h | h
    · exact hz.2.1 h
    · exact hz.2.2.1 h
    · exact hz.2.2.2 h)
  have HPH : Hid (∀ (x y : World), Kept (fun _ => False) x y → (∃ v', LogAt x BL g v' D' s' ∧ ∀ k, blk v' k → blk v k ∨ w.heap.size ≤ k) → ∃ v', LogAt y BL g v' D' s' ∧ ∀ k, blk v' k → blk v k ∨ w.heap.size ≤ k) := Lw.hid (fun x y k ⟨v', h1, h2⟩ => ⟨v', h1.kept k (fun h => h) (fun h => h) (fun _ _ h => h), h2⟩)
  go_wp2_with fail
  refine wp_region_set 12 (AI 6 (fun k => k = BL ∨ k = g ∨ blk v k) (fun wx => ∃ v', LogAt wx BL g v' D' s' ∧ ∀ k, blk v' k → blk v k ∨ w.heap.size ≤ k) w2) (aR (fun k => k = BL ∨ k = g ∨ blk v k)) [gV (.pointer (some ⟨j, 0, none⟩)), gV (.pointer (some ⟨j, 0, none⟩)), gV (.pointer (some ⟨j, 0, none⟩)), gV (.pointer (some ⟨BL, 0, none⟩)), gV (.agg #[.int .u8 2, .int .u32 id, .string (BA t), .int .i64 ch, .int .i64 off, .int .i64 num, .pointer sq, .int .u32 a, .int .u32 b, .int .u32 d]), aOwn (fun k => k = BL ∨ k = g ∨ blk v k) w2.heap.size HSL.out p, gV (.tuple #[.int .u32 (nn : Int), .int .i64 0]), gV (.tuple #[.int .u32 (nn : Int), .int .i64 0]), gV (.int .u32 (nn : Int)), gV (.int .i64 0), gV (.int .u32 (nn : Int)), gV (.int .i64 0)] (false) (by kernel_rfl) (by kernel_rfl) (AI.start ((Kept.refl _ w2).drew)) ?_ ?_
  · refine gsteps_cons (fun D γ a' w' hI hD0 hdep hcl hag hlt hf K hK => ?_) ?_
    · have s0 := hag.same 0 (by decide)
      clear hlt
      clear hag
      go_wp2_with fail
      exact hK _ _ _ (hI.pure HPH.out (Kept.refl _ _) rfl) (aR.pure (Kept.refl _ _)) rfl
    refine gsteps_cons (fun D γ a' w' hI hD0 hdep hcl hag hlt hf K hK => ?_) ?_
    · obtain ⟨⟨_, h0, rfl⟩, -⟩ : SFacts _ _ a' w' [0] := hf
      clear hlt
      clear hag
      go_wp2_with fail
      exact hK _ _ _ (hI.pure HPH.out (Kept.refl _ _) rfl) (aR.pure (Kept.refl _ _)) rfl
    refine gsteps_cons (fun D γ a' w' hI hD0 hdep hcl hag hlt hf K hK => ?_) ?_
    · obtain ⟨⟨_, h1, rfl⟩, -⟩ : SFacts _ _ a' w' [1] := hf
      clear hlt
      clear hag
      go_wp2_with fail
      exact hK _ _ _ (hI.pure HPH.out (Kept.refl _ _) rfl) (aR.pure (Kept.refl _ _)) rfl
    refine gsteps_cons (fun D γ a' w' hI hD0 hdep hcl hag hlt hf K hK => ?_) ?_
    · obtain ⟨⟨_, h2, rfl⟩, -⟩ : SFacts _ _ a' w' [2] := hf
      clear hlt
      clear hag
      have c0 := heap_cell (hI.kept.heap H2.out.box HJN.out) 0
      go_wp2_with fail
      exact hK _ _ _ (hI.pure HPH.out (Kept.refl _ _) rfl) (aR.pure (Kept.refl _ _)) rfl
    refine gsteps_cons (fun D γ a' w' hI hD0 hdep hcl hag hlt hf K hK => ?_) ?_
    · have s3 := hag.same 3 (by decide)
      clear hlt
      clear hag
      have c0 := heap_cell (hI.kept.heap HRB2.out HRN.out) 0
      have c1 := heap_cell (hI.kept.heap HRB2.out HRN.out) 1
      have c2 := heap_cell (hI.kept.heap HRB2.out HRN.out) 2
      have c3 := heap_cell (hI.kept.heap HRB2.out HRN.out) 3
      have c4 := heap_cell (hI.kept.heap HRB2.out HRN.out) 4
      have c5 := heap_cell (hI.kept.heap HRB2.out HRN.out) 5
      have c6 := heap_cell (hI.kept.heap HRB2.out HRN.out) 6
      have c7 := heap_cell (hI.kept.heap HRB2.out HRN.out) 7
      have c8 := heap_cell (hI.kept.heap HRB2.out HRN.out) 8
      have c9 := heap_cell (hI.kept.heap HRB2.out HRN.out) 9
      go_wp2_with fail
      exact hK _ _ _ (hI.pure HPH.out (Kept.refl _ _) rfl) (aR.pure (Kept.refl _ _)) rfl
    refine gsteps_cons (fun D γ a' w' hI hD0 hdep hcl hag hlt hf K hK => ?_) ?_
    · obtain ⟨⟨_, h4, rfl⟩, -⟩ : SFacts _ _ a' w' [4] := hf
      clear hlt
      clear hag
      have h6 : D 6 = false := by cases hx : D 6 with | false => rfl | true => exact absurd (hcl 6 _ rfl hx 5 (by decide)) (by rw [hD0]; decide)
      have hq := hI.no h6
      have HI := Lw.hid hI; have HQ := Lw.hid hq.2
      clear hI hq
      go_wp2_with fail
      refine (HBY.out w' (K2.out.trans HQ.out (fun _ _ h => h))).mono ?_
      rintro e w4 ⟨rr, rfl, ⟨ho4, hb4⟩, k4⟩
      have HO4 := Lw.hid ho4; have HB4 := Lw.hid hb4; have K4 := Lw.hid k4
      clear ho4 hb4 k4
      go_wp2_with fail
      exact hK _ _ _ (HI.out.pure HPH.out K4.out rfl) (aR.pure K4.out) ⟨HO4.out, fun k hk => Nat.le_trans HQ.out.size (HB4.out k hk)⟩
    refine gsteps_cons (fun D γ a' w' hI hD0 hdep hcl hag hlt hf K hK => ?_) ?_
    · obtain ⟨⟨_, h3, rfl⟩, ⟨v5, h5, e5⟩, -⟩ : SFacts _ _ a' w' [3, 5] := hf
      clear hlt
      clear hag
      obtain ⟨ho5, hb5⟩ := e5
      obtain ⟨pl, hpl⟩ : ∃ pl, p.length = pl := ⟨_, rfl⟩
      obtain ⟨adp, capp, hxe, _, _, _⟩ := own_slice ho5
      rw [hpl] at hxe
      have HO5 := Lw.hid ho5; have HPL := Lw.hid hpl
      have hq := hI.no hD0
      have HI := Lw.hid hI; have HQ := Lw.hid hq.2; have HG0 := Lw.hid hq.1
      clear hI hq ho5 hb5 hpl
      subst hxe
      go_wp2_with fail
      refine (append_any w' BL g v DD s ((HL.out.kept K2.out (fun h => h) (fun h => h) (fun _ _ h => h)).kept HQ.out (fun h => h) (fun h => h) (fun _ _ h => h)) OK.out (HT.out.below ((K2.out.trans HQ.out (fun _ _ h => h)).below (Nat.le_refl _) (fun _ _ h => h))) hsf hsum _ p (RdB.of_own HO5.out rfl)).mono ?_
      rintro e w5 ⟨rfl, v5, hl5, k5, hv5⟩
      rw [HAP.out] at hl5 ⊢
      dsimp only at hl5 ⊢
      have HLG := Lw.hid hl5; have K5 := Lw.hid k5; have HV5 := Lw.hid hv5
      clear hl5 k5 hv5
      go_wp2_with fail
      exact hK _ true _ ⟨HI.out.kept.trans K5.out (fun _ _ h => h), fun h => by simp at h, fun _ => ⟨rfl, v5, HLG.out, fun k hk => (HV5.out k hk).imp (fun h => h) (fun h => by have := HQ.out.size; have := K2.out.size; omega)⟩⟩ ⟨K5.out, fun h => by rw [HG0.out] at h; cases h⟩ rfl
    refine gsteps_cons (fun D γ a' w' hI hD0 hdep hcl hag hlt hf K hK => ?_) ?_
    · obtain ⟨⟨_, h6, rfl⟩, -⟩ : SFacts _ _ a' w' [6] := hf
      clear hlt
      clear hag
      go_wp2_with fail
      exact hK _ _ _ (hI.pure HPH.out (Kept.refl _ _) rfl) (aR.pure (Kept.refl _ _)) rfl
    refine gsteps_cons (fun D γ a' w' hI hD0 hdep hcl hag hlt hf K hK => ?_) ?_
    · obtain ⟨⟨_, h7, rfl⟩, -⟩ : SFacts _ _ a' w' [7] := hf
      clear hlt
      clear hag
      go_wp2_with fail
      exact hK _ _ _ (hI.pure HPH.out (Kept.refl _ _) rfl) (aR.pure (Kept.refl _ _)) rfl
    refine gsteps_cons (fun D γ a' w' hI hD0 hdep hcl hag hlt hf K hK => ?_) ?_
    · obtain ⟨⟨_, h7, rfl⟩, -⟩ : SFacts _ _ a' w' [7] := hf
      clear hlt
      clear hag
      go_wp2_with fail
      exact hK _ _ _ (hI.pure HPH.out (Kept.refl _ _) rfl) (aR.pure (Kept.refl _ _)) rfl
    refine gsteps_cons (fun D γ a' w' hI hD0 hdep hcl hag hlt hf K hK => ?_) ?_
    · obtain ⟨⟨_, h8, rfl⟩, -⟩ : SFacts _ _ a' w' [8, 6, 0, 1, 2, 3, 4, 5, 7] := hf
      clear hlt
      clear hag
      go_wp2_with fail
      exact hK _ _ _ (hI.pure HPH.out (Kept.refl _ _) rfl) (aR.pure (Kept.refl _ _)) rfl
    refine gsteps_cons (fun D γ a' w' hI hD0 hdep hcl hag hlt hf K hK => ?_) ?_
    · obtain ⟨⟨_, h9, rfl⟩, -⟩ : SFacts _ _ a' w' [9, 10, 0, 1, 2, 3, 4, 5, 6, 7, 8] := hf
      clear hlt
      clear hag
      go_wp2_with fail
      exact hK _ _ _ (hI.pure HPH.out (Kept.refl _ _) rfl) (aR.pure (Kept.refl _ _)) rfl
    exact trivial
  · intro vs γ w5 hI hvs
    have q0 : vs 0 = (.pointer (some ⟨j, 0, none⟩)) := hvs 0 _ _ rfl rfl
    have q1 : vs 1 = (.pointer (some ⟨j, 0, none⟩)) := hvs 1 _ _ rfl rfl
    have q2 : vs 2 = (.pointer (some ⟨j, 0, none⟩)) := hvs 2 _ _ rfl rfl
    have q3 : vs 3 = (.pointer (some ⟨BL, 0, none⟩)) := hvs 3 _ _ rfl rfl
    have q4 : vs 4 = (.agg #[.int .u8 2, .int .u32 id, .string (BA t), .int .i64 ch, .int .i64 off, .int .i64 num, .pointer sq, .int .u32 a, .int .u32 b, .int .u32 d]) := hvs 4 _ _ rfl rfl
    have q5 := hvs 5 _ _ rfl rfl
    have q6 : vs 6 = (.tuple #[.int .u32 (nn : Int), .int .i64 0]) := hvs 6 _ _ rfl rfl
    have q7 : vs 7 = (.tuple #[.int .u32 (nn : Int), .int .i64 0]) := hvs 7 _ _ rfl rfl
    have q8 : vs 8 = (.int .u32 (nn : Int)) := hvs 8 _ _ rfl rfl
    have q9 : vs 9 = (.int .i64 0) := hvs 9 _ _ rfl rfl
    have q10 : vs 10 = (.int .u32 (nn : Int)) := hvs 10 _ _ rfl rfl
    have q11 : vs 11 = (.int .i64 0) := hvs 11 _ _ rfl rfl
    clear hvs
    simp only [List.take_succ_cons, List.take_zero, List.drop_succ_cons, List.drop_zero, putAll, Act.put, List.setIfInBounds_toArray, List.set_cons_zero, List.set_cons_succ, Nat.reduceAdd, q0, q1, q2, q3, q4, q6, q7, q8, q9, q10, q11]
    clear q0 q1 q2 q3 q4 q6 q7 q8 q9 q10 q11
    generalize vs 5 = x5 at *
    have hyy := hI.yes rfl
    obtain ⟨-, v5, hl5, hv5⟩ := hyy
    have HLG := Lw.hid hl5; have KL : Hid (Kept (fun k => k = BL ∨ k = g ∨ blk v k) w w5) := Lw.hid ((K2.out.mono (fun _ _ h => h.elim)).trans hI.kept (fun _ _ h => h))
    have HV5 := Lw.hid hv5
    have HRB3 := Lw.hid (hI.kept.heap HRB2.out HRN.out)
    clear hI hl5 hv5 q5
    go_wp2_with fail
    refine wp_region_tailD 6 [stFM w5, stV (.pointer (some ⟨r, 0, none⟩)), stV (.int .u8 2), stV (.func (.func 70) #[] #[]), stV (.pointer (some ⟨j, 0, none⟩)), stV (.agg #[.int .u8 2, .int .u32 id, .string (BA t), .int .i64 ch, .int .i64 off, .int .i64 num, .pointer sq, .int .u32 a, .int .u32 b, .int .u32 d])] (by kernel_rfl) (by kernel_rfl) ?_ ?_
    · refine ssteps_cons (fun a' w' hI hag hf K hK => ?_) ?_
      · clear hag
        have HI := Lw.hid hI
        clear hI
        go_wp2_with fail
        refine (does_any w').mono ?_
        rintro e w6 ⟨bm, rfl, hm⟩
        have k6 := hm.kept
        have HM := Lw.hid hm
        clear hm
        go_wp2_with fail
        exact hK _ _ (HI.out.trans k6 (fun _ _ h => h)) k6 ⟨bm, rfl, ⟨HM.out.owns, Nat.le_trans HI.out.size HM.out.new, HI.out.trans HM.out.kept (fun _ _ h => h)⟩⟩
      iterate 2
        refine ssteps_cons (fun a' w' hI hag hf K hK => ?_) ?_
        · obtain ⟨⟨_, h0, rfl⟩, -⟩ := hf
          have s3 := hag.same 3 (by decide)
          clear hag
          have c0 := heap_cell (hI.heap HRB3.out (fun h => h)) 0
          go_wp2_with fail
          exact hK _ _ hI (Kept.refl _ _) rfl
      refine ssteps_cons (fun a' w' hI hag hf K hK => ?_) ?_
      · obtain ⟨⟨v0, h0, e0⟩, ⟨_, h2, rfl⟩, -⟩ : SFacts _ _ a' w' [0, 2] := hf
        clear hag
        obtain ⟨bm, rfl, hm⟩ := e0
        have hlk := look_does hm 2 (by decide) _ rfl
        clear hm
        go_wp2_with fail
        exact hK _ _ hI (Kept.refl _ _) rfl
      iterate 2
        refine ssteps_cons (fun a' w' hI hag hf K hK => ?_) ?_
        · have s0 := hag.same 0 (by decide)
          have s3 := hag.same 3 (by decide)
          clear hag
          have c0 := heap_cell (hI.heap HRB3.out (fun h => h)) 0
          have c1 := heap_cell (hI.heap HRB3.out (fun h => h)) 1
          have c2 := heap_cell (hI.heap HRB3.out (fun h => h)) 2
          have c3 := heap_cell (hI.heap HRB3.out (fun h => h)) 3
          have c4 := heap_cell (hI.heap HRB3.out (fun h => h)) 4
          have c5 := heap_cell (hI.heap HRB3.out (fun h => h)) 5
          have c6 := heap_cell (hI.heap HRB3.out (fun h => h)) 6
          have c7 := heap_cell (hI.heap HRB3.out (fun h => h)) 7
          have c8 := heap_cell (hI.heap HRB3.out (fun h => h)) 8
          have c9 := heap_cell (hI.heap HRB3.out (fun h => h)) 9
          go_wp2_with fail
          exact hK _ _ hI (Kept.refl _ _) rfl
      exact trivial
    · intro vs wy hI hvs
      have q0 := hvs 0 _ _ rfl rfl
      simp only [pzz, putAll, Act.put, Nat.reduceAdd, spv (hvs 1 _ _ rfl rfl) rfl, spv (hvs 2 _ _ rfl rfl) rfl, spv (hvs 3 _ _ rfl rfl) rfl, spv (hvs 4 _ _ rfl rfl) rfl, spv (hvs 5 _ _ rfl rfl) rfl]
      clear hvs
      generalize vs 0 = x0 at *
      have KZ := Lw.hid hI
      clear hI q0
      go_wp2_with fail
      refine (HDO.out wy ((KL.out.trans KZ.out (fun _ _ h => h.elim)))).mono ?_
      rintro e w7 ⟨rfl, F7, va7, sp7, hj7, hf7, k7⟩
      have HJ7 := Lw.hid hj7; have HF7 := Lw.hid hf7; have K7 := Lw.hid k7
      clear hj7 hf7 k7
      go_wp2_with fail
      go_ret
      have hzl := KL.out.size; have hzz := KZ.out.size
      have hltb := heap_lt HLG.out.box; have hltg := heap_lt HLG.out.d.box; have hltv := own_lt HLG.out.d.own
      have hBs : ∀ k, B k → k ≠ BL ∧ k ≠ g ∧ ¬ blk v5 k := fun k hk => ⟨(HBB.out k hk).2.1, (HBB.out k hk).2.2.1, fun e => by
        rcases HV5.out k e with h | h
        · exact (HBB.out k hk).2.2.2 h
        · have := (HBB.out k hk).1; omega⟩
      have hLz : LogAt w7 BL g v5 D' s' := (HLG.out.kept KZ.out (fun h => h) (fun h => h) (fun _ _ h => h)).kept K7.out (fun h => (hBs _ h).1 rfl) (fun h => (hBs _ h).2.1 rfl) (fun k hk h => (hBs k h).2.2 hk)
      refine ⟨by simp, v5, F7, va7, sp7, hLz, HV5.out, HJ7.out, fun k hk => ?_, ?_⟩
      · rcases HF7.out k hk with h | h
        · exact ⟨.inl h, hBs k h⟩
        · exact ⟨.inr (by omega), by omega, by omega, fun e => by have := hltv k e; omega⟩
      · exact ((KL.out.trans KZ.out (fun _ _ h => h.elim)).mono (fun k _ h => .inr h)).trans K7.out (fun k _ h => .inl h)
set_option maxHeartbeats 8000000 in
theorem jappend3 (w : World) (F B : Nat → Prop) (j BL sp : Nat) (va : Value) (J J' : Jr) (h : JAt w F j BL va sp J) (g : Nat) (v : Value) (DD D' : Dsk) (s s' : Fd) (nn : Nat) (hl : LogAt w BL g v DD s) (ok : DD.ok) (ht : Tab w) (hsf : s.fin ≤ 1048576) (hsum : s.sum < 4294967296) (hFB : ∀ k, F k → B k) (hB : ∀ k, B k → k < w.heap.size ∧ k ≠ BL ∧ k ≠ g ∧ ¬ blk v k)
    (id : Int) (t : List UInt8) (ch off num : Int) (sq : Option Addr) (a b d : Int) (p : List UInt8) (hap : appF DD s p = (D', s', nn, 0))
    (hfit : ∀ w', Kept (fun _ => False) w w' → Calls Tryz.prog 67 #[.pointer (some ⟨j, 0, none⟩), rv 3 id t ch off num sq a b d] w' fun e w2 => e = .returned (.int .i64 0) ∧ Kept (fun _ => False) w' w2)
    (hbyt : ∀ w', Kept (fun _ => False) w w' → Calls Tryz.prog 76 #[rv 3 id t ch off num sq a b d] w' fun e w2 => BPost w' w2 e p)
    (hdo : ∀ w', Kept (fun k => k = BL ∨ k = g ∨ blk v k) w w' → Calls Tryz.prog 71 #[.pointer (some ⟨j, 0, none⟩), rv 3 id t ch off num sq a b d] w' fun e w2 => e = .returned (.tuple #[]) ∧ JPost w' w2 B B j BL J') :
    Calls Tryz.prog 30 #[.pointer (some ⟨j, 0, none⟩), rv 3 id t ch off num sq a b d] w (AJPost w BL g v D' s' B j J') := by
  have H := Lw.hid h; have HL := Lw.hid hl; have OK := Lw.hid ok; have HT := Lw.hid ht; have HFI := Lw.hid hfit; have HBY := Lw.hid hbyt; have HDO := Lw.hid hdo; have HAP := Lw.hid hap; have HBB := Lw.hid hB
  unfold rv at HFI HBY HDO ⊢
  obtain ⟨w1, hw1⟩ : ∃ w1, w.alloc (.cells #[.int .u8 3, .int .u32 id, .string (BA t), .int .i64 ch, .int .i64 off, .int .i64 num, .pointer sq, .int .u32 a, .int .u32 b, .int .u32 d] 69) = w1 := ⟨_, rfl⟩
  obtain ⟨r, hr⟩ : ∃ r, w.heap.size = r := ⟨_, rfl⟩
  have K1 : Hid (Kept (fun _ => False) w w1) := Lw.hid (by rw [← hw1]; exact (Kept.refl _ w).alloc _)
  have HRB : Hid (w1.heap[r]? = some (.cells #[.int .u8 3, .int .u32 id, .string (BA t), .int .i64 ch, .int .i64 off, .int .i64 num, .pointer sq, .int .u32 a, .int .u32 b, .int .u32 d] 69 (0, 0))) := Lw.hid (by rw [← hw1, ← hr]; exact heap_alloc w _)
  have HW1 := Lw.hid hw1; have HR := Lw.hid hr
  clear h hl ok ht hfit hbyt hdo hap hw1 hr hB
  go_enter Tryz.func30, Tryz.ntmps30
  go_wp2_with fail
  rw [HW1.out, HR.out]
  refine (HFI.out w1 K1.out).mono ?_
  rintro e w2 ⟨rfl, k2⟩
  have K2 := Lw.hid (K1.out.trans k2 (fun _ _ h => h))
  have HRB2 := Lw.hid (k2.heap HRB.out (fun h => h))
  have H2 := Lw.hid (H.out.kept K2.out (fun _ _ h => h))
  clear k2
  have HSL : Hid (∀ k, (k = BL ∨ k = g ∨ blk v k) → k < w2.heap.size) := Lw.hid (fun k hk => by
    have hz := K2.out.size
    rcases hk with h | h | h
    · have := heap_lt HL.out.box; omega
    · have := heap_lt HL.out.d.box; omega
    · have := own_lt HL.out.d.own _ h; omega)
  have HRN : Hid (¬ (r = BL ∨ r = g ∨ blk v r)) := Lw.hid (fun hk => by
    have hz := HR.out
    rcases hk with h | h | h
    · have := heap_lt HL.out.box; omega
    · have := heap_lt HL.out.d.box; omega
    · have := own_lt HL.out.d.own _ h; omega)
  have HJN : Hid (¬ (j = BL ∨ j = g ∨ blk v j)) := Lw.hid (fun hk => by
    have hz := HBB.out j (hFB j H.out.fj)
    rcases hk with h | h | h
    · exact hz.2.1 h
    · exact hz.2.2.1 h
    · exact hz.2.2.2 h)
  have HPH : Hid (∀ (x y : World), Kept (fun _ => False) x y → (∃ v', LogAt x BL g v' D' s' ∧ ∀ k, blk v' k → blk v k ∨ w.heap.size ≤ k) → ∃ v', LogAt y BL g v' D' s' ∧ ∀ k, blk v' k → blk v k ∨ w.heap.size ≤ k) := Lw.hid (fun x y k ⟨v', h1, h2⟩ => ⟨v', h1.kept k (fun h => h) (fun h => h) (fun _ _ h => h), h2⟩)
  go_wp2_with fail
  refine wp_region_set 12 (AI 6 (fun k => k = BL ∨ k = g ∨ blk v k) (fun wx => ∃ v', LogAt wx BL g v' D' s' ∧ ∀ k, blk v' k → blk v k ∨ w.heap.size ≤ k) w2) (aR (fun k => k = BL ∨ k = g ∨ blk v k)) [gV (.pointer (some ⟨j, 0, none⟩)), gV (.pointer (some ⟨j, 0, none⟩)), gV (.pointer (some ⟨j, 0, none⟩)), gV (.pointer (some ⟨BL, 0, none⟩)), gV (.agg #[.int .u8 3, .int .u32 id, .string (BA t), .int .i64 ch, .int .i64 off, .int .i64 num, .pointer sq, .int .u32 a, .int .u32 b, .int .u32 d]), aOwn (fun k => k = BL ∨ k = g ∨ blk v k) w2.heap.size HSL.out p, gV (.tuple #[.int .u32 (nn : Int), .int .i64 0]), gV (.tuple #[.int .u32 (nn : Int), .int .i64 0]), gV (.int .u32 (nn : Int)), gV (.int .i64 0), gV (.int .u32 (nn : Int)), gV (.int .i64 0)] (false) (by kernel_rfl) (by kernel_rfl) (AI.start ((Kept.refl _ w2).drew)) ?_ ?_
  · refine gsteps_cons (fun D γ a' w' hI hD0 hdep hcl hag hlt hf K hK => ?_) ?_
    · have s0 := hag.same 0 (by decide)
      clear hlt
      clear hag
      go_wp2_with fail
      exact hK _ _ _ (hI.pure HPH.out (Kept.refl _ _) rfl) (aR.pure (Kept.refl _ _)) rfl
    refine gsteps_cons (fun D γ a' w' hI hD0 hdep hcl hag hlt hf K hK => ?_) ?_
    · obtain ⟨⟨_, h0, rfl⟩, -⟩ : SFacts _ _ a' w' [0] := hf
      clear hlt
      clear hag
      go_wp2_with fail
      exact hK _ _ _ (hI.pure HPH.out (Kept.refl _ _) rfl) (aR.pure (Kept.refl _ _)) rfl
    refine gsteps_cons (fun D γ a' w' hI hD0 hdep hcl hag hlt hf K hK => ?_) ?_
    · obtain ⟨⟨_, h1, rfl⟩, -⟩ : SFacts _ _ a' w' [1] := hf
      clear hlt
      clear hag
      go_wp2_with fail
      exact hK _ _ _ (hI.pure HPH.out (Kept.refl _ _) rfl) (aR.pure (Kept.refl _ _)) rfl
    refine gsteps_cons (fun D γ a' w' hI hD0 hdep hcl hag hlt hf K hK => ?_) ?_
    · obtain ⟨⟨_, h2, rfl⟩, -⟩ : SFacts _ _ a' w' [2] := hf
      clear hlt
      clear hag
      have c0 := heap_cell (hI.kept.heap H2.out.box HJN.out) 0
      go_wp2_with fail
      exact hK _ _ _ (hI.pure HPH.out (Kept.refl _ _) rfl) (aR.pure (Kept.refl _ _)) rfl
    refine gsteps_cons (fun D γ a' w' hI hD0 hdep hcl hag hlt hf K hK => ?_) ?_
    · have s3 := hag.same 3 (by decide)
      clear hlt
      clear hag
      have c0 := heap_cell (hI.kept.heap HRB2.out HRN.out) 0
      have c1 := heap_cell (hI.kept.heap HRB2.out HRN.out) 1
      have c2 := heap_cell (hI.kept.heap HRB2.out HRN.out) 2
      have c3 := heap_cell (hI.kept.heap HRB2.out HRN.out) 3
      have c4 := heap_cell (hI.kept.heap HRB2.out HRN.out) 4
      have c5 := heap_cell (hI.kept.heap HRB2.out HRN.out) 5
      have c6 := heap_cell (hI.kept.heap HRB2.out HRN.out) 6
      have c7 := heap_cell (hI.kept.heap HRB2.out HRN.out) 7
      have c8 := heap_cell (hI.kept.heap HRB2.out HRN.out) 8
      have c9 := heap_cell (hI.kept.heap HRB2.out HRN.out) 9
      go_wp2_with fail
      exact hK _ _ _ (hI.pure HPH.out (Kept.refl _ _) rfl) (aR.pure (Kept.refl _ _)) rfl
    refine gsteps_cons (fun D γ a' w' hI hD0 hdep hcl hag hlt hf K hK => ?_) ?_
    · obtain ⟨⟨_, h4, rfl⟩, -⟩ : SFacts _ _ a' w' [4] := hf
      clear hlt
      clear hag
      have h6 : D 6 = false := by cases hx : D 6 with | false => rfl | true => exact absurd (hcl 6 _ rfl hx 5 (by decide)) (by rw [hD0]; decide)
      have hq := hI.no h6
      have HI := Lw.hid hI; have HQ := Lw.hid hq.2
      clear hI hq
      go_wp2_with fail
      refine (HBY.out w' (K2.out.trans HQ.out (fun _ _ h => h))).mono ?_
      rintro e w4 ⟨rr, rfl, ⟨ho4, hb4⟩, k4⟩
      have HO4 := Lw.hid ho4; have HB4 := Lw.hid hb4; have K4 := Lw.hid k4
      clear ho4 hb4 k4
      go_wp2_with fail
      exact hK _ _ _ (HI.out.pure HPH.out K4.out rfl) (aR.pure K4.out) ⟨HO4.out, fun k hk => Nat.le_trans HQ.out.size (HB4.out k hk)⟩
    refine gsteps_cons (fun D γ a' w' hI hD0 hdep hcl hag hlt hf K hK => ?_) ?_
    · obtain ⟨⟨_, h3, rfl⟩, ⟨v5, h5, e5⟩, -⟩ : SFacts _ _ a' w' [3, 5] := hf
      clear hlt
      clear hag
      obtain ⟨ho5, hb5⟩ := e5
      obtain ⟨pl, hpl⟩ : ∃ pl, p.length = pl := ⟨_, rfl⟩
      obtain ⟨adp, capp, hxe, _, _, _⟩ := own_slice ho5
      rw [hpl] at hxe
      have HO5 := Lw.hid ho5; have HPL := Lw.hid hpl
      have hq := hI.no hD0
      have HI := Lw.hid hI; have HQ := Lw.hid hq.2; have HG0 := Lw.hid hq.1
      clear hI hq ho5 hb5 hpl
      subst hxe
      go_wp2_with fail
      refine (append_any w' BL g v DD s ((HL.out.kept K2.out (fun h => h) (fun h => h) (fun _ _ h => h)).kept HQ.out (fun h => h) (fun h => h) (fun _ _ h => h)) OK.out (HT.out.below ((K2.out.trans HQ.out (fun _ _ h => h)).below (Nat.le_refl _) (fun _ _ h => h))) hsf hsum _ p (RdB.of_own HO5.out rfl)).mono ?_
      rintro e w5 ⟨rfl, v5, hl5, k5, hv5⟩
      rw [HAP.out] at hl5 ⊢
      dsimp only at hl5 ⊢
      have HLG := Lw.hid hl5; have K5 := Lw.hid k5; have HV5 := Lw.hid hv5
      clear hl5 k5 hv5
      go_wp2_with fail
      exact hK _ true _ ⟨HI.out.kept.trans K5.out (fun _ _ h => h), fun h => by simp at h, fun _ => ⟨rfl, v5, HLG.out, fun k hk => (HV5.out k hk).imp (fun h => h) (fun h => by have := HQ.out.size; have := K2.out.size; omega)⟩⟩ ⟨K5.out, fun h => by rw [HG0.out] at h; cases h⟩ rfl
    refine gsteps_cons (fun D γ a' w' hI hD0 hdep hcl hag hlt hf K hK => ?_) ?_
    · obtain ⟨⟨_, h6, rfl⟩, -⟩ : SFacts _ _ a' w' [6] := hf
      clear hlt
      clear hag
      go_wp2_with fail
      exact hK _ _ _ (hI.pure HPH.out (Kept.refl _ _) rfl) (aR.pure (Kept.refl _ _)) rfl
    refine gsteps_cons (fun D γ a' w' hI hD0 hdep hcl hag hlt hf K hK => ?_) ?_
    · obtain ⟨⟨_, h7, rfl⟩, -⟩ : SFacts _ _ a' w' [7] := hf
      clear hlt
      clear hag
      go_wp2_with fail
      exact hK _ _ _ (hI.pure HPH.out (Kept.refl _ _) rfl) (aR.pure (Kept.refl _ _)) rfl
    refine gsteps_cons (fun D γ a' w' hI hD0 hdep hcl hag hlt hf K hK => ?_) ?_
    · obtain ⟨⟨_, h7, rfl⟩, -⟩ : SFacts _ _ a' w' [7] := hf
      clear hlt
      clear hag
      go_wp2_with fail
      exact hK _ _ _ (hI.pure HPH.out (Kept.refl _ _) rfl) (aR.pure (Kept.refl _ _)) rfl
    refine gsteps_cons (fun D γ a' w' hI hD0 hdep hcl hag hlt hf K hK => ?_) ?_
    · obtain ⟨⟨_, h8, rfl⟩, -⟩ : SFacts _ _ a' w' [8, 6, 0, 1, 2, 3, 4, 5, 7] := hf
      clear hlt
      clear hag
      go_wp2_with fail
      exact hK _ _ _ (hI.pure HPH.out (Kept.refl _ _) rfl) (aR.pure (Kept.refl _ _)) rfl
    refine gsteps_cons (fun D γ a' w' hI hD0 hdep hcl hag hlt hf K hK => ?_) ?_
    · obtain ⟨⟨_, h9, rfl⟩, -⟩ : SFacts _ _ a' w' [9, 10, 0, 1, 2, 3, 4, 5, 6, 7, 8] := hf
      clear hlt
      clear hag
      go_wp2_with fail
      exact hK _ _ _ (hI.pure HPH.out (Kept.refl _ _) rfl) (aR.pure (Kept.refl _ _)) rfl
    exact trivial
  · intro vs γ w5 hI hvs
    have q0 : vs 0 = (.pointer (some ⟨j, 0, none⟩)) := hvs 0 _ _ rfl rfl
    have q1 : vs 1 = (.pointer (some ⟨j, 0, none⟩)) := hvs 1 _ _ rfl rfl
    have q2 : vs 2 = (.pointer (some ⟨j, 0, none⟩)) := hvs 2 _ _ rfl rfl
    have q3 : vs 3 = (.pointer (some ⟨BL, 0, none⟩)) := hvs 3 _ _ rfl rfl
    have q4 : vs 4 = (.agg #[.int .u8 3, .int .u32 id, .string (BA t), .int .i64 ch, .int .i64 off, .int .i64 num, .pointer sq, .int .u32 a, .int .u32 b, .int .u32 d]) := hvs 4 _ _ rfl rfl
    have q5 := hvs 5 _ _ rfl rfl
    have q6 : vs 6 = (.tuple #[.int .u32 (nn : Int), .int .i64 0]) := hvs 6 _ _ rfl rfl
    have q7 : vs 7 = (.tuple #[.int .u32 (nn : Int), .int .i64 0]) := hvs 7 _ _ rfl rfl
    have q8 : vs 8 = (.int .u32 (nn : Int)) := hvs 8 _ _ rfl rfl
    have q9 : vs 9 = (.int .i64 0) := hvs 9 _ _ rfl rfl
    have q10 : vs 10 = (.int .u32 (nn : Int)) := hvs 10 _ _ rfl rfl
    have q11 : vs 11 = (.int .i64 0) := hvs 11 _ _ rfl rfl
    clear hvs
    simp only [List.take_succ_cons, List.take_zero, List.drop_succ_cons, List.drop_zero, putAll, Act.put, List.setIfInBounds_toArray, List.set_cons_zero, List.set_cons_succ, Nat.reduceAdd, q0, q1, q2, q3, q4, q6, q7, q8, q9, q10, q11]
    clear q0 q1 q2 q3 q4 q6 q7 q8 q9 q10 q11
    generalize vs 5 = x5 at *
    have hyy := hI.yes rfl
    obtain ⟨-, v5, hl5, hv5⟩ := hyy
    have HLG := Lw.hid hl5; have KL : Hid (Kept (fun k => k = BL ∨ k = g ∨ blk v k) w w5) := Lw.hid ((K2.out.mono (fun _ _ h => h.elim)).trans hI.kept (fun _ _ h => h))
    have HV5 := Lw.hid hv5
    have HRB3 := Lw.hid (hI.kept.heap HRB2.out HRN.out)
    clear hI hl5 hv5 q5
    go_wp2_with fail
    refine wp_region_tailD 6 [stFM w5, stV (.pointer (some ⟨r, 0, none⟩)), stV (.int .u8 3), stV (.func (.func 71) #[] #[]), stV (.pointer (some ⟨j, 0, none⟩)), stV (.agg #[.int .u8 3, .int .u32 id, .string (BA t), .int .i64 ch, .int .i64 off, .int .i64 num, .pointer sq, .int .u32 a, .int .u32 b, .int .u32 d])] (by kernel_rfl) (by kernel_rfl) ?_ ?_
    · refine ssteps_cons (fun a' w' hI hag hf K hK => ?_) ?_
      · clear hag
        have HI := Lw.hid hI
        clear hI
        go_wp2_with fail
        refine (does_any w').mono ?_
        rintro e w6 ⟨bm, rfl, hm⟩
        have k6 := hm.kept
        have HM := Lw.hid hm
        clear hm
        go_wp2_with fail
        exact hK _ _ (HI.out.trans k6 (fun _ _ h => h)) k6 ⟨bm, rfl, ⟨HM.out.owns, Nat.le_trans HI.out.size HM.out.new, HI.out.trans HM.out.kept (fun _ _ h => h)⟩⟩
      iterate 2
        refine ssteps_cons (fun a' w' hI hag hf K hK => ?_) ?_
        · obtain ⟨⟨_, h0, rfl⟩, -⟩ := hf
          have s3 := hag.same 3 (by decide)
          clear hag
          have c0 := heap_cell (hI.heap HRB3.out (fun h => h)) 0
          go_wp2_with fail
          exact hK _ _ hI (Kept.refl _ _) rfl
      refine ssteps_cons (fun a' w' hI hag hf K hK => ?_) ?_
      · obtain ⟨⟨v0, h0, e0⟩, ⟨_, h2, rfl⟩, -⟩ : SFacts _ _ a' w' [0, 2] := hf
        clear hag
        obtain ⟨bm, rfl, hm⟩ := e0
        have hlk := look_does hm 3 (by decide) _ rfl
        clear hm
        go_wp2_with fail
        exact hK _ _ hI (Kept.refl _ _) rfl
      iterate 2
        refine ssteps_cons (fun a' w' hI hag hf K hK => ?_) ?_
        · have s0 := hag.same 0 (by decide)
          have s3 := hag.same 3 (by decide)
          clear hag
          have c0 := heap_cell (hI.heap HRB3.out (fun h => h)) 0
          have c1 := heap_cell (hI.heap HRB3.out (fun h => h)) 1
          have c2 := heap_cell (hI.heap HRB3.out (fun h => h)) 2
          have c3 := heap_cell (hI.heap HRB3.out (fun h => h)) 3
          have c4 := heap_cell (hI.heap HRB3.out (fun h => h)) 4
          have c5 := heap_cell (hI.heap HRB3.out (fun h => h)) 5
          have c6 := heap_cell (hI.heap HRB3.out (fun h => h)) 6
          have c7 := heap_cell (hI.heap HRB3.out (fun h => h)) 7
          have c8 := heap_cell (hI.heap HRB3.out (fun h => h)) 8
          have c9 := heap_cell (hI.heap HRB3.out (fun h => h)) 9
          go_wp2_with fail
          exact hK _ _ hI (Kept.refl _ _) rfl
      exact trivial
    · intro vs wy hI hvs
      have q0 := hvs 0 _ _ rfl rfl
      simp only [pzz, putAll, Act.put, Nat.reduceAdd, spv (hvs 1 _ _ rfl rfl) rfl, spv (hvs 2 _ _ rfl rfl) rfl, spv (hvs 3 _ _ rfl rfl) rfl, spv (hvs 4 _ _ rfl rfl) rfl, spv (hvs 5 _ _ rfl rfl) rfl]
      clear hvs
      generalize vs 0 = x0 at *
      have KZ := Lw.hid hI
      clear hI q0
      go_wp2_with fail
      refine (HDO.out wy ((KL.out.trans KZ.out (fun _ _ h => h.elim)))).mono ?_
      rintro e w7 ⟨rfl, F7, va7, sp7, hj7, hf7, k7⟩
      have HJ7 := Lw.hid hj7; have HF7 := Lw.hid hf7; have K7 := Lw.hid k7
      clear hj7 hf7 k7
      go_wp2_with fail
      go_ret
      have hzl := KL.out.size; have hzz := KZ.out.size
      have hltb := heap_lt HLG.out.box; have hltg := heap_lt HLG.out.d.box; have hltv := own_lt HLG.out.d.own
      have hBs : ∀ k, B k → k ≠ BL ∧ k ≠ g ∧ ¬ blk v5 k := fun k hk => ⟨(HBB.out k hk).2.1, (HBB.out k hk).2.2.1, fun e => by
        rcases HV5.out k e with h | h
        · exact (HBB.out k hk).2.2.2 h
        · have := (HBB.out k hk).1; omega⟩
      have hLz : LogAt w7 BL g v5 D' s' := (HLG.out.kept KZ.out (fun h => h) (fun h => h) (fun _ _ h => h)).kept K7.out (fun h => (hBs _ h).1 rfl) (fun h => (hBs _ h).2.1 rfl) (fun k hk h => (hBs k h).2.2 hk)
      refine ⟨by simp, v5, F7, va7, sp7, hLz, HV5.out, HJ7.out, fun k hk => ?_, ?_⟩
      · rcases HF7.out k hk with h | h
        · exact ⟨.inl h, hBs k h⟩
        · exact ⟨.inr (by omega), by omega, by omega, fun e => by have := hltv k e; omega⟩
      · exact ((KL.out.trans KZ.out (fun _ _ h => h.elim)).mono (fun k _ h => .inr h)).trans K7.out (fun k _ h => .inl h)
set_option maxHeartbeats 8000000 in
theorem jappend4 (w : World) (F B : Nat → Prop) (j BL sp : Nat) (va : Value) (J J' : Jr) (h : JAt w F j BL va sp J) (g : Nat) (v : Value) (DD D' : Dsk) (s s' : Fd) (nn : Nat) (hl : LogAt w BL g v DD s) (ok : DD.ok) (ht : Tab w) (hsf : s.fin ≤ 1048576) (hsum : s.sum < 4294967296) (hFB : ∀ k, F k → B k) (hB : ∀ k, B k → k < w.heap.size ∧ k ≠ BL ∧ k ≠ g ∧ ¬ blk v k)
    (id : Int) (t : List UInt8) (ch off num : Int) (sq : Option Addr) (a b d : Int) (p : List UInt8) (hap : appF DD s p = (D', s', nn, 0))
    (hfit : ∀ w', Kept (fun _ => False) w w' → Calls Tryz.prog 67 #[.pointer (some ⟨j, 0, none⟩), rv 4 id t ch off num sq a b d] w' fun e w2 => e = .returned (.int .i64 0) ∧ Kept (fun _ => False) w' w2)
    (hbyt : ∀ w', Kept (fun _ => False) w w' → Calls Tryz.prog 76 #[rv 4 id t ch off num sq a b d] w' fun e w2 => BPost w' w2 e p)
    (hdo : ∀ w', Kept (fun k => k = BL ∨ k = g ∨ blk v k) w w' → Calls Tryz.prog 72 #[.pointer (some ⟨j, 0, none⟩), rv 4 id t ch off num sq a b d] w' fun e w2 => e = .returned (.tuple #[]) ∧ JPost w' w2 B B j BL J') :
    Calls Tryz.prog 30 #[.pointer (some ⟨j, 0, none⟩), rv 4 id t ch off num sq a b d] w (AJPost w BL g v D' s' B j J') := by
  have H := Lw.hid h; have HL := Lw.hid hl; have OK := Lw.hid ok; have HT := Lw.hid ht; have HFI := Lw.hid hfit; have HBY := Lw.hid hbyt; have HDO := Lw.hid hdo; have HAP := Lw.hid hap; have HBB := Lw.hid hB
  unfold rv at HFI HBY HDO ⊢
  obtain ⟨w1, hw1⟩ : ∃ w1, w.alloc (.cells #[.int .u8 4, .int .u32 id, .string (BA t), .int .i64 ch, .int .i64 off, .int .i64 num, .pointer sq, .int .u32 a, .int .u32 b, .int .u32 d] 69) = w1 := ⟨_, rfl⟩
  obtain ⟨r, hr⟩ : ∃ r, w.heap.size = r := ⟨_, rfl⟩
  have K1 : Hid (Kept (fun _ => False) w w1) := Lw.hid (by rw [← hw1]; exact (Kept.refl _ w).alloc _)
  have HRB : Hid (w1.heap[r]? = some (.cells #[.int .u8 4, .int .u32 id, .string (BA t), .int .i64 ch, .int .i64 off, .int .i64 num, .pointer sq, .int .u32 a, .int .u32 b, .int .u32 d] 69 (0, 0))) := Lw.hid (by rw [← hw1, ← hr]; exact heap_alloc w _)
  have HW1 := Lw.hid hw1; have HR := Lw.hid hr
  clear h hl ok ht hfit hbyt hdo hap hw1 hr hB
  go_enter Tryz.func30, Tryz.ntmps30
  go_wp2_with fail
  rw [HW1.out, HR.out]
  refine (HFI.out w1 K1.out).mono ?_
  rintro e w2 ⟨rfl, k2⟩
  have K2 := Lw.hid (K1.out.trans k2 (fun _ _ h => h))
  have HRB2 := Lw.hid (k2.heap HRB.out (fun h => h))
  have H2 := Lw.hid (H.out.kept K2.out (fun _ _ h => h))
  clear k2
  have HSL : Hid (∀ k, (k = BL ∨ k = g ∨ blk v k) → k < w2.heap.size) := Lw.hid (fun k hk => by
    have hz := K2.out.size
    rcases hk with h | h | h
    · have := heap_lt HL.out.box; omega
    · have := heap_lt HL.out.d.box; omega
    · have := own_lt HL.out.d.own _ h; omega)
  have HRN : Hid (¬ (r = BL ∨ r = g ∨ blk v r)) := Lw.hid (fun hk => by
    have hz := HR.out
    rcases hk with h | h | h
    · have := heap_lt HL.out.box; omega
    · have := heap_lt HL.out.d.box; omega
    · have := own_lt HL.out.d.own _ h; omega)
  have HJN : Hid (¬ (j = BL ∨ j = g ∨ blk v j)) := Lw.hid (fun hk => by
    have hz := HBB.out j (hFB j H.out.fj)
    rcases hk with h | h | h
    · exact hz.2.1 h
    · exact hz.2.2.1 h
    · exact hz.2.2.2 h)
  have HPH : Hid (∀ (x y : World), Kept (fun _ => False) x y → (∃ v', LogAt x BL g v' D' s' ∧ ∀ k, blk v' k → blk v k ∨ w.heap.size ≤ k) → ∃ v', LogAt y BL g v' D' s' ∧ ∀ k, blk v' k → blk v k ∨ w.heap.size ≤ k) := Lw.hid (fun x y k ⟨v', h1, h2⟩ => ⟨v', h1.kept k (fun h => h) (fun h => h) (fun _ _ h => h), h2⟩)
  go_wp2_with fail
  refine wp_region_set 12 (AI 6 (fun k => k = BL ∨ k = g ∨ blk v k) (fun wx => ∃ v', LogAt wx BL g v' D' s' ∧ ∀ k, blk v' k → blk v k ∨ w.heap.size ≤ k) w2) (aR (fun k => k = BL ∨ k = g ∨ blk v k)) [gV (.pointer (some ⟨j, 0, none⟩)), gV (.pointer (some ⟨j, 0, none⟩)), gV (.pointer (some ⟨j, 0, none⟩)), gV (.pointer (some ⟨BL, 0, none⟩)), gV (.agg #[.int .u8 4, .int .u32 id, .string (BA t), .int .i64 ch, .int .i64 off, .int .i64 num, .pointer sq, .int .u32 a, .int .u32 b, .int .u32 d]), aOwn (fun k => k = BL ∨ k = g ∨ blk v k) w2.heap.size HSL.out p, gV (.tuple #[.int .u32 (nn : Int), .int .i64 0]), gV (.tuple #[.int .u32 (nn : Int), .int .i64 0]), gV (.int .u32 (nn : Int)), gV (.int .i64 0), gV (.int .u32 (nn : Int)), gV (.int .i64 0)] (false) (by kernel_rfl) (by kernel_rfl) (AI.start ((Kept.refl _ w2).drew)) ?_ ?_
  · refine gsteps_cons (fun D γ a' w' hI hD0 hdep hcl hag hlt hf K hK => ?_) ?_
    · have s0 := hag.same 0 (by decide)
      clear hlt
      clear hag
      go_wp2_with fail
      exact hK _ _ _ (hI.pure HPH.out (Kept.refl _ _) rfl) (aR.pure (Kept.refl _ _)) rfl
    refine gsteps_cons (fun D γ a' w' hI hD0 hdep hcl hag hlt hf K hK => ?_) ?_
    · obtain ⟨⟨_, h0, rfl⟩, -⟩ : SFacts _ _ a' w' [0] := hf
      clear hlt
      clear hag
      go_wp2_with fail
      exact hK _ _ _ (hI.pure HPH.out (Kept.refl _ _) rfl) (aR.pure (Kept.refl _ _)) rfl
    refine gsteps_cons (fun D γ a' w' hI hD0 hdep hcl hag hlt hf K hK => ?_) ?_
    · obtain ⟨⟨_, h1, rfl⟩, -⟩ : SFacts _ _ a' w' [1] := hf
      clear hlt
      clear hag
      go_wp2_with fail
      exact hK _ _ _ (hI.pure HPH.out (Kept.refl _ _) rfl) (aR.pure (Kept.refl _ _)) rfl
    refine gsteps_cons (fun D γ a' w' hI hD0 hdep hcl hag hlt hf K hK => ?_) ?_
    · obtain ⟨⟨_, h2, rfl⟩, -⟩ : SFacts _ _ a' w' [2] := hf
      clear hlt
      clear hag
      have c0 := heap_cell (hI.kept.heap H2.out.box HJN.out) 0
      go_wp2_with fail
      exact hK _ _ _ (hI.pure HPH.out (Kept.refl _ _) rfl) (aR.pure (Kept.refl _ _)) rfl
    refine gsteps_cons (fun D γ a' w' hI hD0 hdep hcl hag hlt hf K hK => ?_) ?_
    · have s3 := hag.same 3 (by decide)
      clear hlt
      clear hag
      have c0 := heap_cell (hI.kept.heap HRB2.out HRN.out) 0
      have c1 := heap_cell (hI.kept.heap HRB2.out HRN.out) 1
      have c2 := heap_cell (hI.kept.heap HRB2.out HRN.out) 2
      have c3 := heap_cell (hI.kept.heap HRB2.out HRN.out) 3
      have c4 := heap_cell (hI.kept.heap HRB2.out HRN.out) 4
      have c5 := heap_cell (hI.kept.heap HRB2.out HRN.out) 5
      have c6 := heap_cell (hI.kept.heap HRB2.out HRN.out) 6
      have c7 := heap_cell (hI.kept.heap HRB2.out HRN.out) 7
      have c8 := heap_cell (hI.kept.heap HRB2.out HRN.out) 8
      have c9 := heap_cell (hI.kept.heap HRB2.out HRN.out) 9
      go_wp2_with fail
      exact hK _ _ _ (hI.pure HPH.out (Kept.refl _ _) rfl) (aR.pure (Kept.refl _ _)) rfl
    refine gsteps_cons (fun D γ a' w' hI hD0 hdep hcl hag hlt hf K hK => ?_) ?_
    · obtain ⟨⟨_, h4, rfl⟩, -⟩ : SFacts _ _ a' w' [4] := hf
      clear hlt
      clear hag
      have h6 : D 6 = false := by cases hx : D 6 with | false => rfl | true => exact absurd (hcl 6 _ rfl hx 5 (by decide)) (by rw [hD0]; decide)
      have hq := hI.no h6
      have HI := Lw.hid hI; have HQ := Lw.hid hq.2
      clear hI hq
      go_wp2_with fail
      refine (HBY.out w' (K2.out.trans HQ.out (fun _ _ h => h))).mono ?_
      rintro e w4 ⟨rr, rfl, ⟨ho4, hb4⟩, k4⟩
      have HO4 := Lw.hid ho4; have HB4 := Lw.hid hb4; have K4 := Lw.hid k4
      clear ho4 hb4 k4
      go_wp2_with fail
      exact hK _ _ _ (HI.out.pure HPH.out K4.out rfl) (aR.pure K4.out) ⟨HO4.out, fun k hk => Nat.le_trans HQ.out.size (HB4.out k hk)⟩
    refine gsteps_cons (fun D γ a' w' hI hD0 hdep hcl hag hlt hf K hK => ?_) ?_
    · obtain ⟨⟨_, h3, rfl⟩, ⟨v5, h5, e5⟩, -⟩ : SFacts _ _ a' w' [3, 5] := hf
      clear hlt
      clear hag
      obtain ⟨ho5, hb5⟩ := e5
      obtain ⟨pl, hpl⟩ : ∃ pl, p.length = pl := ⟨_, rfl⟩
      obtain ⟨adp, capp, hxe, _, _, _⟩ := own_slice ho5
      rw [hpl] at hxe
      have HO5 := Lw.hid ho5; have HPL := Lw.hid hpl
      have hq := hI.no hD0
      have HI := Lw.hid hI; have HQ := Lw.hid hq.2; have HG0 := Lw.hid hq.1
      clear hI hq ho5 hb5 hpl
      subst hxe
      go_wp2_with fail
      refine (append_any w' BL g v DD s ((HL.out.kept K2.out (fun h => h) (fun h => h) (fun _ _ h => h)).kept HQ.out (fun h => h) (fun h => h) (fun _ _ h => h)) OK.out (HT.out.below ((K2.out.trans HQ.out (fun _ _ h => h)).below (Nat.le_refl _) (fun _ _ h => h))) hsf hsum _ p (RdB.of_own HO5.out rfl)).mono ?_
      rintro e w5 ⟨rfl, v5, hl5, k5, hv5⟩
      rw [HAP.out] at hl5 ⊢
      dsimp only at hl5 ⊢
      have HLG := Lw.hid hl5; have K5 := Lw.hid k5; have HV5 := Lw.hid hv5
      clear hl5 k5 hv5
      go_wp2_with fail
      exact hK _ true _ ⟨HI.out.kept.trans K5.out (fun _ _ h => h), fun h => by simp at h, fun _ => ⟨rfl, v5, HLG.out, fun k hk => (HV5.out k hk).imp (fun h => h) (fun h => by have := HQ.out.size; have := K2.out.size; omega)⟩⟩ ⟨K5.out, fun h => by rw [HG0.out] at h; cases h⟩ rfl
    refine gsteps_cons (fun D γ a' w' hI hD0 hdep hcl hag hlt hf K hK => ?_) ?_
    · obtain ⟨⟨_, h6, rfl⟩, -⟩ : SFacts _ _ a' w' [6] := hf
      clear hlt
      clear hag
      go_wp2_with fail
      exact hK _ _ _ (hI.pure HPH.out (Kept.refl _ _) rfl) (aR.pure (Kept.refl _ _)) rfl
    refine gsteps_cons (fun D γ a' w' hI hD0 hdep hcl hag hlt hf K hK => ?_) ?_
    · obtain ⟨⟨_, h7, rfl⟩, -⟩ : SFacts _ _ a' w' [7] := hf
      clear hlt
      clear hag
      go_wp2_with fail
      exact hK _ _ _ (hI.pure HPH.out (Kept.refl _ _) rfl) (aR.pure (Kept.refl _ _)) rfl
    refine gsteps_cons (fun D γ a' w' hI hD0 hdep hcl hag hlt hf K hK => ?_) ?_
    · obtain ⟨⟨_, h7, rfl⟩, -⟩ : SFacts _ _ a' w' [7] := hf
      clear hlt
      clear hag
      go_wp2_with fail
      exact hK _ _ _ (hI.pure HPH.out (Kept.refl _ _) rfl) (aR.pure (Kept.refl _ _)) rfl
    refine gsteps_cons (fun D γ a' w' hI hD0 hdep hcl hag hlt hf K hK => ?_) ?_
    · obtain ⟨⟨_, h8, rfl⟩, -⟩ : SFacts _ _ a' w' [8, 6, 0, 1, 2, 3, 4, 5, 7] := hf
      clear hlt
      clear hag
      go_wp2_with fail
      exact hK _ _ _ (hI.pure HPH.out (Kept.refl _ _) rfl) (aR.pure (Kept.refl _ _)) rfl
    refine gsteps_cons (fun D γ a' w' hI hD0 hdep hcl hag hlt hf K hK => ?_) ?_
    · obtain ⟨⟨_, h9, rfl⟩, -⟩ : SFacts _ _ a' w' [9, 10, 0, 1, 2, 3, 4, 5, 6, 7, 8] := hf
      clear hlt
      clear hag
      go_wp2_with fail
      exact hK _ _ _ (hI.pure HPH.out (Kept.refl _ _) rfl) (aR.pure (Kept.refl _ _)) rfl
    exact trivial
  · intro vs γ w5 hI hvs
    have q0 : vs 0 = (.pointer (some ⟨j, 0, none⟩)) := hvs 0 _ _ rfl rfl
    have q1 : vs 1 = (.pointer (some ⟨j, 0, none⟩)) := hvs 1 _ _ rfl rfl
    have q2 : vs 2 = (.pointer (some ⟨j, 0, none⟩)) := hvs 2 _ _ rfl rfl
    have q3 : vs 3 = (.pointer (some ⟨BL, 0, none⟩)) := hvs 3 _ _ rfl rfl
    have q4 : vs 4 = (.agg #[.int .u8 4, .int .u32 id, .string (BA t), .int .i64 ch, .int .i64 off, .int .i64 num, .pointer sq, .int .u32 a, .int .u32 b, .int .u32 d]) := hvs 4 _ _ rfl rfl
    have q5 := hvs 5 _ _ rfl rfl
    have q6 : vs 6 = (.tuple #[.int .u32 (nn : Int), .int .i64 0]) := hvs 6 _ _ rfl rfl
    have q7 : vs 7 = (.tuple #[.int .u32 (nn : Int), .int .i64 0]) := hvs 7 _ _ rfl rfl
    have q8 : vs 8 = (.int .u32 (nn : Int)) := hvs 8 _ _ rfl rfl
    have q9 : vs 9 = (.int .i64 0) := hvs 9 _ _ rfl rfl
    have q10 : vs 10 = (.int .u32 (nn : Int)) := hvs 10 _ _ rfl rfl
    have q11 : vs 11 = (.int .i64 0) := hvs 11 _ _ rfl rfl
    clear hvs
    simp only [List.take_succ_cons, List.take_zero, List.drop_succ_cons, List.drop_zero, putAll, Act.put, List.setIfInBounds_toArray, List.set_cons_zero, List.set_cons_succ, Nat.reduceAdd, q0, q1, q2, q3, q4, q6, q7, q8, q9, q10, q11]
    clear q0 q1 q2 q3 q4 q6 q7 q8 q9 q10 q11
    generalize vs 5 = x5 at *
    have hyy := hI.yes rfl
    obtain ⟨-, v5, hl5, hv5⟩ := hyy
    have HLG := Lw.hid hl5; have KL : Hid (Kept (fun k => k = BL ∨ k = g ∨ blk v k) w w5) := Lw.hid ((K2.out.mono (fun _ _ h => h.elim)).trans hI.kept (fun _ _ h => h))
    have HV5 := Lw.hid hv5
    have HRB3 := Lw.hid (hI.kept.heap HRB2.out HRN.out)
    clear hI hl5 hv5 q5
    go_wp2_with fail
    refine wp_region_tailD 6 [stFM w5, stV (.pointer (some ⟨r, 0, none⟩)), stV (.int .u8 4), stV (.func (.func 72) #[] #[]), stV (.pointer (some ⟨j, 0, none⟩)), stV (.agg #[.int .u8 4, .int .u32 id, .string (BA t), .int .i64 ch, .int .i64 off, .int .i64 num, .pointer sq, .int .u32 a, .int .u32 b, .int .u32 d])] (by kernel_rfl) (by kernel_rfl) ?_ ?_
    · refine ssteps_cons (fun a' w' hI hag hf K hK => ?_) ?_
      · clear hag
        have HI := Lw.hid hI
        clear hI
        go_wp2_with fail
        refine (does_any w').mono ?_
        rintro e w6 ⟨bm, rfl, hm⟩
        have k6 := hm.kept
        have HM := Lw.hid hm
        clear hm
        go_wp2_with fail
        exact hK _ _ (HI.out.trans k6 (fun _ _ h => h)) k6 ⟨bm, rfl, ⟨HM.out.owns, Nat.le_trans HI.out.size HM.out.new, HI.out.trans HM.out.kept (fun _ _ h => h)⟩⟩
      iterate 2
        refine ssteps_cons (fun a' w' hI hag hf K hK => ?_) ?_
        · obtain ⟨⟨_, h0, rfl⟩, -⟩ := hf
          have s3 := hag.same 3 (by decide)
          clear hag
          have c0 := heap_cell (hI.heap HRB3.out (fun h => h)) 0
          go_wp2_with fail
          exact hK _ _ hI (Kept.refl _ _) rfl
      refine ssteps_cons (fun a' w' hI hag hf K hK => ?_) ?_
      · obtain ⟨⟨v0, h0, e0⟩, ⟨_, h2, rfl⟩, -⟩ : SFacts _ _ a' w' [0, 2] := hf
        clear hag
        obtain ⟨bm, rfl, hm⟩ := e0
        have hlk := look_does hm 4 (by decide) _ rfl
        clear hm
        go_wp2_with fail
        exact hK _ _ hI (Kept.refl _ _) rfl
      iterate 2
        refine ssteps_cons (fun a' w' hI hag hf K hK => ?_) ?_
        · have s0 := hag.same 0 (by decide)
          have s3 := hag.same 3 (by decide)
          clear hag
          have c0 := heap_cell (hI.heap HRB3.out (fun h => h)) 0
          have c1 := heap_cell (hI.heap HRB3.out (fun h => h)) 1
          have c2 := heap_cell (hI.heap HRB3.out (fun h => h)) 2
          have c3 := heap_cell (hI.heap HRB3.out (fun h => h)) 3
          have c4 := heap_cell (hI.heap HRB3.out (fun h => h)) 4
          have c5 := heap_cell (hI.heap HRB3.out (fun h => h)) 5
          have c6 := heap_cell (hI.heap HRB3.out (fun h => h)) 6
          have c7 := heap_cell (hI.heap HRB3.out (fun h => h)) 7
          have c8 := heap_cell (hI.heap HRB3.out (fun h => h)) 8
          have c9 := heap_cell (hI.heap HRB3.out (fun h => h)) 9
          go_wp2_with fail
          exact hK _ _ hI (Kept.refl _ _) rfl
      exact trivial
    · intro vs wy hI hvs
      have q0 := hvs 0 _ _ rfl rfl
      simp only [pzz, putAll, Act.put, Nat.reduceAdd, spv (hvs 1 _ _ rfl rfl) rfl, spv (hvs 2 _ _ rfl rfl) rfl, spv (hvs 3 _ _ rfl rfl) rfl, spv (hvs 4 _ _ rfl rfl) rfl, spv (hvs 5 _ _ rfl rfl) rfl]
      clear hvs
      generalize vs 0 = x0 at *
      have KZ := Lw.hid hI
      clear hI q0
      go_wp2_with fail
      refine (HDO.out wy ((KL.out.trans KZ.out (fun _ _ h => h.elim)))).mono ?_
      rintro e w7 ⟨rfl, F7, va7, sp7, hj7, hf7, k7⟩
      have HJ7 := Lw.hid hj7; have HF7 := Lw.hid hf7; have K7 := Lw.hid k7
      clear hj7 hf7 k7
      go_wp2_with fail
      go_ret
      have hzl := KL.out.size; have hzz := KZ.out.size
      have hltb := heap_lt HLG.out.box; have hltg := heap_lt HLG.out.d.box; have hltv := own_lt HLG.out.d.own
      have hBs : ∀ k, B k → k ≠ BL ∧ k ≠ g ∧ ¬ blk v5 k := fun k hk => ⟨(HBB.out k hk).2.1, (HBB.out k hk).2.2.1, fun e => by
        rcases HV5.out k e with h | h
        · exact (HBB.out k hk).2.2.2 h
        · have := (HBB.out k hk).1; omega⟩
      have hLz : LogAt w7 BL g v5 D' s' := (HLG.out.kept KZ.out (fun h => h) (fun h => h) (fun _ _ h => h)).kept K7.out (fun h => (hBs _ h).1 rfl) (fun h => (hBs _ h).2.1 rfl) (fun k hk h => (hBs k h).2.2 hk)
      refine ⟨by simp, v5, F7, va7, sp7, hLz, HV5.out, HJ7.out, fun k hk => ?_, ?_⟩
      · rcases HF7.out k hk with h | h
        · exact ⟨.inl h, hBs k h⟩
        · exact ⟨.inr (by omega), by omega, by omega, fun e => by have := hltv k e; omega⟩
      · exact ((KL.out.trans KZ.out (fun _ _ h => h.elim)).mono (fun k _ h => .inr h)).trans K7.out (fun k _ h => .inl h)
set_option maxHeartbeats 8000000 in
theorem jappend5 (w : World) (F B : Nat → Prop) (j BL sp : Nat) (va : Value) (J J' : Jr) (h : JAt w F j BL va sp J) (g : Nat) (v : Value) (DD D' : Dsk) (s s' : Fd) (nn : Nat) (hl : LogAt w BL g v DD s) (ok : DD.ok) (ht : Tab w) (hsf : s.fin ≤ 1048576) (hsum : s.sum < 4294967296) (hFB : ∀ k, F k → B k) (hB : ∀ k, B k → k < w.heap.size ∧ k ≠ BL ∧ k ≠ g ∧ ¬ blk v k)
    (id : Int) (t : List UInt8) (ch off num : Int) (sq : Option Addr) (a b d : Int) (p : List UInt8) (hap : appF DD s p = (D', s', nn, 0))
    (hfit : ∀ w', Kept (fun _ => False) w w' → Calls Tryz.prog 67 #[.pointer (some ⟨j, 0, none⟩), rv 5 id t ch off num sq a b d] w' fun e w2 => e = .returned (.int .i64 0) ∧ Kept (fun _ => False) w' w2)
    (hbyt : ∀ w', Kept (fun _ => False) w w' → Calls Tryz.prog 76 #[rv 5 id t ch off num sq a b d] w' fun e w2 => BPost w' w2 e p)
    (hdo : ∀ w', Kept (fun k => k = BL ∨ k = g ∨ blk v k) w w' → Calls Tryz.prog 73 #[.pointer (some ⟨j, 0, none⟩), rv 5 id t ch off num sq a b d] w' fun e w2 => e = .returned (.tuple #[]) ∧ JPost w' w2 B B j BL J') :
    Calls Tryz.prog 30 #[.pointer (some ⟨j, 0, none⟩), rv 5 id t ch off num sq a b d] w (AJPost w BL g v D' s' B j J') := by
  have H := Lw.hid h; have HL := Lw.hid hl; have OK := Lw.hid ok; have HT := Lw.hid ht; have HFI := Lw.hid hfit; have HBY := Lw.hid hbyt; have HDO := Lw.hid hdo; have HAP := Lw.hid hap; have HBB := Lw.hid hB
  unfold rv at HFI HBY HDO ⊢
  obtain ⟨w1, hw1⟩ : ∃ w1, w.alloc (.cells #[.int .u8 5, .int .u32 id, .string (BA t), .int .i64 ch, .int .i64 off, .int .i64 num, .pointer sq, .int .u32 a, .int .u32 b, .int .u32 d] 69) = w1 := ⟨_, rfl⟩
  obtain ⟨r, hr⟩ : ∃ r, w.heap.size = r := ⟨_, rfl⟩
  have K1 : Hid (Kept (fun _ => False) w w1) := Lw.hid (by rw [← hw1]; exact (Kept.refl _ w).alloc _)
  have HRB : Hid (w1.heap[r]? = some (.cells #[.int .u8 5, .int .u32 id, .string (BA t), .int .i64 ch, .int .i64 off, .int .i64 num, .pointer sq, .int .u32 a, .int .u32 b, .int .u32 d] 69 (0, 0))) := Lw.hid (by rw [← hw1, ← hr]; exact heap_alloc w _)
  have HW1 := Lw.hid hw1; have HR := Lw.hid hr
  clear h hl ok ht hfit hbyt hdo hap hw1 hr hB
  go_enter Tryz.func30, Tryz.ntmps30
  go_wp2_with fail
  rw [HW1.out, HR.out]
  refine (HFI.out w1 K1.out).mono ?_
  rintro e w2 ⟨rfl, k2⟩
  have K2 := Lw.hid (K1.out.trans k2 (fun _ _ h => h))
  have HRB2 := Lw.hid (k2.heap HRB.out (fun h => h))
  have H2 := Lw.hid (H.out.kept K2.out (fun _ _ h => h))
  clear k2
  have HSL : Hid (∀ k, (k = BL ∨ k = g ∨ blk v k) → k < w2.heap.size) := Lw.hid (fun k hk => by
    have hz := K2.out.size
    rcases hk with h | h | h
    · have := heap_lt HL.out.box; omega
    · have := heap_lt HL.out.d.box; omega
    · have := own_lt HL.out.d.own _ h; omega)
  have HRN : Hid (¬ (r = BL ∨ r = g ∨ blk v r)) := Lw.hid (fun hk => by
    have hz := HR.out
    rcases hk with h | h | h
    · have := heap_lt HL.out.box; omega
    · have := heap_lt HL.out.d.box; omega
    · have := own_lt HL.out.d.own _ h; omega)
  have HJN : Hid (¬ (j = BL ∨ j = g ∨ blk v j)) := Lw.hid (fun hk => by
    have hz := HBB.out j (hFB j H.out.fj)
    rcases hk with h | h | h
    · exact hz.2.1 h
    · exact hz.2.2.1 h
    · exact hz.2.2.2 h)
  have HPH : Hid (∀ (x y : World), Kept (fun _ => False) x y → (∃ v', LogAt x BL g v' D' s' ∧ ∀ k, blk v' k → blk v k ∨ w.heap.size ≤ k) → ∃ v', LogAt y BL g v' D' s' ∧ ∀ k, blk v' k → blk v k ∨ w.heap.size ≤ k) := Lw.hid (fun x y k ⟨v', h1, h2⟩ => ⟨v', h1.kept k (fun h => h) (fun h => h) (fun _ _ h => h), h2⟩)
  go_wp2_with fail
  refine wp_region_set 12 (AI 6 (fun k => k = BL ∨ k = g ∨ blk v k) (fun wx => ∃ v', LogAt wx BL g v' D' s' ∧ ∀ k, blk v' k → blk v k ∨ w.heap.size ≤ k) w2) (aR (fun k => k = BL ∨ k = g ∨ blk v k)) [gV (.pointer (some ⟨j, 0, none⟩)), gV (.pointer (some ⟨j, 0, none⟩)), gV (.pointer (some ⟨j, 0, none⟩)), gV (.pointer (some ⟨BL, 0, none⟩)), gV (.agg #[.int .u8 5, .int .u32 id, .string (BA t), .int .i64 ch, .int .i64 off, .int .i64 num, .pointer sq, .int .u32 a, .int .u32 b, .int .u32 d]), aOwn (fun k => k = BL ∨ k = g ∨ blk v k) w2.heap.size HSL.out p, gV (.tuple #[.int .u32 (nn : Int), .int .i64 0]), gV (.tuple #[.int .u32 (nn : Int), .int .i64 0]), gV (.int .u32 (nn : Int)), gV (.int .i64 0), gV (.int .u32 (nn : Int)), gV (.int .i64 0)] (false) (by kernel_rfl) (by kernel_rfl) (AI.start ((Kept.refl _ w2).drew)) ?_ ?_
  · refine gsteps_cons (fun D γ a' w' hI hD0 hdep hcl hag hlt hf K hK => ?_) ?_
    · have s0 := hag.same 0 (by decide)
      clear hlt
      clear hag
      go_wp2_with fail
      exact hK _ _ _ (hI.pure HPH.out (Kept.refl _ _) rfl) (aR.pure (Kept.refl _ _)) rfl
    refine gsteps_cons (fun D γ a' w' hI hD0 hdep hcl hag hlt hf K hK => ?_) ?_
    · obtain ⟨⟨_, h0, rfl⟩, -⟩ : SFacts _ _ a' w' [0] := hf
      clear hlt
      clear hag
      go_wp2_with fail
      exact hK _ _ _ (hI.pure HPH.out (Kept.refl _ _) rfl) (aR.pure (Kept.refl _ _)) rfl
    refine gsteps_cons (fun D γ a' w' hI hD0 hdep hcl hag hlt hf K hK => ?_) ?_
    · obtain ⟨⟨_, h1, rfl⟩, -⟩ : SFacts _ _ a' w' [1] := hf
      clear hlt
      clear hag
      go_wp2_with fail
      exact hK _ _ _ (hI.pure HPH.out (Kept.refl _ _) rfl) (aR.pure (Kept.refl _ _)) rfl
    refine gsteps_cons (fun D γ a' w' hI hD0 hdep hcl hag hlt hf K hK => ?_) ?_
    · obtain ⟨⟨_, h2, rfl⟩, -⟩ : SFacts _ _ a' w' [2] := hf
      clear hlt
      clear hag
      have c0 := heap_cell (hI.kept.heap H2.out.box HJN.out) 0
      go_wp2_with fail
      exact hK _ _ _ (hI.pure HPH.out (Kept.refl _ _) rfl) (aR.pure (Kept.refl _ _)) rfl
    refine gsteps_cons (fun D γ a' w' hI hD0 hdep hcl hag hlt hf K hK => ?_) ?_
    · have s3 := hag.same 3 (by decide)
      clear hlt
      clear hag
      have c0 := heap_cell (hI.kept.heap HRB2.out HRN.out) 0
      have c1 := heap_cell (hI.kept.heap HRB2.out HRN.out) 1
      have c2 := heap_cell (hI.kept.heap HRB2.out HRN.out) 2
      have c3 := heap_cell (hI.kept.heap HRB2.out HRN.out) 3
      have c4 := heap_cell (hI.kept.heap HRB2.out HRN.out) 4
      have c5 := heap_cell (hI.kept.heap HRB2.out HRN.out) 5
      have c6 := heap_cell (hI.kept.heap HRB2.out HRN.out) 6
      have c7 := heap_cell (hI.kept.heap HRB2.out HRN.out) 7
      have c8 := heap_cell (hI.kept.heap HRB2.out HRN.out) 8
      have c9 := heap_cell (hI.kept.heap HRB2.out HRN.out) 9
      go_wp2_with fail
      exact hK _ _ _ (hI.pure HPH.out (Kept.refl _ _) rfl) (aR.pure (Kept.refl _ _)) rfl
    refine gsteps_cons (fun D γ a' w' hI hD0 hdep hcl hag hlt hf K hK => ?_) ?_
    · obtain ⟨⟨_, h4, rfl⟩, -⟩ : SFacts _ _ a' w' [4] := hf
      clear hlt
      clear hag
      have h6 : D 6 = false := by cases hx : D 6 with | false => rfl | true => exact absurd (hcl 6 _ rfl hx 5 (by decide)) (by rw [hD0]; decide)
      have hq := hI.no h6
      have HI := Lw.hid hI; have HQ := Lw.hid hq.2
      clear hI hq
      go_wp2_with fail
      refine (HBY.out w' (K2.out.trans HQ.out (fun _ _ h => h))).mono ?_
      rintro e w4 ⟨rr, rfl, ⟨ho4, hb4⟩, k4⟩
      have HO4 := Lw.hid ho4; have HB4 := Lw.hid hb4; have K4 := Lw.hid k4
      clear ho4 hb4 k4
      go_wp2_with fail
      exact hK _ _ _ (HI.out.pure HPH.out K4.out rfl) (aR.pure K4.out) ⟨HO4.out, fun k hk => Nat.le_trans HQ.out.size (HB4.out k hk)⟩
    refine gsteps_cons (fun D γ a' w' hI hD0 hdep hcl hag hlt hf K hK => ?_) ?_
    · obtain ⟨⟨_, h3, rfl⟩, ⟨v5, h5, e5⟩, -⟩ : SFacts _ _ a' w' [3, 5] := hf
      clear hlt
      clear hag
      obtain ⟨ho5, hb5⟩ := e5
      obtain ⟨pl, hpl⟩ : ∃ pl, p.length = pl := ⟨_, rfl⟩
      obtain ⟨adp, capp, hxe, _, _, _⟩ := own_slice ho5
      rw [hpl] at hxe
      have HO5 := Lw.hid ho5; have HPL := Lw.hid hpl
      have hq := hI.no hD0
      have HI := Lw.hid hI; have HQ := Lw.hid hq.2; have HG0 := Lw.hid hq.1
      clear hI hq ho5 hb5 hpl
      subst hxe
      go_wp2_with fail
      refine (append_any w' BL g v DD s ((HL.out.kept K2.out (fun h => h) (fun h => h) (fun _ _ h => h)).kept HQ.out (fun h => h) (fun h => h) (fun _ _ h => h)) OK.out (HT.out.below ((K2.out.trans HQ.out (fun _ _ h => h)).below (Nat.le_refl _) (fun _ _ h => h))) hsf hsum _ p (RdB.of_own HO5.out rfl)).mono ?_
      rintro e w5 ⟨rfl, v5, hl5, k5, hv5⟩
      rw [HAP.out] at hl5 ⊢
      dsimp only at hl5 ⊢
      have HLG := Lw.hid hl5; have K5 := Lw.hid k5; have HV5 := Lw.hid hv5
      clear hl5 k5 hv5
      go_wp2_with fail
      exact hK _ true _ ⟨HI.out.kept.trans K5.out (fun _ _ h => h), fun h => by simp at h, fun _ => ⟨rfl, v5, HLG.out, fun k hk => (HV5.out k hk).imp (fun h => h) (fun h => by have := HQ.out.size; have := K2.out.size; omega)⟩⟩ ⟨K5.out, fun h => by rw [HG0.out] at h; cases h⟩ rfl
    refine gsteps_cons (fun D γ a' w' hI hD0 hdep hcl hag hlt hf K hK => ?_) ?_
    · obtain ⟨⟨_, h6, rfl⟩, -⟩ : SFacts _ _ a' w' [6] := hf
      clear hlt
      clear hag
      go_wp2_with fail
      exact hK _ _ _ (hI.pure HPH.out (Kept.refl _ _) rfl) (aR.pure (Kept.refl _ _)) rfl
    refine gsteps_cons (fun D γ a' w' hI hD0 hdep hcl hag hlt hf K hK => ?_) ?_
    · obtain ⟨⟨_, h7, rfl⟩, -⟩ : SFacts _ _ a' w' [7] := hf
      clear hlt
      clear hag
      go_wp2_with fail
      exact hK _ _ _ (hI.pure HPH.out (Kept.refl _ _) rfl) (aR.pure (Kept.refl _ _)) rfl
    refine gsteps_cons (fun D γ a' w' hI hD0 hdep hcl hag hlt hf K hK => ?_) ?_
    · obtain ⟨⟨_, h7, rfl⟩, -⟩ : SFacts _ _ a' w' [7] := hf
      clear hlt
      clear hag
      go_wp2_with fail
      exact hK _ _ _ (hI.pure HPH.out (Kept.refl _ _) rfl) (aR.pure (Kept.refl _ _)) rfl
    refine gsteps_cons (fun D γ a' w' hI hD0 hdep hcl hag hlt hf K hK => ?_) ?_
    · obtain ⟨⟨_, h8, rfl⟩, -⟩ : SFacts _ _ a' w' [8, 6, 0, 1, 2, 3, 4, 5, 7] := hf
      clear hlt
      clear hag
      go_wp2_with fail
      exact hK _ _ _ (hI.pure HPH.out (Kept.refl _ _) rfl) (aR.pure (Kept.refl _ _)) rfl
    refine gsteps_cons (fun D γ a' w' hI hD0 hdep hcl hag hlt hf K hK => ?_) ?_
    · obtain ⟨⟨_, h9, rfl⟩, -⟩ : SFacts _ _ a' w' [9, 10, 0, 1, 2, 3, 4, 5, 6, 7, 8] := hf
      clear hlt
      clear hag
      go_wp2_with fail
      exact hK _ _ _ (hI.pure HPH.out (Kept.refl _ _) rfl) (aR.pure (Kept.refl _ _)) rfl
    exact trivial
  · intro vs γ w5 hI hvs
    have q0 : vs 0 = (.pointer (some ⟨j, 0, none⟩)) := hvs 0 _ _ rfl rfl
    have q1 : vs 1 = (.pointer (some ⟨j, 0, none⟩)) := hvs 1 _ _ rfl rfl
    have q2 : vs 2 = (.pointer (some ⟨j, 0, none⟩)) := hvs 2 _ _ rfl rfl
    have q3 : vs 3 = (.pointer (some ⟨BL, 0, none⟩)) := hvs 3 _ _ rfl rfl
    have q4 : vs 4 = (.agg #[.int .u8 5, .int .u32 id, .string (BA t), .int .i64 ch, .int .i64 off, .int .i64 num, .pointer sq, .int .u32 a, .int .u32 b, .int .u32 d]) := hvs 4 _ _ rfl rfl
    have q5 := hvs 5 _ _ rfl rfl
    have q6 : vs 6 = (.tuple #[.int .u32 (nn : Int), .int .i64 0]) := hvs 6 _ _ rfl rfl
    have q7 : vs 7 = (.tuple #[.int .u32 (nn : Int), .int .i64 0]) := hvs 7 _ _ rfl rfl
    have q8 : vs 8 = (.int .u32 (nn : Int)) := hvs 8 _ _ rfl rfl
    have q9 : vs 9 = (.int .i64 0) := hvs 9 _ _ rfl rfl
    have q10 : vs 10 = (.int .u32 (nn : Int)) := hvs 10 _ _ rfl rfl
    have q11 : vs 11 = (.int .i64 0) := hvs 11 _ _ rfl rfl
    clear hvs
    simp only [List.take_succ_cons, List.take_zero, List.drop_succ_cons, List.drop_zero, putAll, Act.put, List.setIfInBounds_toArray, List.set_cons_zero, List.set_cons_succ, Nat.reduceAdd, q0, q1, q2, q3, q4, q6, q7, q8, q9, q10, q11]
    clear q0 q1 q2 q3 q4 q6 q7 q8 q9 q10 q11
    generalize vs 5 = x5 at *
    have hyy := hI.yes rfl
    obtain ⟨-, v5, hl5, hv5⟩ := hyy
    have HLG := Lw.hid hl5; have KL : Hid (Kept (fun k => k = BL ∨ k = g ∨ blk v k) w w5) := Lw.hid ((K2.out.mono (fun _ _ h => h.elim)).trans hI.kept (fun _ _ h => h))
    have HV5 := Lw.hid hv5
    have HRB3 := Lw.hid (hI.kept.heap HRB2.out HRN.out)
    clear hI hl5 hv5 q5
    go_wp2_with fail
    refine wp_region_tailD 6 [stFM w5, stV (.pointer (some ⟨r, 0, none⟩)), stV (.int .u8 5), stV (.func (.func 73) #[] #[]), stV (.pointer (some ⟨j, 0, none⟩)), stV (.agg #[.int .u8 5, .int .u32 id, .string (BA t), .int .i64 ch, .int .i64 off, .int .i64 num, .pointer sq, .int .u32 a, .int .u32 b, .int .u32 d])] (by kernel_rfl) (by kernel_rfl) ?_ ?_
    · refine ssteps_cons (fun a' w' hI hag hf K hK => ?_) ?_
      · clear hag
        have HI := Lw.hid hI
        clear hI
        go_wp2_with fail
        refine (does_any w').mono ?_
        rintro e w6 ⟨bm, rfl, hm⟩
        have k6 := hm.kept
        have HM := Lw.hid hm
        clear hm
        go_wp2_with fail
        exact hK _ _ (HI.out.trans k6 (fun _ _ h => h)) k6 ⟨bm, rfl, ⟨HM.out.owns, Nat.le_trans HI.out.size HM.out.new, HI.out.trans HM.out.kept (fun _ _ h => h)⟩⟩
      iterate 2
        refine ssteps_cons (fun a' w' hI hag hf K hK => ?_) ?_
        · obtain ⟨⟨_, h0, rfl⟩, -⟩ := hf
          have s3 := hag.same 3 (by decide)
          clear hag
          have c0 := heap_cell (hI.heap HRB3.out (fun h => h)) 0
          go_wp2_with fail
          exact hK _ _ hI (Kept.refl _ _) rfl
      refine ssteps_cons (fun a' w' hI hag hf K hK => ?_) ?_
      · obtain ⟨⟨v0, h0, e0⟩, ⟨_, h2, rfl⟩, -⟩ : SFacts _ _ a' w' [0, 2] := hf
        clear hag
        obtain ⟨bm, rfl, hm⟩ := e0
        have hlk := look_does hm 5 (by decide) _ rfl
        clear hm
        go_wp2_with fail
        exact hK _ _ hI (Kept.refl _ _) rfl
      iterate 2
        refine ssteps_cons (fun a' w' hI hag hf K hK => ?_) ?_
        · have s0 := hag.same 0 (by decide)
          have s3 := hag.same 3 (by decide)
          clear hag
          have c0 := heap_cell (hI.heap HRB3.out (fun h => h)) 0
          have c1 := heap_cell (hI.heap HRB3.out (fun h => h)) 1
          have c2 := heap_cell (hI.heap HRB3.out (fun h => h)) 2
          have c3 := heap_cell (hI.heap HRB3.out (fun h => h)) 3
          have c4 := heap_cell (hI.heap HRB3.out (fun h => h)) 4
          have c5 := heap_cell (hI.heap HRB3.out (fun h => h)) 5
          have c6 := heap_cell (hI.heap HRB3.out (fun h => h)) 6
          have c7 := heap_cell (hI.heap HRB3.out (fun h => h)) 7
          have c8 := heap_cell (hI.heap HRB3.out (fun h => h)) 8
          have c9 := heap_cell (hI.heap HRB3.out (fun h => h)) 9
          go_wp2_with fail
          exact hK _ _ hI (Kept.refl _ _) rfl
      exact trivial
    · intro vs wy hI hvs
      have q0 := hvs 0 _ _ rfl rfl
      simp only [pzz, putAll, Act.put, Nat.reduceAdd, spv (hvs 1 _ _ rfl rfl) rfl, spv (hvs 2 _ _ rfl rfl) rfl, spv (hvs 3 _ _ rfl rfl) rfl, spv (hvs 4 _ _ rfl rfl) rfl, spv (hvs 5 _ _ rfl rfl) rfl]
      clear hvs
      generalize vs 0 = x0 at *
      have KZ := Lw.hid hI
      clear hI q0
      go_wp2_with fail
      refine (HDO.out wy ((KL.out.trans KZ.out (fun _ _ h => h.elim)))).mono ?_
      rintro e w7 ⟨rfl, F7, va7, sp7, hj7, hf7, k7⟩
      have HJ7 := Lw.hid hj7; have HF7 := Lw.hid hf7; have K7 := Lw.hid k7
      clear hj7 hf7 k7
      go_wp2_with fail
      go_ret
      have hzl := KL.out.size; have hzz := KZ.out.size
      have hltb := heap_lt HLG.out.box; have hltg := heap_lt HLG.out.d.box; have hltv := own_lt HLG.out.d.own
      have hBs : ∀ k, B k → k ≠ BL ∧ k ≠ g ∧ ¬ blk v5 k := fun k hk => ⟨(HBB.out k hk).2.1, (HBB.out k hk).2.2.1, fun e => by
        rcases HV5.out k e with h | h
        · exact (HBB.out k hk).2.2.2 h
        · have := (HBB.out k hk).1; omega⟩
      have hLz : LogAt w7 BL g v5 D' s' := (HLG.out.kept KZ.out (fun h => h) (fun h => h) (fun _ _ h => h)).kept K7.out (fun h => (hBs _ h).1 rfl) (fun h => (hBs _ h).2.1 rfl) (fun k hk h => (hBs k h).2.2 hk)
      refine ⟨by simp, v5, F7, va7, sp7, hLz, HV5.out, HJ7.out, fun k hk => ?_, ?_⟩
      · rcases HF7.out k hk with h | h
        · exact ⟨.inl h, hBs k h⟩
        · exact ⟨.inr (by omega), by omega, by omega, fun e => by have := hltv k e; omega⟩
      · exact ((KL.out.trans KZ.out (fun _ _ h => h.elim)).mono (fun k _ h => .inr h)).trans K7.out (fun k _ h => .inl h)
set_option maxHeartbeats 8000000 in
theorem jappend6 (w : World) (F B : Nat → Prop) (j BL sp : Nat) (va : Value) (J J' : Jr) (h : JAt w F j BL va sp J) (g : Nat) (v : Value) (DD D' : Dsk) (s s' : Fd) (nn : Nat) (hl : LogAt w BL g v DD s) (ok : DD.ok) (ht : Tab w) (hsf : s.fin ≤ 1048576) (hsum : s.sum < 4294967296) (hFB : ∀ k, F k → B k) (hB : ∀ k, B k → k < w.heap.size ∧ k ≠ BL ∧ k ≠ g ∧ ¬ blk v k)
    (id : Int) (t : List UInt8) (ch off num : Int) (sq : Option Addr) (a b d : Int) (p : List UInt8) (hap : appF DD s p = (D', s', nn, 0))
    (hfit : ∀ w', Kept (fun _ => False) w w' → Calls Tryz.prog 67 #[.pointer (some ⟨j, 0, none⟩), rv 6 id t ch off num sq a b d] w' fun e w2 => e = .returned (.int .i64 0) ∧ Kept (fun _ => False) w' w2)
    (hbyt : ∀ w', Kept (fun _ => False) w w' → Calls Tryz.prog 76 #[rv 6 id t ch off num sq a b d] w' fun e w2 => BPost w' w2 e p)
    (hdo : ∀ w', Kept (fun k => k = BL ∨ k = g ∨ blk v k) w w' → Calls Tryz.prog 74 #[.pointer (some ⟨j, 0, none⟩), rv 6 id t ch off num sq a b d] w' fun e w2 => e = .returned (.tuple #[]) ∧ JPost w' w2 B B j BL J') :
    Calls Tryz.prog 30 #[.pointer (some ⟨j, 0, none⟩), rv 6 id t ch off num sq a b d] w (AJPost w BL g v D' s' B j J') := by
  have H := Lw.hid h; have HL := Lw.hid hl; have OK := Lw.hid ok; have HT := Lw.hid ht; have HFI := Lw.hid hfit; have HBY := Lw.hid hbyt; have HDO := Lw.hid hdo; have HAP := Lw.hid hap; have HBB := Lw.hid hB
  unfold rv at HFI HBY HDO ⊢
  obtain ⟨w1, hw1⟩ : ∃ w1, w.alloc (.cells #[.int .u8 6, .int .u32 id, .string (BA t), .int .i64 ch, .int .i64 off, .int .i64 num, .pointer sq, .int .u32 a, .int .u32 b, .int .u32 d] 69) = w1 := ⟨_, rfl⟩
  obtain ⟨r, hr⟩ : ∃ r, w.heap.size = r := ⟨_, rfl⟩
  have K1 : Hid (Kept (fun _ => False) w w1) := Lw.hid (by rw [← hw1]; exact (Kept.refl _ w).alloc _)
  have HRB : Hid (w1.heap[r]? = some (.cells #[.int .u8 6, .int .u32 id, .string (BA t), .int .i64 ch, .int .i64 off, .int .i64 num, .pointer sq, .int .u32 a, .int .u32 b, .int .u32 d] 69 (0, 0))) := Lw.hid (by rw [← hw1, ← hr]; exact heap_alloc w _)
  have HW1 := Lw.hid hw1; have HR := Lw.hid hr
  clear h hl ok ht hfit hbyt hdo hap hw1 hr hB
  go_enter Tryz.func30, Tryz.ntmps30
  go_wp2_with fail
  rw [HW1.out, HR.out]
  refine (HFI.out w1 K1.out).mono ?_
  rintro e w2 ⟨rfl, k2⟩
  have K2 := Lw.hid (K1.out.trans k2 (fun _ _ h => h))
  have HRB2 := Lw.hid (k2.heap HRB.out (fun h => h))
  have H2 := Lw.hid (H.out.kept K2.out (fun _ _ h => h))
  clear k2
  have HSL : Hid (∀ k, (k = BL ∨ k = g ∨ blk v k) → k < w2.heap.size) := Lw.hid (fun k hk => by
    have hz := K2.out.size
    rcases hk with h | h | h
    · have := heap_lt HL.out.box; omega
    · have := heap_lt HL.out.d.box; omega
    · have := own_lt HL.out.d.own _ h; omega)
  have HRN : Hid (¬ (r = BL ∨ r = g ∨ blk v r)) := Lw.hid (fun hk => by
    have hz := HR.out
    rcases hk with h | h | h
    · have := heap_lt HL.out.box; omega
    · have := heap_lt HL.out.d.box; omega
    · have := own_lt HL.out.d.own _ h; omega)
  have HJN : Hid (¬ (j = BL ∨ j = g ∨ blk v j)) := Lw.hid (fun hk => by
    have hz := HBB.out j (hFB j H.out.fj)
    rcases hk with h | h | h
    · exact hz.2.1 h
    · exact hz.2.2.1 h
    · exact hz.2.2.2 h)
  have HPH : Hid (∀ (x y : World), Kept (fun _ => False) x y → (∃ v', LogAt x BL g v' D' s' ∧ ∀ k, blk v' k → blk v k ∨ w.heap.size ≤ k) → ∃ v', LogAt y BL g v' D' s' ∧ ∀ k, blk v' k → blk v k ∨ w.heap.size ≤ k) := Lw.hid (fun x y k ⟨v', h1, h2⟩ => ⟨v', h1.kept k (fun h => h) (fun h => h) (fun _ _ h => h), h2⟩)
  go_wp2_with fail
  refine wp_region_set 12 (AI 6 (fun k => k = BL ∨ k = g ∨ blk v k) (fun wx => ∃ v', LogAt wx BL g v' D' s' ∧ ∀ k, blk v' k → blk v k ∨ w.heap.size ≤ k) w2) (aR (fun k => k = BL ∨ k = g ∨ blk v k)) [gV (.pointer (some ⟨j, 0, none⟩)), gV (.pointer (some ⟨j, 0, none⟩)), gV (.pointer (some ⟨j, 0, none⟩)), gV (.pointer (some ⟨BL, 0, none⟩)), gV (.agg #[.int .u8 6, .int .u32 id, .string (BA t), .int .i64 ch, .int .i64 off, .int .i64 num, .pointer sq, .int .u32 a, .int .u32 b, .int .u32 d]), aOwn (fun k => k = BL ∨ k = g ∨ blk v k) w2.heap.size HSL.out p, gV (.tuple #[.int .u32 (nn : Int), .int .i64 0]), gV (.tuple #[.int .u32 (nn : Int), .int .i64 0]), gV (.int .u32 (nn : Int)), gV (.int .i64 0), gV (.int .u32 (nn : Int)), gV (.int .i64 0)] (false) (by kernel_rfl) (by kernel_rfl) (AI.start ((Kept.refl _ w2).drew)) ?_ ?_
  · refine gsteps_cons (fun D γ a' w' hI hD0 hdep hcl hag hlt hf K hK => ?_) ?_
    · have s0 := hag.same 0 (by decide)
      clear hlt
      clear hag
      go_wp2_with fail
      exact hK _ _ _ (hI.pure HPH.out (Kept.refl _ _) rfl) (aR.pure (Kept.refl _ _)) rfl
    refine gsteps_cons (fun D γ a' w' hI hD0 hdep hcl hag hlt hf K hK => ?_) ?_
    · obtain ⟨⟨_, h0, rfl⟩, -⟩ : SFacts _ _ a' w' [0] := hf
      clear hlt
      clear hag
      go_wp2_with fail
      exact hK _ _ _ (hI.pure HPH.out (Kept.refl _ _) rfl) (aR.pure (Kept.refl _ _)) rfl
    refine gsteps_cons (fun D γ a' w' hI hD0 hdep hcl hag hlt hf K hK => ?_) ?_
    · obtain ⟨⟨_, h1, rfl⟩, -⟩ : SFacts _ _ a' w' [1] := hf
      clear hlt
      clear hag
      go_wp2_with fail
      exact hK _ _ _ (hI.pure HPH.out (Kept.refl _ _) rfl) (aR.pure (Kept.refl _ _)) rfl
    refine gsteps_cons (fun D γ a' w' hI hD0 hdep hcl hag hlt hf K hK => ?_) ?_
    · obtain ⟨⟨_, h2, rfl⟩, -⟩ : SFacts _ _ a' w' [2] := hf
      clear hlt
      clear hag
      have c0 := heap_cell (hI.kept.heap H2.out.box HJN.out) 0
      go_wp2_with fail
      exact hK _ _ _ (hI.pure HPH.out (Kept.refl _ _) rfl) (aR.pure (Kept.refl _ _)) rfl
    refine gsteps_cons (fun D γ a' w' hI hD0 hdep hcl hag hlt hf K hK => ?_) ?_
    · have s3 := hag.same 3 (by decide)
      clear hlt
      clear hag
      have c0 := heap_cell (hI.kept.heap HRB2.out HRN.out) 0
      have c1 := heap_cell (hI.kept.heap HRB2.out HRN.out) 1
      have c2 := heap_cell (hI.kept.heap HRB2.out HRN.out) 2
      have c3 := heap_cell (hI.kept.heap HRB2.out HRN.out) 3
      have c4 := heap_cell (hI.kept.heap HRB2.out HRN.out) 4
      have c5 := heap_cell (hI.kept.heap HRB2.out HRN.out) 5
      have c6 := heap_cell (hI.kept.heap HRB2.out HRN.out) 6
      have c7 := heap_cell (hI.kept.heap HRB2.out HRN.out) 7
      have c8 := heap_cell (hI.kept.heap HRB2.out HRN.out) 8
      have c9 := heap_cell (hI.kept.heap HRB2.out HRN.out) 9
      go_wp2_with fail
      exact hK _ _ _ (hI.pure HPH.out (Kept.refl _ _) rfl) (aR.pure (Kept.refl _ _)) rfl
    refine gsteps_cons (fun D γ a' w' hI hD0 hdep hcl hag hlt hf K hK => ?_) ?_
    · obtain ⟨⟨_, h4, rfl⟩, -⟩ : SFacts _ _ a' w' [4] := hf
      clear hlt
      clear hag
      have h6 : D 6 = false := by cases hx : D 6 with | false => rfl | true => exact absurd (hcl 6 _ rfl hx 5 (by decide)) (by rw [hD0]; decide)
      have hq := hI.no h6
      have HI := Lw.hid hI; have HQ := Lw.hid hq.2
      clear hI hq
      go_wp2_with fail
      refine (HBY.out w' (K2.out.trans HQ.out (fun _ _ h => h))).mono ?_
      rintro e w4 ⟨rr, rfl, ⟨ho4, hb4⟩, k4⟩
      have HO4 := Lw.hid ho4; have HB4 := Lw.hid hb4; have K4 := Lw.hid k4
      clear ho4 hb4 k4
      go_wp2_with fail
      exact hK _ _ _ (HI.out.pure HPH.out K4.out rfl) (aR.pure K4.out) ⟨HO4.out, fun k hk => Nat.le_trans HQ.out.size (HB4.out k hk)⟩
    refine gsteps_cons (fun D γ a' w' hI hD0 hdep hcl hag hlt hf K hK => ?_) ?_
    · obtain ⟨⟨_, h3, rfl⟩, ⟨v5, h5, e5⟩, -⟩ : SFacts _ _ a' w' [3, 5] := hf
      clear hlt
      clear hag
      obtain ⟨ho5, hb5⟩ := e5
      obtain ⟨pl, hpl⟩ : ∃ pl, p.length = pl := ⟨_, rfl⟩
      obtain ⟨adp, capp, hxe, _, _, _⟩ := own_slice ho5
      rw [hpl] at hxe
      have HO5 := Lw.hid ho5; have HPL := Lw.hid hpl
      have hq := hI.no hD0
      have HI := Lw.hid hI; have HQ := Lw.hid hq.2; have HG0 := Lw.hid hq.1
      clear hI hq ho5 hb5 hpl
      subst hxe
      go_wp2_with fail
      refine (append_any w' BL g v DD s ((HL.out.kept K2.out (fun h => h) (fun h => h) (fun _ _ h => h)).kept HQ.out (fun h => h) (fun h => h) (fun _ _ h => h)) OK.out (HT.out.below ((K2.out.trans HQ.out (fun _ _ h => h)).below (Nat.le_refl _) (fun _ _ h => h))) hsf hsum _ p (RdB.of_own HO5.out rfl)).mono ?_
      rintro e w5 ⟨rfl, v5, hl5, k5, hv5⟩
      rw [HAP.out] at hl5 ⊢
      dsimp only at hl5 ⊢
      have HLG := Lw.hid hl5; have K5 := Lw.hid k5; have HV5 := Lw.hid hv5
      clear hl5 k5 hv5
      go_wp2_with fail
      exact hK _ true _ ⟨HI.out.kept.trans K5.out (fun _ _ h => h), fun h => by simp at h, fun _ => ⟨rfl, v5, HLG.out, fun k hk => (HV5.out k hk).imp (fun h => h) (fun h => by have := HQ.out.size; have := K2.out.size; omega)⟩⟩ ⟨K5.out, fun h => by rw [HG0.out] at h; cases h⟩ rfl
    refine gsteps_cons (fun D γ a' w' hI hD0 hdep hcl hag hlt hf K hK => ?_) ?_
    · obtain ⟨⟨_, h6, rfl⟩, -⟩ : SFacts _ _ a' w' [6] := hf
      clear hlt
      clear hag
      go_wp2_with fail
      exact hK _ _ _ (hI.pure HPH.out (Kept.refl _ _) rfl) (aR.pure (Kept.refl _ _)) rfl
    refine gsteps_cons (fun D γ a' w' hI hD0 hdep hcl hag hlt hf K hK => ?_) ?_
    · obtain ⟨⟨_, h7, rfl⟩, -⟩ : SFacts _ _ a' w' [7] := hf
      clear hlt
      clear hag
      go_wp2_with fail
      exact hK _ _ _ (hI.pure HPH.out (Kept.refl _ _) rfl) (aR.pure (Kept.refl _ _)) rfl
    refine gsteps_cons (fun D γ a' w' hI hD0 hdep hcl hag hlt hf K hK => ?_) ?_
    · obtain ⟨⟨_, h7, rfl⟩, -⟩ : SFacts _ _ a' w' [7] := hf
      clear hlt
      clear hag
      go_wp2_with fail
      exact hK _ _ _ (hI.pure HPH.out (Kept.refl _ _) rfl) (aR.pure (Kept.refl _ _)) rfl
    refine gsteps_cons (fun D γ a' w' hI hD0 hdep hcl hag hlt hf K hK => ?_) ?_
    · obtain ⟨⟨_, h8, rfl⟩, -⟩ : SFacts _ _ a' w' [8, 6, 0, 1, 2, 3, 4, 5, 7] := hf
      clear hlt
      clear hag
      go_wp2_with fail
      exact hK _ _ _ (hI.pure HPH.out (Kept.refl _ _) rfl) (aR.pure (Kept.refl _ _)) rfl
    refine gsteps_cons (fun D γ a' w' hI hD0 hdep hcl hag hlt hf K hK => ?_) ?_
    · obtain ⟨⟨_, h9, rfl⟩, -⟩ : SFacts _ _ a' w' [9, 10, 0, 1, 2, 3, 4, 5, 6, 7, 8] := hf
      clear hlt
      clear hag
      go_wp2_with fail
      exact hK _ _ _ (hI.pure HPH.out (Kept.refl _ _) rfl) (aR.pure (Kept.refl _ _)) rfl
    exact trivial
  · intro vs γ w5 hI hvs
    have q0 : vs 0 = (.pointer (some ⟨j, 0, none⟩)) := hvs 0 _ _ rfl rfl
    have q1 : vs 1 = (.pointer (some ⟨j, 0, none⟩)) := hvs 1 _ _ rfl rfl
    have q2 : vs 2 = (.pointer (some ⟨j, 0, none⟩)) := hvs 2 _ _ rfl rfl
    have q3 : vs 3 = (.pointer (some ⟨BL, 0, none⟩)) := hvs 3 _ _ rfl rfl
    have q4 : vs 4 = (.agg #[.int .u8 6, .int .u32 id, .string (BA t), .int .i64 ch, .int .i64 off, .int .i64 num, .pointer sq, .int .u32 a, .int .u32 b, .int .u32 d]) := hvs 4 _ _ rfl rfl
    have q5 := hvs 5 _ _ rfl rfl
    have q6 : vs 6 = (.tuple #[.int .u32 (nn : Int), .int .i64 0]) := hvs 6 _ _ rfl rfl
    have q7 : vs 7 = (.tuple #[.int .u32 (nn : Int), .int .i64 0]) := hvs 7 _ _ rfl rfl
    have q8 : vs 8 = (.int .u32 (nn : Int)) := hvs 8 _ _ rfl rfl
    have q9 : vs 9 = (.int .i64 0) := hvs 9 _ _ rfl rfl
    have q10 : vs 10 = (.int .u32 (nn : Int)) := hvs 10 _ _ rfl rfl
    have q11 : vs 11 = (.int .i64 0) := hvs 11 _ _ rfl rfl
    clear hvs
    simp only [List.take_succ_cons, List.take_zero, List.drop_succ_cons, List.drop_zero, putAll, Act.put, List.setIfInBounds_toArray, List.set_cons_zero, List.set_cons_succ, Nat.reduceAdd, q0, q1, q2, q3, q4, q6, q7, q8, q9, q10, q11]
    clear q0 q1 q2 q3 q4 q6 q7 q8 q9 q10 q11
    generalize vs 5 = x5 at *
    have hyy := hI.yes rfl
    obtain ⟨-, v5, hl5, hv5⟩ := hyy
    have HLG := Lw.hid hl5; have KL : Hid (Kept (fun k => k = BL ∨ k = g ∨ blk v k) w w5) := Lw.hid ((K2.out.mono (fun _ _ h => h.elim)).trans hI.kept (fun _ _ h => h))
    have HV5 := Lw.hid hv5
    have HRB3 := Lw.hid (hI.kept.heap HRB2.out HRN.out)
    clear hI hl5 hv5 q5
    go_wp2_with fail
    refine wp_region_tailD 6 [stFM w5, stV (.pointer (some ⟨r, 0, none⟩)), stV (.int .u8 6), stV (.func (.func 74) #[] #[]), stV (.pointer (some ⟨j, 0, none⟩)), stV (.agg #[.int .u8 6, .int .u32 id, .string (BA t), .int .i64 ch, .int .i64 off, .int .i64 num, .pointer sq, .int .u32 a, .int .u32 b, .int .u32 d])] (by kernel_rfl) (by kernel_rfl) ?_ ?_
    · refine ssteps_cons (fun a' w' hI hag hf K hK => ?_) ?_
      · clear hag
        have HI := Lw.hid hI
        clear hI
        go_wp2_with fail
        refine (does_any w').mono ?_
        rintro e w6 ⟨bm, rfl, hm⟩
        have k6 := hm.kept
        have HM := Lw.hid hm
        clear hm
        go_wp2_with fail
        exact hK _ _ (HI.out.trans k6 (fun _ _ h => h)) k6 ⟨bm, rfl, ⟨HM.out.owns, Nat.le_trans HI.out.size HM.out.new, HI.out.trans HM.out.kept (fun _ _ h => h)⟩⟩
      iterate 2
        refine ssteps_cons (fun a' w' hI hag hf K hK => ?_) ?_
        · obtain ⟨⟨_, h0, rfl⟩, -⟩ := hf
          have s3 := hag.same 3 (by decide)
          clear hag
          have c0 := heap_cell (hI.heap HRB3.out (fun h => h)) 0
          go_wp2_with fail
          exact hK _ _ hI (Kept.refl _ _) rfl
      refine ssteps_cons (fun a' w' hI hag hf K hK => ?_) ?_
      · obtain ⟨⟨v0, h0, e0⟩, ⟨_, h2, rfl⟩, -⟩ : SFacts _ _ a' w' [0, 2] := hf
        clear hag
        obtain ⟨bm, rfl, hm⟩ := e0
        have hlk := look_does hm 6 (by decide) _ rfl
        clear hm
        go_wp2_with fail
        exact hK _ _ hI (Kept.refl _ _) rfl
      iterate 2
        refine ssteps_cons (fun a' w' hI hag hf K hK => ?_) ?_
        · have s0 := hag.same 0 (by decide)
          have s3 := hag.same 3 (by decide)
          clear hag
          have c0 := heap_cell (hI.heap HRB3.out (fun h => h)) 0
          have c1 := heap_cell (hI.heap HRB3.out (fun h => h)) 1
          have c2 := heap_cell (hI.heap HRB3.out (fun h => h)) 2
          have c3 := heap_cell (hI.heap HRB3.out (fun h => h)) 3
          have c4 := heap_cell (hI.heap HRB3.out (fun h => h)) 4
          have c5 := heap_cell (hI.heap HRB3.out (fun h => h)) 5
          have c6 := heap_cell (hI.heap HRB3.out (fun h => h)) 6
          have c7 := heap_cell (hI.heap HRB3.out (fun h => h)) 7
          have c8 := heap_cell (hI.heap HRB3.out (fun h => h)) 8
          have c9 := heap_cell (hI.heap HRB3.out (fun h => h)) 9
          go_wp2_with fail
          exact hK _ _ hI (Kept.refl _ _) rfl
      exact trivial
    · intro vs wy hI hvs
      have q0 := hvs 0 _ _ rfl rfl
      simp only [pzz, putAll, Act.put, Nat.reduceAdd, spv (hvs 1 _ _ rfl rfl) rfl, spv (hvs 2 _ _ rfl rfl) rfl, spv (hvs 3 _ _ rfl rfl) rfl, spv (hvs 4 _ _ rfl rfl) rfl, spv (hvs 5 _ _ rfl rfl) rfl]
      clear hvs
      generalize vs 0 = x0 at *
      have KZ := Lw.hid hI
      clear hI q0
      go_wp2_with fail
      refine (HDO.out wy ((KL.out.trans KZ.out (fun _ _ h => h.elim)))).mono ?_
      rintro e w7 ⟨rfl, F7, va7, sp7, hj7, hf7, k7⟩
      have HJ7 := Lw.hid hj7; have HF7 := Lw.hid hf7; have K7 := Lw.hid k7
      clear hj7 hf7 k7
      go_wp2_with fail
      go_ret
      have hzl := KL.out.size; have hzz := KZ.out.size
      have hltb := heap_lt HLG.out.box; have hltg := heap_lt HLG.out.d.box; have hltv := own_lt HLG.out.d.own
      have hBs : ∀ k, B k → k ≠ BL ∧ k ≠ g ∧ ¬ blk v5 k := fun k hk => ⟨(HBB.out k hk).2.1, (HBB.out k hk).2.2.1, fun e => by
        rcases HV5.out k e with h | h
        · exact (HBB.out k hk).2.2.2 h
        · have := (HBB.out k hk).1; omega⟩
      have hLz : LogAt w7 BL g v5 D' s' := (HLG.out.kept KZ.out (fun h => h) (fun h => h) (fun _ _ h => h)).kept K7.out (fun h => (hBs _ h).1 rfl) (fun h => (hBs _ h).2.1 rfl) (fun k hk h => (hBs k h).2.2 hk)
      refine ⟨by simp, v5, F7, va7, sp7, hLz, HV5.out, HJ7.out, fun k hk => ?_, ?_⟩
      · rcases HF7.out k hk with h | h
        · exact ⟨.inl h, hBs k h⟩
        · exact ⟨.inr (by omega), by omega, by omega, fun e => by have := hltv k e; omega⟩
      · exact ((KL.out.trans KZ.out (fun _ _ h => h.elim)).mono (fun k _ h => .inr h)).trans K7.out (fun k _ h => .inl h)
end Go.Proofs.YtgegjjnfcnalfaaGreatDoor
