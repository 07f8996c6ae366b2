/- Frames that may be, of any; whether frames are the same. -/
import Derived.Test.YtcmipliglcakdaaDoorFrameL
import Derived.Test.YtcmipliglcakdaaDoorSlEq
namespace Go.Proofs.YtcmipliglcakdaaDoor
open Go Go.RowKit Go.Lw
set_option maxRecDepth 100000
/-- A frame that may be, of any; its payload's value. -/
def Frm.made (f : Frm) : Frm :=
  if f.kind % 5 = 2 then { f with kind := 3, num := f.num % 2147483648, p := f.p.take 256 }
  else if f.kind % 5 = 3 then { f with kind := 4, num := 0, p := [] }
  else { f with kind := 1 + f.kind % 5, num := 0, ack := 0, mask := 0, p := f.p.take 256 }
theorem made_ok {f : Frm} (h : f.ok) : f.made.ok := by
  have := h.k; have := h.s; have := h.e; have := h.n; have := h.a; have := h.m
  unfold Frm.made
  split
  · exact ⟨by simp, h.s, h.e, by simp; omega, h.a, h.m⟩
  · split
    · exact ⟨by simp, h.s, h.e, by simp, h.a, h.m⟩
    · exact ⟨by simp; omega, h.s, h.e, by simp, by simp, by simp⟩
theorem made_may (f : Frm) : f.made.may = true := by
  unfold Frm.made
  split
  · simp [Frm.may]; omega
  · split
    · simp [Frm.may]
    · rename_i h1 h2
      have : 1 + f.kind % 5 ≠ 3 := by omega
      have : 1 + f.kind % 5 ≠ 4 := by omega
      simp [Frm.may, *]; omega
set_option maxHeartbeats 1000000 in
theorem made_any (w wz : World) (f : Frm) (v : Value) (hf : f.ok) (hv : RdB wz v f.p) :
    Calls Tryd.prog 45 #[f.val v] w fun e w' => ∃ ad cap, e = .returned (f.made.val (.slice ad f.made.p.length cap)) ∧ RdB wz (.slice ad f.made.p.length cap) f.made.p ∧ Kept (fun _ => False) w w' := by
  obtain ⟨ad, cap, rfl, h1, h2, h3⟩ := hv.open
  clear h3
  unfold maxLen at h2
  have hk := hf.k; have hn := hf.n
  obtain ⟨n', hn', HV⟩ : ∃ n', n' = min f.p.length 256 ∧ Hid (RdB wz (.slice ad n' cap) (f.p.take n')) := ⟨_, rfl, Lw.hid (hv.take _ (Nat.min_le_left _ _))⟩
  have HN : Hid ((f.p.take 256).length = n' ∧ f.p.take 256 = f.p.take n') := Lw.hid ⟨by rw [List.length_take]; omega, by
    rcases Nat.le_total f.p.length 256 with h | h
    · rw [hn', Nat.min_eq_left h, List.take_of_length_le h, List.take_of_length_le (Nat.le_refl _)]
    · rw [hn', Nat.min_eq_right h]⟩
  clear hv hf
  have hcases : n' = 256 ∧ 256 < f.p.length ∨ n' = f.p.length ∧ f.p.length ≤ 256 := by omega
  clear hn'
  obtain ⟨k, s, ep, nu, a, m, p⟩ := f
  simp only [Frm.made] at HV HN hcases h1 h2 hk hn ⊢
  generalize hq : p.take 256 = q at *
  obtain ⟨hN1, hN2⟩ := HN.out
  rw [← hN2] at HV
  have HQ : Hid (q.length = n') := Lw.hid hN1
  clear hN1 hN2 HN hq
  generalize p.length = len at *
  have q5 : k % 5 < 5 := Nat.mod_lt _ (by decide)
  have val_eq : ∀ (k1 n1 a1 m1 : Int) (k2 n2 a2 m2 : Nat) (v : Value), k1 = k2 → n1 = n2 → a1 = a2 → m1 = m2 → Ending.returned (.agg #[.int .u8 k1, .int .u32 (s : Int), .int .u32 (ep : Int), .int .u32 n1, .int .u32 a1, .int .u32 m1, v]) = .returned ((⟨k2, s, ep, n2, a2, m2, q⟩ : Frm).val v) := fun _ _ _ _ _ _ _ _ _ h1 h2 h3 h4 => by rw [h1, h2, h3, h4]
  have VE := Lw.hid val_eq
  clear val_eq
  by_cases c2 : k % 5 = 2
  · have f3 : ((1 + (k : Int) % 5) == 3) = true := beq_iff_eq.2 (by omega)
    have E1 : Hid (k % 5 = 2) := Lw.hid c2
    rw [if_pos c2]
    clear c2
    rcases hcases with ⟨rfl, hlt⟩ | ⟨rfl, hlt⟩
    all_goals
      go_enter Tryd.func45, Tryd.ntmps45
      go_wp2_with fail
      refine bodyPost_ret (v := .agg #[.int .u8 (1 + (k : Int) % 5), .int .u32 (s : Int), .int .u32 (ep : Int), .int .u32 ((nu : Int) % 2147483648), .int .u32 (a : Int), .int .u32 (m : Int), .slice ad _ cap]) (by simp [results, go_sem]; rfl) rfl ⟨ad, cap, ?_, ?_, ((Kept.refl _ w).alloc _).alloc _⟩
      · rw [HQ.out]; exact VE.out _ _ _ _ _ _ _ _ _ (by have := E1.out; omega) (by omega) rfl rfl
      · rw [HQ.out]; exact HV.out
  rw [if_neg c2]
  by_cases c3 : k % 5 = 3
  · have f3 : ((1 + (k : Int) % 5) == 3) = false := beq_eq_false_iff_ne.2 (by omega)
    have f4 : ((1 + (k : Int) % 5) == 4) = true := beq_iff_eq.2 (by omega)
    have E1 : Hid (k % 5 = 3) := Lw.hid c3
    rw [if_pos c3]
    clear c2 c3
    rcases hcases with ⟨rfl, hlt⟩ | ⟨rfl, hlt⟩
    all_goals
      go_enter Tryd.func45, Tryd.ntmps45
      go_wp2_with fail
      refine bodyPost_ret (v := .agg #[.int .u8 (1 + (k : Int) % 5), .int .u32 (s : Int), .int .u32 (ep : Int), .int .u32 0, .int .u32 (a : Int), .int .u32 (m : Int), .slice none 0 0]) (by simp [results, go_sem]) rfl ⟨none, 0, ?_, RdB.nil _, ((Kept.refl _ w).alloc _).alloc _⟩
      rw [show (1 + (k : Int) % 5) = ((4 : Nat) : Int) by have := E1.out; omega]
      rfl
  · have f3 : ((1 + (k : Int) % 5) == 3) = false := beq_eq_false_iff_ne.2 (by omega)
    have f4 : ((1 + (k : Int) % 5) == 4) = false := beq_eq_false_iff_ne.2 (by omega)
    rw [if_neg c3]
    clear c2 c3
    rcases hcases with ⟨rfl, hlt⟩ | ⟨rfl, hlt⟩
    all_goals
      go_enter Tryd.func45, Tryd.ntmps45
      go_wp2_with fail
      refine bodyPost_ret (v := .agg #[.int .u8 (1 + (k : Int) % 5), .int .u32 (s : Int), .int .u32 (ep : Int), .int .u32 0, .int .u32 0, .int .u32 0, .slice ad _ cap]) (by simp [results, go_sem]; rfl) rfl ⟨ad, cap, ?_, ?_, ((Kept.refl _ w).alloc _).alloc _⟩
      · rw [HQ.out]; exact VE.out _ _ _ _ _ _ _ _ _ (by omega) rfl rfl rfl
      · rw [HQ.out]; exact HV.out
/-- Are frames the same? -/
def Frm.same (f g : Frm) : Bool := f.kind == g.kind && f.ses == g.ses && f.ep == g.ep && f.num == g.num && f.ack == g.ack && f.mask == g.mask && f.p == g.p
set_option maxHeartbeats 1000000 in
theorem same_any (w : World) (f g : Frm) (v u : Value) (hv : RdB w v f.p) (hu : RdB w u g.p) (b : Bool) (hb : f.same g = b) :
    Calls Tryd.prog 47 #[f.val v, g.val u] w fun e w' => e = .returned (.bool b) ∧ Kept (fun _ => False) w w' := by
  have HB : Hid (f.same g = b) := Lw.hid hb
  have HV := Lw.hid hv; have HU := Lw.hid hu
  clear hb hv hu
  obtain ⟨k, s, ep, nu, a, m, p⟩ := f
  obtain ⟨k', s', ep', nu', a', m', p'⟩ := g
  unfold Frm.same at HB
  simp only at HB HV HU ⊢
  have hz : ∀ x y : Nat, ¬ x = y → ((x : Int) == (y : Int)) = false := fun x y hx => beq_eq_false_iff_ne.2 (by omega)
  have hf : ∀ x y : Nat, ¬ x = y → (x == y) = false := fun x y hx => beq_eq_false_iff_ne.2 hx
  have HF := Lw.hid hf
  clear hf
  by_cases ek : k = k'
  rotate_left
  · have z := hz _ _ ek
    have HZ := Lw.hid (HF.out _ _ ek)
    clear hz ek
    go_enter Tryd.func47, Tryd.ntmps47
    go_wp2_with fail
    go_ret
    exact ⟨by rw [← HB.out, HZ.out]; simp, ((Kept.refl _ w).alloc _).alloc _⟩
  subst ek
  by_cases es : s = s'
  rotate_left
  · have z := hz _ _ es
    have HZ := Lw.hid (HF.out _ _ es)
    clear hz es
    go_enter Tryd.func47, Tryd.ntmps47
    go_wp2_with fail
    go_ret
    exact ⟨by rw [← HB.out, HZ.out]; simp, ((Kept.refl _ w).alloc _).alloc _⟩
  subst es
  by_cases eep : ep = ep'
  rotate_left
  · have z := hz _ _ eep
    have HZ := Lw.hid (HF.out _ _ eep)
    clear hz eep
    go_enter Tryd.func47, Tryd.ntmps47
    go_wp2_with fail
    go_ret
    exact ⟨by rw [← HB.out, HZ.out]; simp, ((Kept.refl _ w).alloc _).alloc _⟩
  subst eep
  by_cases enu : nu = nu'
  rotate_left
  · have z := hz _ _ enu
    have HZ := Lw.hid (HF.out _ _ enu)
    clear hz enu
    go_enter Tryd.func47, Tryd.ntmps47
    go_wp2_with fail
    go_ret
    exact ⟨by rw [← HB.out, HZ.out]; simp, ((Kept.refl _ w).alloc _).alloc _⟩
  subst enu
  by_cases ea : a = a'
  rotate_left
  · have z := hz _ _ ea
    have HZ := Lw.hid (HF.out _ _ ea)
    clear hz ea
    go_enter Tryd.func47, Tryd.ntmps47
    go_wp2_with fail
    go_ret
    exact ⟨by rw [← HB.out, HZ.out]; simp, ((Kept.refl _ w).alloc _).alloc _⟩
  subst ea
  by_cases em : m = m'
  rotate_left
  · have z := hz _ _ em
    have HZ := Lw.hid (HF.out _ _ em)
    clear hz em
    go_enter Tryd.func47, Tryd.ntmps47
    go_wp2_with fail
    go_ret
    exact ⟨by rw [← HB.out, HZ.out]; simp, ((Kept.refl _ w).alloc _).alloc _⟩
  subst em
  clear hz
  go_enter Tryd.func47, Tryd.ntmps47
  go_wp2_with fail
  refine (sleq_any _ v u p p' ((HV.out.alloc _).alloc _) ((HU.out.alloc _).alloc _) _ rfl).mono ?_
  rintro e w1 ⟨rfl, hk⟩
  have HP : Hid ((p == p') = b) := Lw.hid (by rw [← HB.out]; simp)
  rw [HP.out]
  go_wp2_with fail
  go_ret
  exact ⟨rfl, (((Kept.refl _ w).alloc _).alloc _).trans hk (fun _ _ h => h)⟩
end Go.Proofs.YtcmipliglcakdaaDoor
