/- longwireref04.number; Same. -/
import Derived.Test.YtcmipliglcakdaaDoorFrameR
import Derived.Test.YtcmipliglcakdaaDoorFrameM
import Derived.Test.YtcmipliglcakdaaDoorPlainReader
namespace Go.Proofs.YtcmipliglcakdaaDoor
open Go Go.RowKit Go.Lw
set_option maxRecDepth 100000
set_option maxHeartbeats 1000000 in
theorem number04_any (w : World) (v : Value) (l : List UInt8) (hv : RdB w v l) (hl : l.length ≤ 8) :
    Calls Tryd.prog 64 #[v] w fun e w' => e = .returned (.int .u64 ((beVal l : Nat) : Int)) ∧ w = w' := by
  obtain ⟨ad, cap, rfl, h1, h2, hc⟩ := hv.open
  unfold maxLen at h2
  have HC := Lw.hid hc
  clear hv hc
  go_enter Tryd.func64, Tryd.ntmps64
  go_wp2_with fail
  go_loop [3, 4] (fun x i => ∃ k : Nat, k ≤ l.length ∧ i = .int .i64 (k : Int) ∧ x = .int .u64 ((beVal (l.take k) : Nat) : Int)) (fun _ i => l.length - (intOf i).toNat)
  case atStart => exact ⟨0, Nat.zero_le _, rfl, rfl⟩
  case round =>
    obtain ⟨k, hk, rfl, rfl⟩ := hrel
    by_cases hlt : k < l.length
    · have HS : Hid (beVal (l.take (k + 1)) = beVal (l.take k) * 256 + l[k].toNat) := Lw.hid (by rw [take_snoc _ _ hlt]; exact beVal_snoc _ _)
      obtain ⟨g, off, rfl, hcell⟩ := HC.out k hlt
      have hcb := l[k].toNat_lt
      have hb : beVal (l.take k) < 72057594037927936 := by
        have h1 := beVal_lt (l.take k)
        have h2 : (l.take k).length ≤ 7 := by rw [List.length_take]; omega
        have h3 : 256 ^ (l.take k).length ≤ 256 ^ 7 := Nat.pow_le_pow_right (by decide) h2
        have : (256 : Nat) ^ 7 = 72057594037927936 := by decide
        omega
      have i0 : (0 : Int) ≤ (k : Int) := by omega
      have i1 : (k : Int) < (l.length : Int) := by omega
      generalize beVal (l.take k) = n at *
      generalize l[k].toNat = c at *
      have hb1 : (n : Int) < 72057594037927936 := by omega
      go_wp2_with fail
      try go_quiet (fail)
      go_wp2_with fail
      go_round
      case rel => exact ⟨k + 1, by omega, by go_num, by rw [HS.out]; go_num⟩
      case measure => simp [intOf]; omega
    · have hq : l.take k = l := List.take_of_length_le (by omega)
      rw [hq]
      clear hq
      go_wp2_with fail
      go_ret
      exact ⟨rfl, rfl⟩
set_option maxHeartbeats 1000000 in
theorem rsame_any (w : World) (f g : Frm) (v u : Value) (hv : RdB w v f.p) (hu : RdB w u g.p) (b : Bool) (hb : f.same g = b) :
    Calls Tryd.prog 51 #[f.rval v, g.rval u] w fun e w' => e = .returned (.bool b) ∧ Kept (fun _ => False) w w' := by
  have HB : Hid (f.same g = b) := Lw.hid hb
  have HV := Lw.hid hv; have HU := Lw.hid hu
  clear hb hv hu
  obtain ⟨k, s, ep, nu, a, m, p⟩ := f
  obtain ⟨k', s', ep', nu', a', m', p'⟩ := g
  unfold Frm.same at HB
  simp only at HB HV HU ⊢
  have hz : ∀ x y : Nat, ¬ x = y → ((x : Int) == (y : Int)) = false := fun x y hx => beq_eq_false_iff_ne.2 (by omega)
  have hf : ∀ x y : Nat, ¬ x = y → (x == y) = false := fun x y hx => beq_eq_false_iff_ne.2 hx
  have HF := Lw.hid hf
  clear hf
  by_cases ek : k = k'
  rotate_left
  · have z := hz _ _ ek
    have HZ := Lw.hid (HF.out _ _ ek)
    clear hz ek
    go_enter Tryd.func51, Tryd.ntmps51
    go_wp2_with fail
    go_ret
    exact ⟨by rw [← HB.out, HZ.out]; simp, ((Kept.refl _ w).alloc _).alloc _⟩
  subst ek
  by_cases es : s = s'
  rotate_left
  · have z := hz _ _ es
    have HZ := Lw.hid (HF.out _ _ es)
    clear hz es
    go_enter Tryd.func51, Tryd.ntmps51
    go_wp2_with fail
    go_ret
    exact ⟨by rw [← HB.out, HZ.out]; simp, ((Kept.refl _ w).alloc _).alloc _⟩
  subst es
  by_cases eep : ep = ep'
  rotate_left
  · have z := hz _ _ eep
    have HZ := Lw.hid (HF.out _ _ eep)
    clear hz eep
    go_enter Tryd.func51, Tryd.ntmps51
    go_wp2_with fail
    go_ret
    exact ⟨by rw [← HB.out, HZ.out]; simp, ((Kept.refl _ w).alloc _).alloc _⟩
  subst eep
  by_cases enu : nu = nu'
  rotate_left
  · have z := hz _ _ enu
    have HZ := Lw.hid (HF.out _ _ enu)
    clear hz enu
    go_enter Tryd.func51, Tryd.ntmps51
    go_wp2_with fail
    go_ret
    exact ⟨by rw [← HB.out, HZ.out]; simp, ((Kept.refl _ w).alloc _).alloc _⟩
  subst enu
  by_cases ea : a = a'
  rotate_left
  · have z := hz _ _ ea
    have HZ := Lw.hid (HF.out _ _ ea)
    clear hz ea
    go_enter Tryd.func51, Tryd.ntmps51
    go_wp2_with fail
    go_ret
    exact ⟨by rw [← HB.out, HZ.out]; simp, ((Kept.refl _ w).alloc _).alloc _⟩
  subst ea
  by_cases em : m = m'
  rotate_left
  · have z := hz _ _ em
    have HZ := Lw.hid (HF.out _ _ em)
    clear hz em
    go_enter Tryd.func51, Tryd.ntmps51
    go_wp2_with fail
    go_ret
    exact ⟨by rw [← HB.out, HZ.out]; simp, ((Kept.refl _ w).alloc _).alloc _⟩
  subst em
  clear hz
  have hs1 : ∀ w' : World, Kept (fun _ => False) w w' → (convert 22 9 v).run Tryd.prog w' = .ok (.string ⟨p.toArray⟩) w' := fun w' hk => run_str (HV.out.kept hk (fun _ _ h => h)) Tryd.underlying22 Tryd.underlying5 Tryd.underlying9
  have hs2 : ∀ w' : World, Kept (fun _ => False) w w' → (convert 22 9 u).run Tryd.prog w' = .ok (.string ⟨p'.toArray⟩) w' := fun w' hk => run_str (HU.out.kept hk (fun _ _ h => h)) Tryd.underlying22 Tryd.underlying5 Tryd.underlying9
  have HS1 := Lw.hid hs1; have HS2 := Lw.hid hs2
  clear hs1 hs2
  have q1 := HS1.out _ (((Kept.refl _ w).alloc (.cells #[.int .i64 (k : Int), .int .u32 (s : Int), .int .u32 (ep : Int), .int .u32 (nu : Int), .int .u32 (a : Int), .int .u32 (m : Int), v] 48)).alloc (.cells #[.int .i64 (k : Int), .int .u32 (s : Int), .int .u32 (ep : Int), .int .u32 (nu : Int), .int .u32 (a : Int), .int .u32 (m : Int), u] 48))
  have q2 := HS2.out _ (((Kept.refl _ w).alloc (.cells #[.int .i64 (k : Int), .int .u32 (s : Int), .int .u32 (ep : Int), .int .u32 (nu : Int), .int .u32 (a : Int), .int .u32 (m : Int), v] 48)).alloc (.cells #[.int .i64 (k : Int), .int .u32 (s : Int), .int .u32 (ep : Int), .int .u32 (nu : Int), .int .u32 (a : Int), .int .u32 (m : Int), u] 48))
  go_enter Tryd.func51, Tryd.ntmps51
  go_wp2_with fail
  go_ret
  exact ⟨by rw [← HB.out]; simp, ((Kept.refl _ w).alloc _).alloc _⟩
end Go.Proofs.YtcmipliglcakdaaDoor
