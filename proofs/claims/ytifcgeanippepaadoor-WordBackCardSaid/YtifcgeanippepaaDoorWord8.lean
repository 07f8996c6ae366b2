/- longwirelaw17.wakes: what the examples say. -/
import Derived.Test.YtifcgeanippepaaDoorWord7
namespace Go.Proofs.YtifcgeanippepaaDoor
open Go Go.RowKit Go.Lw
set_option maxRecDepth 100000
set_option linter.unusedVariables false
set_option linter.unusedSimpArgs false
attribute [local go_sem] BA_toList
/-- A literal word in a new block. -/
theorem WAt.lit (w : World) (F : Nat → Prop) (ps : List (Prt × Value)) (cs : List Value) (hcs : ps.flatMap PC = cs) (n : Nat) (hn : ps.length = n) (hm : n ≤ maxLen) (hb : F w.heap.size) (ho : ∀ x ∈ ps, WAt w F x.2 x.1.orw) (g : Nat) (hg : g = w.heap.size) :
    WAt (w.alloc (.cells cs.toArray 46)) F (.slice (some ⟨g, 0, none⟩) n n) (ps.map Prod.fst) := by
  subst hcs; subst hn; subst hg
  refine .mk _ ps (Rd.lit w (ps.flatMap PC) 46 4 w.heap.size ps.length rfl (pc_flat ps) hm) (fun b h => ?_) (fun x hx => (ho x hx).kept ((Kept.refl (fun _ => False) w).alloc _) (fun _ _ h => h))
  have e : b = w.heap.size := blk_some h
  subst e
  exact ⟨hb, by rw [World.size_alloc]; exact Nat.lt_succ_self _⟩
theorem pp_at {w w' : World} {s : List UInt8} {x : Ending} {l : List Prt} (h : ParsePost w s x w') (hs : parseW s = .ok l) : ∃ v, x = .returned (.tuple #[v, .int .i64 0]) ∧ WAt w' (fun b => w.heap.size ≤ b) v l := by
  unfold ParsePost at h; rw [hs] at h; exact h
set_option maxHeartbeats 8000000 in
theorem wakes17_any (w : World) (hE : WEnv w) :
    Calls Tryd.prog 23 #[] w fun x w' => x = .returned (.bool true) ∧ Kept (fun _ => False) w w' := by
  have HE := Lw.hid hE
  clear hE
  go_enter Tryd.func23, Tryd.ntmps23
  go_wp2_with fail
  refine (parse_any w exA HE.out (by decide)).mono ?_
  rintro x w1 ⟨hx, k1⟩
  obtain ⟨v1, rfl, ha1⟩ := pp_at hx exA_ok
  have HE1 : Hid (WEnv w1) := Lw.hid (HE.out.kept k1 (fun h => h) (fun h => h) (fun h => h))
  have HA1 := Lw.hid ha1; have HK1 := Lw.hid k1
  clear hx ha1 k1
  go_wp2_with fail
  refine (parse_any w1 exB HE1.out (by decide)).mono ?_
  rintro x w2 ⟨hx, k2⟩
  obtain ⟨v2, rfl, ha2⟩ := pp_at hx exB_ok
  have HA2 := Lw.hid ha2; have HK2 := Lw.hid k2
  clear hx ha2 k2
  have HA12 := Lw.hid (HA1.out.kept HK2.out (fun _ _ h => h))
  have L1 := Lw.hid (WAt.lit w2 (fun _ => True) [(.mk 1 [97] [] false, .slice none 0 0), (.mk 1 [98, 32] [] true, .slice none 0 0), (.mk 2 [99] [] true, .slice none 0 0), (.mk 1 [100] [] true, .slice none 0 0)]
    [.int .i64 1, .string ⟨#[97]⟩, .slice none 0 0, .bool false, .int .i64 1, .string ⟨#[98, 32]⟩, .slice none 0 0, .bool true, .int .i64 2, .string ⟨#[99]⟩, .slice none 0 0, .bool true, .int .i64 1, .string ⟨#[100]⟩, .slice none 0 0, .bool true] rfl 4 rfl (by unfold maxLen; omega) trivial (fun x hx => by
    simp only [List.mem_cons, List.not_mem_nil, or_false] at hx
    rcases hx with rfl | rfl | rfl | rfl <;> exact WAt.nil _ _) w2.heap.size rfl)
  obtain ⟨wA, hA⟩ : ∃ wA, w2.alloc (.cells #[.int .i64 1, .string ⟨#[97]⟩, .slice none 0 0, .bool false, .int .i64 1, .string ⟨#[98, 32]⟩, .slice none 0 0, .bool true, .int .i64 2, .string ⟨#[99]⟩, .slice none 0 0, .bool true, .int .i64 1, .string ⟨#[100]⟩, .slice none 0 0, .bool true] 46) = wA := ⟨_, rfl⟩
  rw [hA] at L1
  have hsA : w2.heap.size + 1 = wA.heap.size := by rw [← hA, World.size_alloc]
  have kA : Kept (fun _ => False) w2 wA := by rw [← hA]; exact (Kept.refl _ w2).alloc _
  have L2 := Lw.hid (WAt.lit wA (fun _ => True) [(.mk 1 [121, 32, 122] [] true, .slice none 0 0)] [.int .i64 1, .string ⟨#[121, 32, 122]⟩, .slice none 0 0, .bool true] rfl 1 rfl (by unfold maxLen; omega) trivial (fun x hx => by
    rw [List.mem_singleton.1 hx]; exact WAt.nil _ _) (w2.heap.size + 1) hsA)
  obtain ⟨wB, hB⟩ : ∃ wB, wA.alloc (.cells #[.int .i64 1, .string ⟨#[121, 32, 122]⟩, .slice none 0 0, .bool true] 46) = wB := ⟨_, rfl⟩
  rw [hB] at L2
  have hsB : w2.heap.size + 2 = wB.heap.size := by rw [← hB, World.size_alloc]; omega
  have kB : Kept (fun _ => False) w2 wB := by rw [← hB]; exact kA.alloc _
  have L3 := Lw.hid (WAt.lit wB (fun _ => True) [(.mk 3 [120] [.mk 1 [121, 32, 122] [] true] false, .slice (some ⟨w2.heap.size + 1, 0, none⟩) 1 1)] [.int .i64 3, .string ⟨#[120]⟩, .slice (some ⟨w2.heap.size + 1, 0, none⟩) 1 1, .bool false] rfl 1 rfl (by unfold maxLen; omega) trivial (fun x hx => by
    rw [List.mem_singleton.1 hx]; exact L2.out) (w2.heap.size + 2) hsB)
  obtain ⟨wC, hC⟩ : ∃ wC, wB.alloc (.cells #[.int .i64 3, .string ⟨#[120]⟩, .slice (some ⟨w2.heap.size + 1, 0, none⟩) 1 1, .bool false] 46) = wC := ⟨_, rfl⟩
  rw [hC] at L3
  have kC : Kept (fun _ => False) w2 wC := by rw [← hC]; exact kB.alloc _
  have kAC : Kept (fun _ => False) wA wC := by rw [← hC, ← hB]; exact ((Kept.refl _ wA).alloc _).alloc _
  have L1C := Lw.hid (L1.out.kept kAC (fun _ _ h => h))
  have HA1C := Lw.hid (HA12.out.kept kC (fun _ _ h => h)); have HA2C := Lw.hid (HA2.out.kept kC (fun _ _ h => h))
  have S1 := Lw.hid (same_any HA1C.out L1C.out)
  have HAA := Lw.hid hA; have HBB := Lw.hid hB; have HCC := Lw.hid hC; have KC := Lw.hid kC
  clear hA hB hC hsA hsB kA kB kC
  go_wp2_with fail
  rw [HAA.out, HBB.out, HCC.out]
  refine S1.out.mono ?_
  rw [show sameW exAp (List.map Prod.fst [(Prt.mk 1 [97] [] false, Value.slice none 0 0), (.mk 1 [98, 32] [] true, .slice none 0 0), (.mk 2 [99] [] true, .slice none 0 0), (.mk 1 [100] [] true, .slice none 0 0)]) = true from same_self _ _ (Nat.le_refl _)]
  rintro x w3 ⟨rfl, k3⟩
  have S2 := Lw.hid (same_any (HA2C.out.kept k3 (fun _ _ h => h)) (L3.out.kept k3 (fun _ _ h => h)))
  have K3 := Lw.hid (HK1.out.trans (HK2.out.trans (KC.out.trans k3 (fun _ _ h => h)) (fun _ _ h => h)) (fun _ _ h => h))
  clear k3
  go_wp2_with fail
  refine S2.out.mono ?_
  rw [show sameW exBp (List.map Prod.fst [(Prt.mk 3 [120] [.mk 1 [121, 32, 122] [] true] false, Value.slice (some ⟨w2.heap.size + 1, 0, none⟩) 1 1)]) = true from same_self _ _ (Nat.le_refl _)]
  rintro x w4 ⟨rfl, k4⟩
  have K4 := Lw.hid (K3.out.trans k4 (fun _ _ h => h))
  clear k4
  go_wp2_with fail
  go_ret
  exact ⟨rfl, K4.out⟩
end Go.Proofs.YtifcgeanippepaaDoor
