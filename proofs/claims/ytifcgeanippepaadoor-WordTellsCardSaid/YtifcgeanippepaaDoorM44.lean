/- WordTells: the document's reader: word, whole. -/
import Derived.Test.YtifcgeanippepaaDoorTellaM
import Derived.Test.YtifcgeanippepaaDoorTellbM
import Derived.Test.YtifcgeanippepaaDoorTellcM
import Derived.Test.YtifcgeanippepaaDoorM25
import Derived.Test.YtifcgeanippepaaDoorM23
import Derived.Test.YtifcgeanippepaaDoorWordTM
namespace Go.Proofs.YtifcgeanippepaaDoor
open Go Go.RowKit Go.Lw
/-- word. -/
theorem wordz_all (N : Nat) : CWordZ N := by
  induction N using Nat.strongRecOn with
  | ind N ih =>
    intro lv q w g S a hS9 ha hN h
    have HW : Hid (∀ M, M < S.length - a → CWordZ M) := Lw.hid (fun M hM => ih M (by omega))
    cases lv
    · exact wz_bare q w g S a hS9 ha h HW
    · exact wz_dbl q w g S a hS9 ha h HW
    · exact wz_brc q w g S a hS9 ha h HW
end Go.Proofs.YtifcgeanippepaaDoor
/- WordTells: the document's Same. -/
namespace Go.Proofs.YtifcgeanippepaaDoor
open Go Go.RowKit Go.Lw
set_option maxRecDepth 100000
set_option linter.unusedVariables false
set_option linter.unusedSimpArgs false
attribute [local go_sem] BA_toList
theorem quiet_add_of {P : Program} {f : FuncId} {args : Array Value} {w : World} {a n : Nat} {v : Value}
    (h : Calls P f args (w.drewN (a + n)) fun e w' => e = .returned v ∧ ∃ m, w' = (w.drewN (a + n)).drewN m) :
    Calls P f args (w.drewN (a + n)) fun e w'' => e = .returned v ∧ ∃ m, w'' = w.drewN (a + m) :=
  h.mono fun _ _ ⟨he, m, hm⟩ => ⟨he, n + m, by rw [hm, World.drewN_drewN, Nat.add_assoc]⟩
/-- The contract of the document's Same, for words of a size. -/
def CSameZ (n : Nat) : Prop := ∀ (w : World) (F G : Nat → Prop) (va vb : Value) (a b : List Prt), szL a ≤ n → WAt w F va a → WAt w G vb b →
  Calls Tryd.prog 35 #[va, vb] w fun x w' => x = .returned (.bool (sameW a b)) ∧ ∃ m, w' = w.drewN m
theorem WAt.drewN {w : World} {F : Nat → Prop} {v : Value} {l : List Prt} (h : WAt w F v l) (n : Nat) : WAt (w.drewN n) F v l := h.kept (kept_drewN' w n) (fun _ _ h => h)
set_option maxHeartbeats 16000000 in
theorem samez_all (n : Nat) : CSameZ n := by
  induction n using Nat.strongRecOn with
  | ind n ih =>
    intro w F G va vb a b hsz ha hb
    have hpos := szL_pos a
    have HS : Hid (CSameZ (n - 1)) := Lw.hid (ih (n - 1) (by omega))
    obtain ⟨aa, n1, c1, rfl⟩ := ha.slice
    obtain ⟨ab, n2, c2, rfl⟩ := hb.slice
    have h1 := ha.elem.1; have h2 := hb.elem.1
    have HA := Lw.hid ha; have HB := Lw.hid hb; have HSZ := Lw.hid hsz
    have HN1 := Lw.hid h1; have HN2 := Lw.hid h2
    have hn9 := ha.max
    clear ih ha hb hsz hpos
    by_cases hne : n1 = n2
    · obtain ⟨N, hN⟩ : ∃ N, n1 = N := ⟨_, rfl⟩
      obtain rfl : n2 = N := by omega
      subst hN
      clear h1 h2
      have hbb : ((n1 : Int) != (n1 : Int)) = false := by simp
      obtain ⟨R0, hR0⟩ : ∃ R0, sameW a b = R0 := ⟨_, rfl⟩
      have HR0 := Lw.hid hR0
      rw [hR0]
      clear hR0
      go_enter Tryd.func35, Tryd.ntmps35
      go_wp2_with fail
      go_loopg [5] n1 (fun gk s5 wx => ∃ k m : Nat, gk = n1 - k ∧ k ≤ n1 ∧ s5 = .int .i64 (k : Int) ∧ sameW (a.drop k) (b.drop k) = R0 ∧ wx = w.drewN m)
      case atStart => exact ⟨0, 0, rfl, Nat.zero_le _, rfl, HR0.out, by first | rfl | (rw [World.drewN_zero])⟩
      case round =>
        obtain ⟨k, m0, rfl, hk, rfl, hsm, hwx⟩ := hrel
        have HWX := Lw.hid hwx; have HSM := Lw.hid hsm
        have HA' := Lw.hid (show WAt wr F _ a from hwx ▸ HA.out.drewN m0)
        have HB' := Lw.hid (show WAt wr G _ b from hwx ▸ HB.out.drewN m0)
        clear hwx hsm
        by_cases hlt : k < n1
        · obtain ⟨p, hp⟩ : ∃ p, a[k]? = some p := ⟨_, List.getElem?_eq_getElem (by rw [← HN1.out]; exact hlt)⟩
          obtain ⟨q, hq⟩ : ∃ q, b[k]? = some q := ⟨_, List.getElem?_eq_getElem (by rw [← HN2.out]; exact hlt)⟩
          have hka : k < a.length := by rw [← HN1.out]; exact hlt
          have hkb : k < b.length := by rw [← HN2.out]; exact hlt
          have hda : a.drop k = p :: a.drop (k + 1) := by
            rw [List.getElem?_eq_getElem hka] at hp
            rw [List.drop_eq_getElem_cons hka, Option.some.inj hp]
          have hdb : b.drop k = q :: b.drop (k + 1) := by
            rw [List.getElem?_eq_getElem hkb] at hq
            rw [List.drop_eq_getElem_cons hkb, Option.some.inj hq]
          have hpm : p ∈ a := List.mem_of_getElem? hp
          have hps : szL p.orw ≤ n - 1 := by
            have h1 : szP p < szL a := szL_mem hpm
            have h2 := sizeOf_orw p
            have h3 := HSZ.out
            omega
          obtain ⟨b1, o1, oa, on, oc, e1, p0, p1, p2, p3, hao⟩ := HA'.out.elem.2 k p hp
          obtain ⟨b2, o2, oa', on', oc', e2, q0, q1, q2, q3, hbq⟩ := HB'.out.elem.2 k q hq
          subst e1
          subst e2
          have HC := Lw.hid (fun n => HS.out (wr.drewN n) F G (.slice oa on oc) (.slice oa' on' oc') p.orw q.orw hps (hao.drewN n) (hbq.drewN n))
          have HSM2 : Hid ((sameP (.mk p.kind p.text p.orw p.quoted) (.mk q.kind q.text q.orw q.quoted) && sameW (a.drop (k + 1)) (b.drop (k + 1))) = R0) := Lw.hid (by
            rw [← HSM.out, hda, hdb, same_cons]
            obtain ⟨_, _, _, _⟩ := p
            obtain ⟨_, _, _, _⟩ := q
            rfl)
          rw [same_mk] at HSM2
          obtain ⟨pk, hpk⟩ : ∃ x, p.kind = x := ⟨_, rfl⟩
          obtain ⟨pt, hpt⟩ : ∃ x, p.text = x := ⟨_, rfl⟩
          obtain ⟨pq, hpq⟩ : ∃ x, p.quoted = x := ⟨_, rfl⟩
          obtain ⟨qk, hqk⟩ : ∃ x, q.kind = x := ⟨_, rfl⟩
          obtain ⟨qt, hqt⟩ : ∃ x, q.text = x := ⟨_, rfl⟩
          obtain ⟨qq, hqq⟩ : ∃ x, q.quoted = x := ⟨_, rfl⟩
          rw [hpk] at p0 HSM2; rw [hpt] at p1 HSM2; rw [hpq] at p3 HSM2
          rw [hqk] at q0 HSM2; rw [hqt] at q1 HSM2; rw [hqq] at q3 HSM2
          clear hp hq hda hdb hpm hps hao hbq hka hkb hpk hpt hpq hqk hqt hqq HSM
          by_cases e1 : pk = qk
          · have b1 : (pk != qk) = false := by simp [e1]
            have c1 : decide (pk = qk) = true := decide_eq_true e1
            rw [c1] at HSM2
            by_cases e2 : pt = qt
            · have b2 : (pt == qt) = true := by simp [e2]
              have b2' : (pt != qt) = false := by simp [e2]
              have c2 : decide (pt = qt) = true := decide_eq_true e2
              rw [c2] at HSM2
              by_cases e3 : pq = qq
              · have b3 : (pq != qq) = false := by simp [e3]
                have b3' : (pq == qq) = true := by simp [e3]
                have c3 : (pq == qq) = true := by simp [e3]
                rw [c3] at HSM2
                obtain ⟨sv, hsv⟩ : ∃ sv, sameW p.orw q.orw = sv := ⟨_, rfl⟩
                rw [hsv] at HC HSM2
                clear e1 e2 e3 hsv c1 c2 c3
                cases sv with
                | true =>
                  have HSM3 : Hid (sameW (a.drop (k + 1)) (b.drop (k + 1)) = R0) := Lw.hid (by rw [← HSM2.out]; simp)
                  clear HSM2
                  go_wp2_with fail
                  go_quiet (first | (go_at_call 35; exact Calls.quiet_of (HC.out _)) | (go_at_call 35; exact quiet_add_of (HC.out _)))
                  go_wp2_with fail
                  go_roundg (n1 - (k + 1))
                  case measure => omega
                  case rel => exact ⟨k + 1, m0 + nq, rfl, hlt, by go_num, HSM3.out, by rw [HWX.out, World.drewN_drewN]⟩
                | false =>
                  have HF : Hid (R0 = false) := Lw.hid (by rw [← HSM2.out]; simp)
                  clear HSM2
                  go_wp2_with fail
                  go_quiet (first | (go_at_call 35; exact Calls.quiet_of (HC.out _)) | (go_at_call 35; exact quiet_add_of (HC.out _)))
                  go_wp2_with fail
                  go_ret
                  rw [HF.out]
                  exact ⟨rfl, m0 + nq, by rw [HWX.out, World.drewN_drewN]⟩
              · have b3 : (pq != qq) = true := by simpa using e3
                have b3' : (pq == qq) = false := by simpa using e3
                have c3 : (pq == qq) = false := by simpa using e3
                rw [c3] at HSM2
                have HF : Hid (R0 = false) := Lw.hid (by rw [← HSM2.out]; simp)
                clear e1 e2 e3 c1 c2 c3 HSM2
                go_wp2_with fail
                go_quiet (fail)
                go_wp2_with fail
                go_ret
                rw [HF.out]
                exact ⟨rfl, m0 + nq, by rw [HWX.out, World.drewN_drewN]⟩
            · have b2 : (pt == qt) = false := by simpa using e2
              have b2' : (pt != qt) = true := by simpa using e2
              have c2 : decide (pt = qt) = false := decide_eq_false e2
              rw [c2] at HSM2
              have HF : Hid (R0 = false) := Lw.hid (by rw [← HSM2.out]; simp)
              clear e1 e2 c1 c2 HSM2
              go_wp2_with fail
              go_quiet (fail)
              go_wp2_with fail
              go_ret
              rw [HF.out]
              exact ⟨rfl, m0 + nq, by rw [HWX.out, World.drewN_drewN]⟩
          · have b1 : (pk != qk) = true := by simpa using e1
            have c1 : decide (pk = qk) = false := decide_eq_false e1
            rw [c1] at HSM2
            have HF : Hid (R0 = false) := Lw.hid (by rw [← HSM2.out]; simp)
            clear e1 c1 HSM2
            go_wp2_with fail
            go_quiet (fail)
            go_wp2_with fail
            go_ret
            rw [HF.out]
            exact ⟨rfl, m0 + nq, by rw [HWX.out, World.drewN_drewN]⟩
        · have hke : k = n1 := by omega
          have HT : Hid (R0 = true) := Lw.hid (by
            rw [← HSM.out, List.drop_eq_nil_of_le (by rw [← HN1.out, hke]; exact Nat.le_refl _), List.drop_eq_nil_of_le (by rw [← HN2.out, hke]; exact Nat.le_refl _)]
            exact same_nil)
          go_wp2_with fail
          go_ret
          rw [HT.out]
          exact ⟨rfl, m0, HWX.out⟩
    · have hbb : ((n1 : Int) != (n2 : Int)) = true := by simp [bne]; omega
      have HF : Hid (sameW a b = false) := Lw.hid (same_len a b (by omega))
      clear h1 h2
      go_enter Tryd.func35, Tryd.ntmps35
      go_wp2_with fail
      go_ret
      rw [HF.out]
      exact ⟨rfl, 0, by first | rfl | (rw [World.drewN_zero])⟩
/-- Same. -/
theorem z_same {w : World} {F G : Nat → Prop} {va vb : Value} {a b : List Prt} (ha : WAt w F va a) (hb : WAt w G vb b) :
    Calls Tryd.prog 35 #[va, vb] w fun x w' => x = .returned (.bool (sameW a b)) ∧ Kept (fun _ => False) w w' :=
  (samez_all (szL a) w F G va vb a b (Nat.le_refl _) ha hb).mono fun x w' h => ⟨h.1, by obtain ⟨m, e⟩ := h.2; rw [e]; exact kept_drewN' w m⟩
end Go.Proofs.YtifcgeanippepaaDoor
/- longwirelaw17.wakes: what the examples say. -/
namespace Go.Proofs.YtifcgeanippepaaDoor
open Go Go.RowKit Go.Lw
set_option maxRecDepth 100000
set_option linter.unusedVariables false
set_option linter.unusedSimpArgs false
attribute [local go_sem] BA_toList
/-- A literal word in a new block. -/
theorem WAt.lit (w : World) (F : Nat → Prop) (ps : List (Prt × Value)) (cs : List Value) (hcs : ps.flatMap PC = cs) (n : Nat) (hn : ps.length = n) (hm : n ≤ maxLen) (hb : F w.heap.size) (ho : ∀ x ∈ ps, WAt w F x.2 x.1.orw) (g : Nat) (hg : g = w.heap.size) :
    WAt (w.alloc (.cells cs.toArray 46)) F (.slice (some ⟨g, 0, none⟩) n n) (ps.map Prod.fst) := by
  subst hcs; subst hn; subst hg
  refine .mk _ ps (Rd.lit w (ps.flatMap PC) 46 4 w.heap.size ps.length rfl (pc_flat ps) hm) (fun b h => ?_) (fun x hx => (ho x hx).kept ((Kept.refl (fun _ => False) w).alloc _) (fun _ _ h => h))
  have e : b = w.heap.size := blk_some h
  subst e
  exact ⟨hb, by rw [World.size_alloc]; exact Nat.lt_succ_self _⟩
theorem pp_at {w w' : World} {s : List UInt8} {x : Ending} {l : List Prt} (h : ParsePost w s x w') (hs : parseW s = .ok l) : ∃ v, x = .returned (.tuple #[v, .int .i64 0]) ∧ WAt w' (fun b => w.heap.size ≤ b) v l := by
  unfold ParsePost at h; rw [hs] at h; exact h
set_option maxHeartbeats 8000000 in
theorem wakes17_any (w : World) (hE : WEnv w) :
    Calls Tryd.prog 23 #[] w fun x w' => x = .returned (.bool true) ∧ Kept (fun _ => False) w w' := by
  have HE := Lw.hid hE
  clear hE
  go_enter Tryd.func23, Tryd.ntmps23
  go_wp2_with fail
  refine (parse_any w exA HE.out (by decide)).mono ?_
  rintro x w1 ⟨hx, k1⟩
  obtain ⟨v1, rfl, ha1⟩ := pp_at hx exA_ok
  have HE1 : Hid (WEnv w1) := Lw.hid (HE.out.kept k1 (fun h => h) (fun h => h) (fun h => h))
  have HA1 := Lw.hid ha1; have HK1 := Lw.hid k1
  clear hx ha1 k1
  go_wp2_with fail
  refine (parse_any w1 exB HE1.out (by decide)).mono ?_
  rintro x w2 ⟨hx, k2⟩
  obtain ⟨v2, rfl, ha2⟩ := pp_at hx exB_ok
  have HA2 := Lw.hid ha2; have HK2 := Lw.hid k2
  clear hx ha2 k2
  have HA12 := Lw.hid (HA1.out.kept HK2.out (fun _ _ h => h))
  have L1 := Lw.hid (WAt.lit w2 (fun _ => True) [(.mk 1 [97] [] false, .slice none 0 0), (.mk 1 [98, 32] [] true, .slice none 0 0), (.mk 2 [99] [] true, .slice none 0 0), (.mk 1 [100] [] true, .slice none 0 0)]
    [.int .i64 1, .string ⟨#[97]⟩, .slice none 0 0, .bool false, .int .i64 1, .string ⟨#[98, 32]⟩, .slice none 0 0, .bool true, .int .i64 2, .string ⟨#[99]⟩, .slice none 0 0, .bool true, .int .i64 1, .string ⟨#[100]⟩, .slice none 0 0, .bool true] rfl 4 rfl (by unfold maxLen; omega) trivial (fun x hx => by
    simp only [List.mem_cons, List.not_mem_nil, or_false] at hx
    rcases hx with rfl | rfl | rfl | rfl <;> exact WAt.nil _ _) w2.heap.size rfl)
  obtain ⟨wA, hA⟩ : ∃ wA, w2.alloc (.cells #[.int .i64 1, .string ⟨#[97]⟩, .slice none 0 0, .bool false, .int .i64 1, .string ⟨#[98, 32]⟩, .slice none 0 0, .bool true, .int .i64 2, .string ⟨#[99]⟩, .slice none 0 0, .bool true, .int .i64 1, .string ⟨#[100]⟩, .slice none 0 0, .bool true] 46) = wA := ⟨_, rfl⟩
  rw [hA] at L1
  have hsA : w2.heap.size + 1 = wA.heap.size := by rw [← hA, World.size_alloc]
  have kA : Kept (fun _ => False) w2 wA := by rw [← hA]; exact (Kept.refl _ w2).alloc _
  have L2 := Lw.hid (WAt.lit wA (fun _ => True) [(.mk 1 [121, 32, 122] [] true, .slice none 0 0)] [.int .i64 1, .string ⟨#[121, 32, 122]⟩, .slice none 0 0, .bool true] rfl 1 rfl (by unfold maxLen; omega) trivial (fun x hx => by
    rw [List.mem_singleton.1 hx]; exact WAt.nil _ _) (w2.heap.size + 1) hsA)
  obtain ⟨wB, hB⟩ : ∃ wB, wA.alloc (.cells #[.int .i64 1, .string ⟨#[121, 32, 122]⟩, .slice none 0 0, .bool true] 46) = wB := ⟨_, rfl⟩
  rw [hB] at L2
  have hsB : w2.heap.size + 2 = wB.heap.size := by rw [← hB, World.size_alloc]; omega
  have kB : Kept (fun _ => False) w2 wB := by rw [← hB]; exact kA.alloc _
  have L3 := Lw.hid (WAt.lit wB (fun _ => True) [(.mk 3 [120] [.mk 1 [121, 32, 122] [] true] false, .slice (some ⟨w2.heap.size + 1, 0, none⟩) 1 1)] [.int .i64 3, .string ⟨#[120]⟩, .slice (some ⟨w2.heap.size + 1, 0, none⟩) 1 1, .bool false] rfl 1 rfl (by unfold maxLen; omega) trivial (fun x hx => by
    rw [List.mem_singleton.1 hx]; exact L2.out) (w2.heap.size + 2) hsB)
  obtain ⟨wC, hC⟩ : ∃ wC, wB.alloc (.cells #[.int .i64 3, .string ⟨#[120]⟩, .slice (some ⟨w2.heap.size + 1, 0, none⟩) 1 1, .bool false] 46) = wC := ⟨_, rfl⟩
  rw [hC] at L3
  have kC : Kept (fun _ => False) w2 wC := by rw [← hC]; exact kB.alloc _
  have kAC : Kept (fun _ => False) wA wC := by rw [← hC, ← hB]; exact ((Kept.refl _ wA).alloc _).alloc _
  have L1C := Lw.hid (L1.out.kept kAC (fun _ _ h => h))
  have HA1C := Lw.hid (HA12.out.kept kC (fun _ _ h => h)); have HA2C := Lw.hid (HA2.out.kept kC (fun _ _ h => h))
  have S1 := Lw.hid (same_any HA1C.out L1C.out)
  have HAA := Lw.hid hA; have HBB := Lw.hid hB; have HCC := Lw.hid hC; have KC := Lw.hid kC
  clear hA hB hC hsA hsB kA kB kC
  go_wp2_with fail
  rw [HAA.out, HBB.out, HCC.out]
  refine S1.out.mono ?_
  rw [show sameW exAp (List.map Prod.fst [(Prt.mk 1 [97] [] false, Value.slice none 0 0), (.mk 1 [98, 32] [] true, .slice none 0 0), (.mk 2 [99] [] true, .slice none 0 0), (.mk 1 [100] [] true, .slice none 0 0)]) = true from same_self _ _ (Nat.le_refl _)]
  rintro x w3 ⟨rfl, k3⟩
  have S2 := Lw.hid (same_any (HA2C.out.kept k3 (fun _ _ h => h)) (L3.out.kept k3 (fun _ _ h => h)))
  have K3 := Lw.hid (HK1.out.trans (HK2.out.trans (KC.out.trans k3 (fun _ _ h => h)) (fun _ _ h => h)) (fun _ _ h => h))
  clear k3
  go_wp2_with fail
  refine S2.out.mono ?_
  rw [show sameW exBp (List.map Prod.fst [(Prt.mk 3 [120] [.mk 1 [121, 32, 122] [] true] false, Value.slice (some ⟨w2.heap.size + 1, 0, none⟩) 1 1)]) = true from same_self _ _ (Nat.le_refl _)]
  rintro x w4 ⟨rfl, k4⟩
  have K4 := Lw.hid (K3.out.trans k4 (fun _ _ h => h))
  clear k4
  go_wp2_with fail
  go_ret
  exact ⟨rfl, K4.out⟩
end Go.Proofs.YtifcgeanippepaaDoor
/- package word: May. -/
namespace Go.Proofs.YtifcgeanippepaaDoor
open Go Go.RowKit Go.Lw
set_option maxRecDepth 100000
set_option linter.unusedVariables false
set_option linter.unusedSimpArgs false
attribute [local go_sem] BA_toList
def mayF (l : List Prt) : Bool := match parseW (textW l) with
  | .ok v => sameW v l
  | .error _ => false
set_option maxHeartbeats 8000000 in
/-- May. -/
theorem may_any (w : World) (F : Nat → Prop) (v : Value) (l : List Prt) (hE : WEnv w) (hv : WAt w F v l) (hl : (textW l).length ≤ 1000000) :
    Calls Tryd.prog 32 #[v] w fun x w' => x = .returned (.bool (mayF l)) ∧ Kept (fun _ => False) w w' := by
  have HT := Lw.hid (text_any (by omega) hv)
  have HE := Lw.hid hE; have HV := Lw.hid hv
  obtain ⟨t, ht⟩ : ∃ t, textW l = t := ⟨_, rfl⟩
  rw [ht] at HT hl
  have HM : Hid (mayF l = match parseW t with | .ok v => sameW v l | .error _ => false) := Lw.hid (by unfold mayF; rw [ht])
  clear hE hv ht
  cases hp : parseW t with
  | error e =>
    have he0 : ((e : Int) == 0) = false := by
      have : e ≠ 0 := by
        intro h0; subst h0
        unfold parseW at hp
        split at hp
        · rename_i e' he; cases hp; exact lexT_ne0 he
        · split at hp
          · split at hp
            · cases hp
            · cases hp
          · cases hp
      simp; omega
    have HP := Lw.hid hp
    rw [hp] at HM
    clear hp
    go_enter Tryd.func32, Tryd.ntmps32
    go_wp2_with fail
    refine HT.out.mono ?_
    rintro x w1 ⟨rfl, k1⟩
    have K1 := Lw.hid k1
    have HPA := Lw.hid (parse_any w1 t (HE.out.kept k1 (fun h => h) (fun h => h) (fun h => h)) hl)
    clear k1
    go_wp2_with fail
    refine HPA.out.mono ?_
    rintro x w2 ⟨hx, k2⟩
    unfold ParsePost at hx
    rw [HP.out] at hx
    subst hx
    have K2 := Lw.hid (K1.out.trans k2 (fun _ _ h => h))
    clear k2
    go_wp2_with fail
    go_ret
    rw [HM.out]
    exact ⟨rfl, K2.out⟩
  | ok m =>
    have HP := Lw.hid hp
    rw [hp] at HM
    clear hp
    go_enter Tryd.func32, Tryd.ntmps32
    go_wp2_with fail
    refine HT.out.mono ?_
    rintro x w1 ⟨rfl, k1⟩
    have K1 := Lw.hid k1
    have HPA := Lw.hid (parse_any w1 t (HE.out.kept k1 (fun h => h) (fun h => h) (fun h => h)) hl)
    clear k1
    go_wp2_with fail
    refine HPA.out.mono ?_
    rintro x w2 ⟨hx, k2⟩
    obtain ⟨vm, rfl, hvm⟩ := pp_at hx HP.out
    have K2 := Lw.hid (K1.out.trans k2 (fun _ _ h => h))
    have S1 := Lw.hid (same_any hvm (HV.out.kept K2.out (fun _ _ h => h)))
    clear k2 hx hvm
    go_wp2_with fail
    refine S1.out.mono ?_
    rintro x w3 ⟨rfl, k3⟩
    have K3 := Lw.hid (K2.out.trans k3 (fun _ _ h => h))
    clear k3
    go_wp2_with fail
    go_ret
    rw [HM.out]
    exact ⟨rfl, K3.out⟩
end Go.Proofs.YtifcgeanippepaaDoor
