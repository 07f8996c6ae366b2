/- WordBack, walked. -/
import Derived.Test.YtifcgeanippepaaDoorBackW17
import Derived.Test.YtifcgeanippepaaDoorWordMay
import Derived.Test.YtifcgeanippepaaDoorWAdds
import Derived.Test.YtifcgeanippepaaDoorRound
import Derived.Test.YtifcgeanippepaaDoorChain
namespace Go.Proofs.YtifcgeanippepaaDoor
open Go Go.RowKit Go.Lw
set_option maxRecDepth 100000
set_option linter.unusedVariables false
set_option linter.unusedSimpArgs false
attribute [local go_sem] BA_toList
attribute [local go_sem] Oper.semAt_some
theorem heap_alloc_lt {w : World} {k : Nat} {o o' : Obj} (h : w.heap[k]? = some o) : (w.alloc o').heap[k]? = some o := ((Kept.refl (fun _ => False) w).alloc o').heap h (fun h => h)
/-- The last that was gone through. -/
def lastI (pre : List (Nat × Prt)) : Int := match pre.getLast? with
  | none => -1
  | some y => (y.1 : Int)
def lastP (pre : List (Nat × Prt)) : Prt := match pre.getLast? with
  | none => .mk 0 [] [] false
  | some y => y.2
theorem lastI_snoc (pre : List (Nat × Prt)) (x : Nat × Prt) : lastI (pre ++ [x]) = (x.1 : Int) := by unfold lastI; simp
theorem lastP_snoc (pre : List (Nat × Prt)) (x : Nat × Prt) : lastP (pre ++ [x]) = x.2 := by unfold lastP; simp
/-- What is asked at a part. -/
theorem back_next {l : List Prt} (hg : GoodL .bare false l) {pre : List (Nat × Prt)} {x : Nat × Prt} (hp : pre ++ [x] <+: allL l) :
    PartOK x.2 ∧ ¬ ((x.1 : Int) = lastI pre ∧ x.2.kind = 1 ∧ (lastP pre).kind = 1 ∧ x.2.quoted = (lastP pre).quoted) := by
  have hm : x ∈ allL l := hp.subset (by simp)
  obtain ⟨lv, q, _, hgp⟩ := good_alls hg.1 x hm
  refine ⟨hgp.ok, fun h => ?_⟩
  rcases List.eq_nil_or_concat pre with rfl | ⟨a, y, rfl⟩
  · have := h.1
    unfold lastI at this
    simp at this
  · rw [List.concat_eq_append] at h hp
    rw [lastI_snoc, lastP_snoc] at h
    obtain ⟨t, ht⟩ := hp
    have hn := good_nexts hg
    rw [← ht] at hn
    refine nextOK_at a y x t (by simpa using hn) ⟨by omega, h.2.2.1, h.2.1, h.2.2.2.symm⟩
theorem back_kinds {k : Int} (h1 : 1 ≤ k) (h2 : k ≤ 5) : k = 1 ∨ k = 2 ∨ k = 3 ∨ k = 4 ∨ k = 5 := by omega
/-- Where the range over all parts stands. -/
structure BkI (w1 : World) (li : Nat) (pre : List (Nat × Prt)) (X : Nat → Prop) (V : World) : Prop where
  inn : V.heap[li]? = some (.cells #[.int .i64 (lastI pre)] 3 (0, 0))
  last : ∃ (la : Option Addr) (ln lc : Nat), PAt V (li + 1) (lastP pre).kind (lastP pre).text (.slice la ln lc) (lastP pre).quoted
  k : Kept (fun k => k = li ∨ k = li + 1) w1 V
  x : ∀ b, X b → w1.heap.size ≤ b
theorem PAt.setQ {w : World} {b : Nat} {k : Int} {t : List UInt8} {o : Value} {q : Bool} (h : PAt w b k t o q) (q' : Bool) : PAt (w.setCell ⟨b, 3, none⟩ (.bool q')) b k t o q' := heap_set h 3 _
def rT {R : World → World → Prop} : StableR R := ⟨fun _ _ => True, fun _ _ _ _ h => h⟩
/-- Slots, one by one. -/
def xpd (u : Nat → Value) : Nat → Nat → List Value
  | 0, _ => []
  | n + 1, s => u s :: xpd u n (s + 1)
theorem xpd_of (d : Value) (u : Nat → Value) : ∀ (l : List Value) (s : Nat), (∀ i, u (s + i) = l.getD i d) → l = xpd u l.length s
  | [], _, _ => rfl
  | x :: l, s, h => by
    show x :: l = u s :: xpd u l.length (s + 1)
    rw [← xpd_of d u l (s + 1) (fun i => by rw [Nat.add_assoc, Nat.add_comm 1 i]; exact h (i + 1))]
    congr 1
    exact (h 0).symm
theorem arr_xpd (tm : Array Value) (n : Nat) (h : tm.size = n) : ∃ u : Nat → Value, tm = (xpd u n 0).toArray :=
  ⟨fun i => tm.toList.getD i undef, by
    subst h
    have e := xpd_of undef (fun i => tm.toList.getD i undef) tm.toList 0 (fun i => by rw [Nat.zero_add])
    rw [Array.length_toList] at e
    rw [← e]⟩
/-- Where the loop over the parts stands. -/
structure BkL (w V0 : World) (Ds : List Nat) (V : World) : Prop where
  k : Kept (fun _ => False) V0 V
  nd : Ds.Nodup
  ds : ∀ d ∈ Ds, w.heap.size < d ∧ V.heap[d]? = some (.deferred (some []))
theorem BkL.next {w V0 V V' : World} {Ds : List Nat} (h : BkL w V0 Ds V) (k : Kept (fun _ => False) V V') : BkL w V0 Ds V' :=
  ⟨h.k.trans k (fun _ _ h => h), h.nd, fun d hd => ⟨(h.ds d hd).1, k.heap (h.ds d hd).2 (fun h => h)⟩⟩
theorem dflt_quoted {lv : Lv} {q : Bool} {k : Int} {t : List UInt8} {o : List Prt} (h : GoodP lv q (.mk k t o true)) (hk : k = 3) : ∀ x ∈ allL o, x.2.quoted = true := by
  cases h with
  | quo _ _ t => cases hk
  | name _ _ qq t h1 h2 => cases hk
  | stat _ _ qq h1 => cases hk
  | arith _ _ qq t h1 h2 => cases hk
  | dflt _ _ qq t o h1 h2 h3 h4 =>
    intro x hx
    obtain ⟨lv', q', hq, hg⟩ := good_alls h3 x hx
    exact hg.quoted' (hq rfl)
set_option maxHeartbeats 40000000 in
theorem wback_any (w : World) (s0 : List UInt8) (hE : WEnv w) (hs9 : s0.length ≤ 9223372036854775807) :
    Calls Tryd.prog 9 #[.string (BA s0)] w fun x w' => x = .returned (.bool true) ∧ Kept (fun _ => False) w w' := by
  have HE := Lw.hid hE
  clear hE
  have hs0 := BA_size s0
  have e1 := BA_mina s0 200 200 rfl
  obtain ⟨s, hs⟩ : ∃ s, s0.take 200 = s := ⟨_, rfl⟩
  have hsl : s.length ≤ 200 := by rw [← hs]; exact List.length_take_le _ _
  rw [hs] at e1
  obtain ⟨n0, hn0⟩ : ∃ n, s0.length = n := ⟨_, rfl⟩
  rw [hn0] at e1 hs0 hs9
  have HP1 := Lw.hid fun wx hx => parse_any wx s hx (by omega)
  have HEK : Hid (∀ wx, Kept (fun _ => False) w wx → WEnv wx) := Lw.hid fun wx k => HE.out.kept k (fun h => h) (fun h => h) (fun h => h)
  have HSL := Lw.hid hsl
  clear hs hn0 hsl
  obtain ⟨B0, hB0⟩ : ∃ b, w.heap.size = b := ⟨_, rfl⟩
  have HB0 := Lw.hid hB0
  obtain ⟨wa, hwa⟩ : ∃ wa, w.alloc (.cells #[.bool false] 4) = wa := ⟨_, rfl⟩
  have KA : Hid (Kept (fun _ => False) w wa) := Lw.hid (by rw [← hwa]; exact (Kept.refl _ w).alloc _)
  have HRES : Hid (wa.heap[B0]? = some (.cells #[.bool false] 4 (0, 0))) := Lw.hid (by rw [← hwa, ← hB0]; exact heap_alloc w _)
  have HSA : Hid (wa.heap.size = B0 + 1) := Lw.hid (by rw [← hwa, ← hB0]; simp)
  have HWA := Lw.hid hwa
  clear hwa hB0
  -- the end of each way: the result's cell is written
  cases hpa : parseW s with
  | error e =>
    have HPA := Lw.hid hpa
    have he0 : ((e : Int) != 0) = true := by have := parseW_ne0 hpa; simp [bne]; omega
    clear hpa
    refine calls_of_wp_marks Tryd.func9 rfl ?_
    simp only [Tryd.ntmps9, List.size_toArray, List.length_cons, List.length_nil, Nat.reduceAdd, Nat.reduceSub, Array.replicate_succ, Array.replicate_zero, List.push_toArray, List.append_toArray, List.nil_append, List.cons_append]
    go_wp2_with fail
    rw [HWA.out, HB0.out]
    refine (HP1.out _ (HEK.out _ KA.out)).mono ?_
    rintro x w1 ⟨hx, k1⟩
    unfold ParsePost at hx
    rw [HPA.out] at hx
    subst hx
    have K1 := Lw.hid (KA.out.trans k1 (fun _ _ h => h)); have HR1 := Lw.hid (k1.heap HRES.out (fun h => h))
    clear k1
    go_wp2_with fail
    refine (wakes17_any _ (HEK.out _ K1.out)).mono ?_
    rintro x w2 ⟨rfl, k2⟩
    have K2 := Lw.hid (K1.out.trans k2 (fun _ _ h => h)); have HR2 := Lw.hid (k2.heap HR1.out (fun h => h))
    clear k2
    have c0 := heap_cell HR2.out 0; have f0 := heap_free HR2.out 0
    have HF : Hid ((w2.setCell ⟨B0, 0, none⟩ (.bool true)).cell? ⟨B0, 0, none⟩ = some (.bool true)) := Lw.hid (heap_cell (heap_set HR2.out 0 _) 0)
    go_wp2_with fail
    have hc := HF.out
    refine ⟨.bool true, by simp [results, go_sem, hc], rfl, K2.out.set B0 0 (fun h => by have := HB0.out; omega) _⟩
  | ok a =>
    have HPA := Lw.hid hpa
    have HG := Lw.hid (parse_good hpa)
    have HTL : Hid ((textW a).length ≤ 2400) := Lw.hid (by have := parse_text hpa; have := HSL.out; omega)
    have HSZ : Hid (szL a ≤ 1000000000) := Lw.hid (by have := parse_sz hpa; have := HSL.out; omega)
    have HBK := Lw.hid (back_parse hpa)
    clear hpa
    obtain ⟨t, ht⟩ : ∃ t, textW a = t := ⟨_, rfl⟩
    have HTX := Lw.hid ht
    have HTL2 : Hid (t.length ≤ 2400) := Lw.hid (by rw [← ht]; exact HTL.out)
    have HP2 := Lw.hid fun wx hx => parse_any wx t hx (by have := HTL2.out; omega)
    clear ht
    cases hpb : parseW t with
    | error e =>
      have hee : e = 3 ∨ e = 12 := by
        have h := HBK.out
        rw [HTX.out, hpb] at h
        rcases h with h | h | h
        · cases h
        · exact .inl (Except.error.inj h)
        · exact .inr (Except.error.inj h)
      have HPB := Lw.hid hpb
      have HMF : Hid (mayF a = false) := Lw.hid (by unfold mayF; rw [HTX.out, hpb])
      clear hpb
      refine calls_of_wp_marks Tryd.func9 rfl ?_
      simp only [Tryd.ntmps9, List.size_toArray, List.length_cons, List.length_nil, Nat.reduceAdd, Nat.reduceSub, Array.replicate_succ, Array.replicate_zero, List.push_toArray, List.append_toArray, List.nil_append, List.cons_append]
      go_wp2_with fail
      rw [HWA.out, HB0.out]
      refine (HP1.out _ (HEK.out _ KA.out)).mono ?_
      rintro x w1 ⟨hx, k1⟩
      obtain ⟨v1, rfl, ha1⟩ := pp_at hx HPA.out
      have K1 := Lw.hid (KA.out.trans k1 (fun _ _ h => h)); have HR1 := Lw.hid (k1.heap HRES.out (fun h => h))
      have HV1 := Lw.hid ha1
      clear k1 hx ha1
      have HT := Lw.hid (text_any (w := w1) (by have := HTL.out; omega) HV1.out)
      rw [HTX.out] at HT
      go_wp2_with fail
      refine HT.out.mono ?_
      rintro x w2 ⟨rfl, k2⟩
      have K2 := Lw.hid (K1.out.trans k2 (fun _ _ h => h)); have HR2 := Lw.hid (k2.heap HR1.out (fun h => h)); have HV2 := Lw.hid (HV1.out.kept k2 (fun _ _ h => h))
      clear k2 HT
      go_wp2_with fail
      refine (HP2.out _ (HEK.out _ K2.out)).mono ?_
      rintro x w3 ⟨hx, k3⟩
      unfold ParsePost at hx
      rw [HPB.out] at hx
      subst hx
      have K3 := Lw.hid (K2.out.trans k3 (fun _ _ h => h)); have HR3 := Lw.hid (k3.heap HR2.out (fun h => h)); have HV3 := Lw.hid (HV2.out.kept k3 (fun _ _ h => h))
      clear k3
      have HY := Lw.hid (may_any w3 _ _ a (HEK.out _ K3.out) HV3.out (by have := HTL.out; omega))
      rw [HMF.out] at HY
      rcases hee with rfl | rfl
      all_goals
        go_wp2_with fail
        refine HY.out.mono ?_
        rintro x w4 ⟨rfl, k4⟩
        have K4 := Lw.hid (K3.out.trans k4 (fun _ _ h => h)); have HR4 := Lw.hid (k4.heap HR3.out (fun h => h))
        clear k4
        go_wp2_with fail
        refine (wakes17_any _ (HEK.out _ K4.out)).mono ?_
        rintro x w5 ⟨rfl, k5⟩
        have K5 := Lw.hid (K4.out.trans k5 (fun _ _ h => h)); have HR5 := Lw.hid (k5.heap HR4.out (fun h => h))
        clear k5
        have c0 := heap_cell HR5.out 0; have f0 := heap_free HR5.out 0
        have HF : Hid ((w5.setCell ⟨B0, 0, none⟩ (.bool true)).cell? ⟨B0, 0, none⟩ = some (.bool true)) := Lw.hid (heap_cell (heap_set HR5.out 0 _) 0)
        go_wp2_with fail
        have hc := HF.out
        refine ⟨.bool true, by simp [results, go_sem, hc], rfl, K5.out.set B0 0 (fun h => by have := HB0.out; omega) _⟩
    | ok b =>
      have hba : b = a := by
        have h := HBK.out
        rw [HTX.out, hpb] at h
        rcases h with h | h | h
        · exact Except.ok.inj h
        · cases h
        · cases h
      subst hba
      have HPB := Lw.hid hpb
      have HMF : Hid (mayF b = true) := Lw.hid (by unfold mayF; rw [HTX.out, hpb]; exact same_self _ _ (Nat.le_refl _))
      clear hpb
      refine calls_of_wp_marks Tryd.func9 rfl ?_
      simp only [Tryd.ntmps9, List.size_toArray, List.length_cons, List.length_nil, Nat.reduceAdd, Nat.reduceSub, Array.replicate_succ, Array.replicate_zero, List.push_toArray, List.append_toArray, List.nil_append, List.cons_append]
      go_wp2_with fail
      rw [HWA.out, HB0.out]
      refine (HP1.out _ (HEK.out _ KA.out)).mono ?_
      rintro x w1 ⟨hx, k1⟩
      obtain ⟨v1, rfl, ha1⟩ := pp_at hx HPA.out
      obtain ⟨aa, an, ac, rfl⟩ := ha1.slice
      have hAN := ha1.elem.1; have hn9 := ha1.max
      have HAN := Lw.hid hAN
      clear hAN
      have K1 := Lw.hid (KA.out.trans k1 (fun _ _ h => h)); have HR1 := Lw.hid (k1.heap HRES.out (fun h => h))
      have HW1 : Hid (B0 < w1.heap.size) := Lw.hid (by have := k1.size; have := HSA.out; omega)
      have HV1 : Hid (WAt w1 (fun q => B0 < q ∧ q < w1.heap.size) (.slice aa an ac) b) := Lw.hid (ha1.mono (fun q hq hF => (⟨by have := HSA.out; omega, hq⟩ : B0 < q ∧ q < w1.heap.size)))
      clear k1 hx ha1
      have HT := Lw.hid (text_any (w := w1) (by have := HTL.out; omega) HV1.out)
      rw [HTX.out] at HT
      go_wp2_with fail
      refine HT.out.mono ?_
      rintro x w2 ⟨rfl, k2⟩
      have K2 := Lw.hid (K1.out.trans k2 (fun _ _ h => h)); have HR2 := Lw.hid (k2.heap HR1.out (fun h => h)); have HV2 := Lw.hid (HV1.out.kept k2 (fun _ _ h => h))
      have HLE2 : Hid (w1.heap.size ≤ w2.heap.size) := Lw.hid k2.size
      clear k2 HT
      go_wp2_with fail
      refine (HP2.out _ (HEK.out _ K2.out)).mono ?_
      rintro x w3 ⟨hx, k3⟩
      obtain ⟨v2, rfl, ha2⟩ := pp_at hx HPB.out
      have K3 := Lw.hid (K2.out.trans k3 (fun _ _ h => h)); have HR3 := Lw.hid (k3.heap HR2.out (fun h => h)); have HV3 := Lw.hid (HV2.out.kept k3 (fun _ _ h => h))
      have HU3 := Lw.hid ha2
      have HLE3 : Hid (w1.heap.size ≤ w3.heap.size) := Lw.hid (Nat.le_trans HLE2.out k3.size)
      clear k3 hx ha2
      have HS := Lw.hid (same_any HU3.out HV3.out)
      rw [show sameW b b = true from same_self _ _ (Nat.le_refl _)] at HS
      go_wp2_with fail
      refine HS.out.mono ?_
      rintro x w4 ⟨rfl, k4⟩
      have K4 := Lw.hid (K3.out.trans k4 (fun _ _ h => h)); have HR4 := Lw.hid (k4.heap HR3.out (fun h => h)); have HV4 := Lw.hid (HV3.out.kept k4 (fun _ _ h => h)); have HU4 := Lw.hid (HU3.out.kept k4 (fun _ _ h => h))
      have HLE4 : Hid (w1.heap.size ≤ w4.heap.size) := Lw.hid (Nat.le_trans HLE3.out k4.size)
      clear k4 HS
      have HY := Lw.hid (may_any w4 _ _ b (HEK.out _ K4.out) HV4.out (by have := HTL.out; omega))
      rw [HMF.out] at HY
      go_wp2_with fail
      refine HY.out.mono ?_
      rintro x w5 ⟨rfl, k5⟩
      have K5 := Lw.hid (K4.out.trans k5 (fun _ _ h => h)); have HR5 := Lw.hid (k5.heap HR4.out (fun h => h)); have HV5 := Lw.hid (HV4.out.kept k5 (fun _ _ h => h)); have HU5 := Lw.hid (HU4.out.kept k5 (fun _ _ h => h))
      have HLE5 : Hid (w1.heap.size ≤ w5.heap.size) := Lw.hid (Nat.le_trans HLE4.out k5.size)
      clear k5 HY
      have HT := Lw.hid (text_any (w := w5) (by have := HTL.out; omega) HU5.out)
      rw [HTX.out] at HT
      have hbb : (BA t != BA t) = false := by rw [bne, BA_beq]; simp
      go_wp2_with fail
      refine HT.out.mono ?_
      rintro x w6 ⟨rfl, k6⟩
      have K6 := Lw.hid (K5.out.trans k6 (fun _ _ h => h)); have HR6 := Lw.hid (k6.heap HR5.out (fun h => h)); have HV6 := Lw.hid (HV5.out.kept k6 (fun _ _ h => h))
      have HLE6 : Hid (w1.heap.size ≤ w6.heap.size) := Lw.hid (Nat.le_trans HLE5.out k6.size)
      clear k6 HT HV1 HV2 HV3 HV4 HV5 HU3 HU4 HU5 HR1 HR2 HR3 HR4 HR5 K1 K2 K3 K4 K5 HLE2 HLE3 HLE4 HLE5 HP1 HP2
      go_wp2_with fail
      have cI := heap_alloc w6 (.cells #[.int .i64 (-1)] 3)
      have cL := heap_alloc (w6.alloc (.cells #[.int .i64 (-1)] 3)) (.cells #[.int .i64 0, .string ⟨#[]⟩, .slice none 0 0, .bool false] 46)
      obtain ⟨li, hli⟩ : ∃ li, w6.heap.size = li := ⟨_, rfl⟩
      obtain ⟨wc, hwc⟩ : ∃ wc, (w6.alloc (.cells #[.int .i64 (-1)] 3)).alloc (.cells #[.int .i64 0, .string ⟨#[]⟩, .slice none 0 0, .bool false] 46) = wc := ⟨_, rfl⟩
      have HI0 : Hid (wc.heap[li]? = some (.cells #[.int .i64 (-1)] 3 (0, 0))) := Lw.hid (by rw [← hwc, ← hli]; exact heap_alloc_lt cI)
      have HL0 : Hid (PAt wc (li + 1) 0 [] (.slice none 0 0) false) := Lw.hid (by rw [← hwc, ← hli]; rw [World.size_alloc] at cL; exact cL)
      have KC0 : Hid (Kept (fun _ => False) w6 wc) := Lw.hid (by rw [← hwc]; exact ((Kept.refl _ w6).alloc _).alloc _)
      have HSC : Hid (wc.heap.size = li + 2) := Lw.hid (by rw [← hwc, ← hli]; simp)
      have HLW : Hid (w.heap.size ≤ B0 ∧ B0 < w1.heap.size ∧ w1.heap.size ≤ li) := Lw.hid (by rw [← hli]; exact ⟨by rw [HB0.out]; exact Nat.le_refl _, by have h1 := HW1.out; omega, HLE6.out⟩)
      have KC := Lw.hid (K6.out.trans KC0.out (fun _ _ h => h)); have HRC := Lw.hid (KC0.out.heap HR6.out (fun h => h)); have HVC := Lw.hid (HV6.out.kept KC0.out (fun _ _ h => h))
      rw [hwc]
      try rw [hli]
      clear cI cL hwc hli KC0 K6 HR6 HV6 HLE6
      refine (all_any wc aa an ac).mono ?_
      rintro x w7 ⟨BB, rfl, hbb7, k7, hsz7⟩
      have HBB := Lw.hid hbb7; have K7 := Lw.hid k7; have HZ7 := Lw.hid hsz7; have HBL := Lw.hid (heap_lt hbb7)
      clear hbb7 k7 hsz7
      go_wp2_with fail
      refine (safew_any w7 _ _ _).mono ?_
      rintro x w7 ⟨rfl, rfl⟩
      go_wp2_with fail
      refine wp_nm2 (fun ac1 hac => ?_)
      have HFL : Hid (∀ q, (q = BB ∨ (B0 < q ∧ q < w1.heap.size)) → q < w7.heap.size ∧ q ≠ li ∧ q ≠ li + 1) := Lw.hid (fun q hb => by
        have h1 := HSC.out; have h2 := HZ7.out; have h3 := HBL.out; have h4 := K7.out.size; have h5 := HLW.out
        rcases hb with rfl | hb <;> omega)
      have HSEQ := Lw.hid (all_iter (szL b) HSZ.out b w7 BB (.slice aa an ac) (fun q => B0 < q ∧ q < w1.heap.size) (Nat.le_refl _) HBB.out (HVC.out.kept K7.out (fun _ _ h => h)) (fun q hb => (HFL.out q (.inr hb)).1))
      have HL7 : Hid (li + 2 ≤ w7.heap.size) := Lw.hid (by have h1 := HSC.out; have h2 := K7.out.size; omega)
      refine wp_rangeE (gf := 64) (lb := #[.pointer (some ⟨BB, 0, none⟩)]) (by rw [hac.out]; rfl) (Go.Proofs.enters_of Tryd.func64 (by kernel_rfl) rfl)
        HSEQ.out (AE.mono _) (fun q hb => (HFL.out q hb).1) (fun _ _ _ x A W h => by obtain ⟨_, _, _, rfl, _⟩ := h; rfl)
        (fun X pre V => BkI w7 li pre X V) (fun _ _ _ _ => False) ?_ ?_ ?_
        (fun X Xp q V => ∃ (kq : Nat) (qa : Option Addr) (qn qc : Nat), PAt V kq q.2.1.2.kind q.2.1.2.text (.slice qa qn qc) q.2.1.2.quoted ∧ ¬ X kq ∧ (q.2.1.2.orw = [] → qn = 0) ∧ w7.heap.size ≤ kq ∧ q.2.2 = { tmps := (((ac1.tmps.setIfInBounds 76 (.int .i64 (q.2.1.1 : Int))).setIfInBounds 77 (.agg #[.int .i64 q.2.1.2.kind, .string (BA q.2.1.2.text), .slice qa qn qc, .bool q.2.1.2.quoted])).setIfInBounds 10 (.int .i64 (q.2.1.1 : Int))).setIfInBounds 11 (.pointer (some ⟨kq, 0, none⟩)), defers := [] }) ?_ ?assign ?body ?done ?stop
      · rintro X X' s A A' h hk hx
        refine ⟨hk.heap h.inn (fun e => by have := h.x _ e; have := HL7.out; omega), ?_, h.k.trans hk (fun i hi hX => by have := h.x i hX; omega), fun q hb => ?_⟩
        · obtain ⟨la, ln, lc, h2⟩ := h.last
          exact ⟨la, ln, lc, hk.heap h2 (fun e => by have := h.x _ e; have := HL7.out; omega)⟩
        · rcases hx q hb with h1 | h1
          · exact h.x q h1
          · have := h.k.size; omega
      · rintro c X X' s A A' h hk hx
        exact h
      · exact ⟨K7.out.heap HI0.out (fun h => h), ⟨none, 0, 0, K7.out.heap HL0.out (fun h => h)⟩, Kept.refl _ _, fun _ h => h.elim⟩
      · rintro Xa Xb Xp Xp' q A A' ⟨kq, qa, qn, qc, g1, g2, g3, g4, g5⟩ hk hx hp
        refine ⟨kq, qa, qn, qc, hk.heap g1 g2, fun h => ?_, g3, g4, g5⟩
        rcases hx kq h with h | h
        · exact g2 h
        · have := heap_lt g1; omega
      case assign =>
        rintro y X Xp pre x A V K hi hXX ⟨qa, qn, qc, rfl, hwq⟩ hXb hpx hsz hK
        rw [hac.out] at hK ⊢
        have HI := Lw.hid hi; have HXB := Lw.hid hXb
        have hq0 : x.2.orw = [] → qn = 0 := fun e => by have := hwq.elem.1; rw [e] at this; exact this
        have HQ0 := Lw.hid hq0
        have KQ : Hid (Kept (fun _ => False) V (V.alloc (.cells #[.int .i64 x.2.kind, .string (BA x.2.text), .slice qa qn qc, .bool x.2.quoted] 46))) := Lw.hid ((Kept.refl _ V).alloc _)
        have HPQ : Hid (PAt (V.alloc (.cells #[.int .i64 x.2.kind, .string (BA x.2.text), .slice qa qn qc, .bool x.2.quoted] 46)) V.heap.size x.2.kind x.2.text (.slice qa qn qc) x.2.quoted) := Lw.hid (heap_alloc V _)
        clear hi hXb hwq hq0
        gi_wp2
        have hi := HI.out
        refine hK _ _ (KQ.out.keeps (fun _ _ _ h => h)) ⟨KQ.out.heap hi.inn (fun h => h), ?_, hi.k.trans KQ.out (fun _ _ h => h.elim), hi.x⟩ ⟨V.heap.size, qa, qn, qc, HPQ.out, fun h => by have := (HXB.out _ (hXX _ h)).2; omega, HQ0.out, hsz, rfl⟩
        obtain ⟨la, ln, lc, h2⟩ := hi.last
        exact ⟨la, ln, lc, KQ.out.heap h2 (fun h => h)⟩
      case body =>
        rintro y X Xp pre x a' V hi hXX ⟨kq, qa, qn, qc, g1, g2, g3, g4, hax⟩ hXb hpx hsz
        dsimp only at hax g1 g3
        subst hax
        rw [hac.out]
        simp only [List.setIfInBounds_toArray, List.set_cons_zero, List.set_cons_succ]
        obtain ⟨hok, hnx⟩ := back_next HG.out hpx
        have HLI : Hid (lastI (pre ++ [x]) = (x.1 : Int)) := Lw.hid (lastI_snoc pre x)
        have HLP : Hid (lastP (pre ++ [x]) = x.2) := Lw.hid (lastP_snoc pre x)
        have hxm : x ∈ allL b := hpx.subset (by simp)
        have hd9 : x.1 < 1000000000 := by have h7 := allL_depth _ b (Nat.le_refl _) x hxm; have h8 := HSZ.out; omega
        obtain ⟨d, pk, pt, po, pq⟩ := x
        obtain ⟨la, ln, lc, hl⟩ := hi.last
        have hin := hi.inn
        have HH := Lw.hid hi; have HXX := Lw.hid hXX
        generalize lastI pre = lI at hin hnx HH
        generalize lastP pre = lp at hl hnx HH
        obtain ⟨lk, lt, lo, lq⟩ := lp
        dsimp only [Prt.kind, Prt.text, Prt.orw, Prt.quoted] at *
        obtain ⟨o1, o2, o3, o4⟩ := hok
        dsimp only [Prt.kind, Prt.text, Prt.orw, Prt.quoted] at o1 o2 o3 o4
        obtain ⟨⟨r0, r1, r2, r3⟩, -⟩ := PAt.cells g1
        obtain ⟨⟨l0, l1, l2, l3⟩, -⟩ := PAt.cells hl
        have c8 := heap_cell hin 0
        have HG1 := Lw.hid g1; have HL := Lw.hid hl; have HIN := Lw.hid hin
        have HKQ : Hid (li + 2 ≤ kq) := Lw.hid (Nat.le_trans HL7.out g4)
        have HXB : Hid (∀ q, X q → w7.heap.size ≤ q) := Lw.hid (fun q hq => (hXb q (hXX q hq)).1)
        have b0 : decide (pk < 1) = false := decide_eq_false (by omega)
        have b5 : decide (5 < pk) = false := decide_eq_false (by omega)
        clear hi hXX hXb hpx hxm g1 hl hin hsz g2 g4
        by_cases hk1 : pk = 1
        · subst hk1
          obtain rfl : qn = 0 := g3 (o4 (by decide))
          cases pq with
          | true =>
            by_cases hd : (d : Int) = lI
            · by_cases hl1 : lk = 1
              · obtain rfl : lq = false := by
                  cases lq with
                  | false => rfl
                  | true => exact absurd ⟨hd, rfl, hl1, rfl⟩ hnx
                subst hd; subst hl1
                clear hnx
                gi_wp2_with fail
                refine wpIn_round_any (by kernel_rfl) (by kernel_rfl) (fun ⟨a, w, h⟩ => h.elim) (wpAny_chain 4 [2, 3] (fun s w' => w'.heap[li]? = some (.cells #[.int .i64 (if s = 0 then (d : Int) else (d : Int))] 3 (0, 0)) ∧ (∃ (la : Option Addr) (ln lc : Nat), PAt w' (li + 1) (if s ≤ 1 then 1 else 1) (if s ≤ 1 then lt else pt) (.slice la ln lc) (if s ≤ 1 then false else true)) ∧ Kept (fun k => k = li ∨ k = li + 1) V w') (Kept (fun k => k = li ∨ k = li + 1)) [rV (.int .i64 (d : Int)), rV (.agg #[.int .i64 1, .string (BA pt), .slice qa 0 qc, .bool true]), rT, rT] (by kernel_rfl) ?c1 ?c2 ?c3)
                case c1 => exact ⟨HIN.out, ⟨la, ln, lc, HL.out⟩, (Kept.refl _ _).drew⟩
                case c2 =>
                  refine csteps_free (by decide) (fun s a' w' hI hag hf K hK => ?_) ?_
                  · have s10 := hag.same 10 (by decide)
                    clear hag
                    go_wp2_with fail
                    exact hK _ _ hI (Kept.refl _ _) rfl
                  refine csteps_free (by decide) (fun s a' w' hI hag hf K hK => ?_) ?_
                  · have s11 := hag.same 11 (by decide)
                    clear hag
                    have HI := Lw.hid hI
                    have hg := hI.2.2.heap HG1.out (fun e => by have h1 := HKQ.out; omega)
                    obtain ⟨⟨q0, q1, q2, q3⟩, -⟩ := PAt.cells hg
                    clear hI hg
                    go_wp2_with fail
                    exact hK _ _ HI.out (Kept.refl _ _) rfl
                  refine csteps_hit 0 rfl (fun a' w' hI hag hf K hK => ?_) ?_
                  · obtain ⟨⟨_, h0, rfl⟩, -⟩ : SFacts _ _ a' w' [0] := hf
                    have s8 := hag.same 8 (by decide)
                    clear hag
                    have HI := Lw.hid hI
                    have cc := heap_cell hI.1 0
                    have ff := heap_free hI.1 0
                    clear hI
                    go_wp2_with fail
                    exact hK undef _ ⟨heap_set HI.out.1 0 _, (by obtain ⟨la', ln', lc', h2⟩ := HI.out.2.1; exact ⟨la', ln', lc', ((Kept.refl (fun k => k = li) w').set li 0 (fun _ => rfl) _).heap h2 (by omega)⟩), HI.out.2.2.set li 0 (fun _ => .inl rfl) _⟩ ((Kept.refl (fun k => k = li ∨ k = li + 1) w').set li 0 (fun _ => .inl rfl) _) trivial
                  refine csteps_hit 1 rfl (fun a' w' hI hag hf K hK => ?_) ?_
                  · obtain ⟨⟨_, h1, rfl⟩, -⟩ : SFacts _ _ a' w' [1, 2, 0] := hf
                    have s9 := hag.same 9 (by decide)
                    clear hag
                    have HI := Lw.hid hI
                    obtain ⟨la', ln', lc', h2⟩ := hI.2.1
                    obtain ⟨⟨q0, q1, q2, q3⟩, ⟨f0, f1, f2, f3⟩⟩ := PAt.cells h2
                    have H2 := Lw.hid h2
                    clear hI h2
                    go_wp2_with fail
                    exact hK undef _ ⟨((((Kept.refl (fun k => k = li + 1) w').set (li + 1) 0 (fun _ => rfl) _).set (li + 1) 1 (fun _ => rfl) _).set (li + 1) 2 (fun _ => rfl) _ |>.set (li + 1) 3 (fun _ => rfl) _).heap HI.out.1 (by omega), ⟨qa, 0, qc, (((H2.out.setK _).setT _).setO _).setQ _⟩, (((HI.out.2.2.set (li + 1) 0 (fun _ => .inr rfl) _).set (li + 1) 1 (fun _ => .inr rfl) _).set (li + 1) 2 (fun _ => .inr rfl) _).set (li + 1) 3 (fun _ => .inr rfl) _⟩ (((((Kept.refl (fun k => k = li ∨ k = li + 1) w').set (li + 1) 0 (fun _ => .inr rfl) _).set (li + 1) 1 (fun _ => .inr rfl) _).set (li + 1) 2 (fun _ => .inr rfl) _).set (li + 1) 3 (fun _ => .inr rfl) _) trivial
                  exact trivial
                case c3 =>
                  intro vs w9 hI hvs
                  have q0 : vs 0 = (.int .i64 (d : Int)) := hvs 0 _ _ rfl rfl
                  have q1 : vs 1 = (.agg #[.int .i64 1, .string (BA pt), .slice qa 0 qc, .bool true]) := hvs 1 _ _ rfl rfl
                  clear hvs
                  simp only [List.take_succ_cons, List.take_zero, List.drop_succ_cons, List.drop_zero, putAll, Act.put, List.setIfInBounds_toArray, List.set_cons_zero, List.set_cons_succ, Nat.reduceAdd, q0, q1]
                  clear q0 q1
                  simp only [wpList]
                  refine ⟨hI.2.2.keeps (fun k hk hr e => ?_), ⟨?_, ?_, HH.out.k.trans hI.2.2 (fun _ _ h => h), fun q hq => HXB.out q hq⟩⟩
                  · rcases hr with h | h
                    · have h1 := HFL.out k h; omega
                    · have h1 := HXB.out k h; have h2 := HL7.out; omega
                  · rw [HLI.out]; exact hI.1
                  · rw [HLP.out]; exact hI.2.1
              · have hlk : (lk == 1) = false := beq_eq_false_iff_ne.2 hl1
                subst hd
                clear hnx
                gi_wp2_with fail
                refine wpIn_round_any (by kernel_rfl) (by kernel_rfl) (fun ⟨a, w, h⟩ => h.elim) (wpAny_chain 4 [2, 3] (fun s w' => w'.heap[li]? = some (.cells #[.int .i64 (if s = 0 then (d : Int) else (d : Int))] 3 (0, 0)) ∧ (∃ (la : Option Addr) (ln lc : Nat), PAt w' (li + 1) (if s ≤ 1 then lk else 1) (if s ≤ 1 then lt else pt) (.slice la ln lc) (if s ≤ 1 then lq else true)) ∧ Kept (fun k => k = li ∨ k = li + 1) V w') (Kept (fun k => k = li ∨ k = li + 1)) [rV (.int .i64 (d : Int)), rV (.agg #[.int .i64 1, .string (BA pt), .slice qa 0 qc, .bool true]), rT, rT] (by kernel_rfl) ?c1 ?c2 ?c3)
                case c1 => exact ⟨HIN.out, ⟨la, ln, lc, HL.out⟩, (Kept.refl _ _).drew⟩
                case c2 =>
                  refine csteps_free (by decide) (fun s a' w' hI hag hf K hK => ?_) ?_
                  · have s10 := hag.same 10 (by decide)
                    clear hag
                    go_wp2_with fail
                    exact hK _ _ hI (Kept.refl _ _) rfl
                  refine csteps_free (by decide) (fun s a' w' hI hag hf K hK => ?_) ?_
                  · have s11 := hag.same 11 (by decide)
                    clear hag
                    have HI := Lw.hid hI
                    have hg := hI.2.2.heap HG1.out (fun e => by have h1 := HKQ.out; omega)
                    obtain ⟨⟨q0, q1, q2, q3⟩, -⟩ := PAt.cells hg
                    clear hI hg
                    go_wp2_with fail
                    exact hK _ _ HI.out (Kept.refl _ _) rfl
                  refine csteps_hit 0 rfl (fun a' w' hI hag hf K hK => ?_) ?_
                  · obtain ⟨⟨_, h0, rfl⟩, -⟩ : SFacts _ _ a' w' [0] := hf
                    have s8 := hag.same 8 (by decide)
                    clear hag
                    have HI := Lw.hid hI
                    have cc := heap_cell hI.1 0
                    have ff := heap_free hI.1 0
                    clear hI
                    go_wp2_with fail
                    exact hK undef _ ⟨heap_set HI.out.1 0 _, (by obtain ⟨la', ln', lc', h2⟩ := HI.out.2.1; exact ⟨la', ln', lc', ((Kept.refl (fun k => k = li) w').set li 0 (fun _ => rfl) _).heap h2 (by omega)⟩), HI.out.2.2.set li 0 (fun _ => .inl rfl) _⟩ ((Kept.refl (fun k => k = li ∨ k = li + 1) w').set li 0 (fun _ => .inl rfl) _) trivial
                  refine csteps_hit 1 rfl (fun a' w' hI hag hf K hK => ?_) ?_
                  · obtain ⟨⟨_, h1, rfl⟩, -⟩ : SFacts _ _ a' w' [1, 2, 0] := hf
                    have s9 := hag.same 9 (by decide)
                    clear hag
                    have HI := Lw.hid hI
                    obtain ⟨la', ln', lc', h2⟩ := hI.2.1
                    obtain ⟨⟨q0, q1, q2, q3⟩, ⟨f0, f1, f2, f3⟩⟩ := PAt.cells h2
                    have H2 := Lw.hid h2
                    clear hI h2
                    go_wp2_with fail
                    exact hK undef _ ⟨((((Kept.refl (fun k => k = li + 1) w').set (li + 1) 0 (fun _ => rfl) _).set (li + 1) 1 (fun _ => rfl) _).set (li + 1) 2 (fun _ => rfl) _ |>.set (li + 1) 3 (fun _ => rfl) _).heap HI.out.1 (by omega), ⟨qa, 0, qc, (((H2.out.setK _).setT _).setO _).setQ _⟩, (((HI.out.2.2.set (li + 1) 0 (fun _ => .inr rfl) _).set (li + 1) 1 (fun _ => .inr rfl) _).set (li + 1) 2 (fun _ => .inr rfl) _).set (li + 1) 3 (fun _ => .inr rfl) _⟩ (((((Kept.refl (fun k => k = li ∨ k = li + 1) w').set (li + 1) 0 (fun _ => .inr rfl) _).set (li + 1) 1 (fun _ => .inr rfl) _).set (li + 1) 2 (fun _ => .inr rfl) _).set (li + 1) 3 (fun _ => .inr rfl) _) trivial
                  exact trivial
                case c3 =>
                  intro vs w9 hI hvs
                  have q0 : vs 0 = (.int .i64 (d : Int)) := hvs 0 _ _ rfl rfl
                  have q1 : vs 1 = (.agg #[.int .i64 1, .string (BA pt), .slice qa 0 qc, .bool true]) := hvs 1 _ _ rfl rfl
                  clear hvs
                  simp only [List.take_succ_cons, List.take_zero, List.drop_succ_cons, List.drop_zero, putAll, Act.put, List.setIfInBounds_toArray, List.set_cons_zero, List.set_cons_succ, Nat.reduceAdd, q0, q1]
                  clear q0 q1
                  simp only [wpList]
                  refine ⟨hI.2.2.keeps (fun k hk hr e => ?_), ⟨?_, ?_, HH.out.k.trans hI.2.2 (fun _ _ h => h), fun q hq => HXB.out q hq⟩⟩
                  · rcases hr with h | h
                    · have h1 := HFL.out k h; omega
                    · have h1 := HXB.out k h; have h2 := HL7.out; omega
                  · rw [HLI.out]; exact hI.1
                  · rw [HLP.out]; exact hI.2.1
            · have hdb : ((d : Int) == lI) = false := beq_eq_false_iff_ne.2 hd
              clear hnx
              gi_wp2_with fail
              refine wpIn_round_any (by kernel_rfl) (by kernel_rfl) (fun ⟨a, w, h⟩ => h.elim) (wpAny_chain 4 [2, 3] (fun s w' => w'.heap[li]? = some (.cells #[.int .i64 (if s = 0 then lI else (d : Int))] 3 (0, 0)) ∧ (∃ (la : Option Addr) (ln lc : Nat), PAt w' (li + 1) (if s ≤ 1 then lk else 1) (if s ≤ 1 then lt else pt) (.slice la ln lc) (if s ≤ 1 then lq else true)) ∧ Kept (fun k => k = li ∨ k = li + 1) V w') (Kept (fun k => k = li ∨ k = li + 1)) [rV (.int .i64 (d : Int)), rV (.agg #[.int .i64 1, .string (BA pt), .slice qa 0 qc, .bool true]), rT, rT] (by kernel_rfl) ?c1 ?c2 ?c3)
              case c1 => exact ⟨HIN.out, ⟨la, ln, lc, HL.out⟩, (Kept.refl _ _).drew⟩
              case c2 =>
                refine csteps_free (by decide) (fun s a' w' hI hag hf K hK => ?_) ?_
                · have s10 := hag.same 10 (by decide)
                  clear hag
                  go_wp2_with fail
                  exact hK _ _ hI (Kept.refl _ _) rfl
                refine csteps_free (by decide) (fun s a' w' hI hag hf K hK => ?_) ?_
                · have s11 := hag.same 11 (by decide)
                  clear hag
                  have HI := Lw.hid hI
                  have hg := hI.2.2.heap HG1.out (fun e => by have h1 := HKQ.out; omega)
                  obtain ⟨⟨q0, q1, q2, q3⟩, -⟩ := PAt.cells hg
                  clear hI hg
                  go_wp2_with fail
                  exact hK _ _ HI.out (Kept.refl _ _) rfl
                refine csteps_hit 0 rfl (fun a' w' hI hag hf K hK => ?_) ?_
                · obtain ⟨⟨_, h0, rfl⟩, -⟩ : SFacts _ _ a' w' [0] := hf
                  have s8 := hag.same 8 (by decide)
                  clear hag
                  have HI := Lw.hid hI
                  have cc := heap_cell hI.1 0
                  have ff := heap_free hI.1 0
                  clear hI
                  go_wp2_with fail
                  exact hK undef _ ⟨heap_set HI.out.1 0 _, (by obtain ⟨la', ln', lc', h2⟩ := HI.out.2.1; exact ⟨la', ln', lc', ((Kept.refl (fun k => k = li) w').set li 0 (fun _ => rfl) _).heap h2 (by omega)⟩), HI.out.2.2.set li 0 (fun _ => .inl rfl) _⟩ ((Kept.refl (fun k => k = li ∨ k = li + 1) w').set li 0 (fun _ => .inl rfl) _) trivial
                refine csteps_hit 1 rfl (fun a' w' hI hag hf K hK => ?_) ?_
                · obtain ⟨⟨_, h1, rfl⟩, -⟩ : SFacts _ _ a' w' [1, 2, 0] := hf
                  have s9 := hag.same 9 (by decide)
                  clear hag
                  have HI := Lw.hid hI
                  obtain ⟨la', ln', lc', h2⟩ := hI.2.1
                  obtain ⟨⟨q0, q1, q2, q3⟩, ⟨f0, f1, f2, f3⟩⟩ := PAt.cells h2
                  have H2 := Lw.hid h2
                  clear hI h2
                  go_wp2_with fail
                  exact hK undef _ ⟨((((Kept.refl (fun k => k = li + 1) w').set (li + 1) 0 (fun _ => rfl) _).set (li + 1) 1 (fun _ => rfl) _).set (li + 1) 2 (fun _ => rfl) _ |>.set (li + 1) 3 (fun _ => rfl) _).heap HI.out.1 (by omega), ⟨qa, 0, qc, (((H2.out.setK _).setT _).setO _).setQ _⟩, (((HI.out.2.2.set (li + 1) 0 (fun _ => .inr rfl) _).set (li + 1) 1 (fun _ => .inr rfl) _).set (li + 1) 2 (fun _ => .inr rfl) _).set (li + 1) 3 (fun _ => .inr rfl) _⟩ (((((Kept.refl (fun k => k = li ∨ k = li + 1) w').set (li + 1) 0 (fun _ => .inr rfl) _).set (li + 1) 1 (fun _ => .inr rfl) _).set (li + 1) 2 (fun _ => .inr rfl) _).set (li + 1) 3 (fun _ => .inr rfl) _) trivial
                exact trivial
              case c3 =>
                intro vs w9 hI hvs
                have q0 : vs 0 = (.int .i64 (d : Int)) := hvs 0 _ _ rfl rfl
                have q1 : vs 1 = (.agg #[.int .i64 1, .string (BA pt), .slice qa 0 qc, .bool true]) := hvs 1 _ _ rfl rfl
                clear hvs
                simp only [List.take_succ_cons, List.take_zero, List.drop_succ_cons, List.drop_zero, putAll, Act.put, List.setIfInBounds_toArray, List.set_cons_zero, List.set_cons_succ, Nat.reduceAdd, q0, q1]
                clear q0 q1
                simp only [wpList]
                refine ⟨hI.2.2.keeps (fun k hk hr e => ?_), ⟨?_, ?_, HH.out.k.trans hI.2.2 (fun _ _ h => h), fun q hq => HXB.out q hq⟩⟩
                · rcases hr with h | h
                  · have h1 := HFL.out k h; omega
                  · have h1 := HXB.out k h; have h2 := HL7.out; omega
                · rw [HLI.out]; exact hI.1
                · rw [HLP.out]; exact hI.2.1
          | false =>
            have hbe : (BA pt == (⟨#[]⟩ : ByteArray)) = false := BA_ne_nil (o3 rfl rfl)
            have hie : pt.isEmpty = false := by cases pt with
              | nil => exact absurd rfl (o3 rfl rfl)
              | cons c l => rfl
            by_cases hd : (d : Int) = lI
            · by_cases hl1 : lk = 1
              · obtain rfl : lq = true := by
                  cases lq with
                  | true => rfl
                  | false => exact absurd ⟨hd, rfl, hl1, rfl⟩ hnx
                subst hd; subst hl1
                clear hnx
                gi_wp2_with fail
                refine wpIn_round_any (by kernel_rfl) (by kernel_rfl) (fun ⟨a, w, h⟩ => h.elim) (wpAny_chain 4 [2, 3] (fun s w' => w'.heap[li]? = some (.cells #[.int .i64 (if s = 0 then (d : Int) else (d : Int))] 3 (0, 0)) ∧ (∃ (la : Option Addr) (ln lc : Nat), PAt w' (li + 1) (if s ≤ 1 then 1 else 1) (if s ≤ 1 then lt else pt) (.slice la ln lc) (if s ≤ 1 then true else false)) ∧ Kept (fun k => k = li ∨ k = li + 1) V w') (Kept (fun k => k = li ∨ k = li + 1)) [rV (.int .i64 (d : Int)), rV (.agg #[.int .i64 1, .string (BA pt), .slice qa 0 qc, .bool false]), rT, rT] (by kernel_rfl) ?c1 ?c2 ?c3)
                case c1 => exact ⟨HIN.out, ⟨la, ln, lc, HL.out⟩, (Kept.refl _ _).drew⟩
                case c2 =>
                  refine csteps_free (by decide) (fun s a' w' hI hag hf K hK => ?_) ?_
                  · have s10 := hag.same 10 (by decide)
                    clear hag
                    go_wp2_with fail
                    exact hK _ _ hI (Kept.refl _ _) rfl
                  refine csteps_free (by decide) (fun s a' w' hI hag hf K hK => ?_) ?_
                  · have s11 := hag.same 11 (by decide)
                    clear hag
                    have HI := Lw.hid hI
                    have hg := hI.2.2.heap HG1.out (fun e => by have h1 := HKQ.out; omega)
                    obtain ⟨⟨q0, q1, q2, q3⟩, -⟩ := PAt.cells hg
                    clear hI hg
                    go_wp2_with fail
                    exact hK _ _ HI.out (Kept.refl _ _) rfl
                  refine csteps_hit 0 rfl (fun a' w' hI hag hf K hK => ?_) ?_
                  · obtain ⟨⟨_, h0, rfl⟩, -⟩ : SFacts _ _ a' w' [0] := hf
                    have s8 := hag.same 8 (by decide)
                    clear hag
                    have HI := Lw.hid hI
                    have cc := heap_cell hI.1 0
                    have ff := heap_free hI.1 0
                    clear hI
                    go_wp2_with fail
                    exact hK undef _ ⟨heap_set HI.out.1 0 _, (by obtain ⟨la', ln', lc', h2⟩ := HI.out.2.1; exact ⟨la', ln', lc', ((Kept.refl (fun k => k = li) w').set li 0 (fun _ => rfl) _).heap h2 (by omega)⟩), HI.out.2.2.set li 0 (fun _ => .inl rfl) _⟩ ((Kept.refl (fun k => k = li ∨ k = li + 1) w').set li 0 (fun _ => .inl rfl) _) trivial
                  refine csteps_hit 1 rfl (fun a' w' hI hag hf K hK => ?_) ?_
                  · obtain ⟨⟨_, h1, rfl⟩, -⟩ : SFacts _ _ a' w' [1, 2, 0] := hf
                    have s9 := hag.same 9 (by decide)
                    clear hag
                    have HI := Lw.hid hI
                    obtain ⟨la', ln', lc', h2⟩ := hI.2.1
                    obtain ⟨⟨q0, q1, q2, q3⟩, ⟨f0, f1, f2, f3⟩⟩ := PAt.cells h2
                    have H2 := Lw.hid h2
                    clear hI h2
                    go_wp2_with fail
                    exact hK undef _ ⟨((((Kept.refl (fun k => k = li + 1) w').set (li + 1) 0 (fun _ => rfl) _).set (li + 1) 1 (fun _ => rfl) _).set (li + 1) 2 (fun _ => rfl) _ |>.set (li + 1) 3 (fun _ => rfl) _).heap HI.out.1 (by omega), ⟨qa, 0, qc, (((H2.out.setK _).setT _).setO _).setQ _⟩, (((HI.out.2.2.set (li + 1) 0 (fun _ => .inr rfl) _).set (li + 1) 1 (fun _ => .inr rfl) _).set (li + 1) 2 (fun _ => .inr rfl) _).set (li + 1) 3 (fun _ => .inr rfl) _⟩ (((((Kept.refl (fun k => k = li ∨ k = li + 1) w').set (li + 1) 0 (fun _ => .inr rfl) _).set (li + 1) 1 (fun _ => .inr rfl) _).set (li + 1) 2 (fun _ => .inr rfl) _).set (li + 1) 3 (fun _ => .inr rfl) _) trivial
                  exact trivial
                case c3 =>
                  intro vs w9 hI hvs
                  have q0 : vs 0 = (.int .i64 (d : Int)) := hvs 0 _ _ rfl rfl
                  have q1 : vs 1 = (.agg #[.int .i64 1, .string (BA pt), .slice qa 0 qc, .bool false]) := hvs 1 _ _ rfl rfl
                  clear hvs
                  simp only [List.take_succ_cons, List.take_zero, List.drop_succ_cons, List.drop_zero, putAll, Act.put, List.setIfInBounds_toArray, List.set_cons_zero, List.set_cons_succ, Nat.reduceAdd, q0, q1]
                  clear q0 q1
                  simp only [wpList]
                  refine ⟨hI.2.2.keeps (fun k hk hr e => ?_), ⟨?_, ?_, HH.out.k.trans hI.2.2 (fun _ _ h => h), fun q hq => HXB.out q hq⟩⟩
                  · rcases hr with h | h
                    · have h1 := HFL.out k h; omega
                    · have h1 := HXB.out k h; have h2 := HL7.out; omega
                  · rw [HLI.out]; exact hI.1
                  · rw [HLP.out]; exact hI.2.1
              · have hlk : (lk == 1) = false := beq_eq_false_iff_ne.2 hl1
                subst hd
                clear hnx
                gi_wp2_with fail
                refine wpIn_round_any (by kernel_rfl) (by kernel_rfl) (fun ⟨a, w, h⟩ => h.elim) (wpAny_chain 4 [2, 3] (fun s w' => w'.heap[li]? = some (.cells #[.int .i64 (if s = 0 then (d : Int) else (d : Int))] 3 (0, 0)) ∧ (∃ (la : Option Addr) (ln lc : Nat), PAt w' (li + 1) (if s ≤ 1 then lk else 1) (if s ≤ 1 then lt else pt) (.slice la ln lc) (if s ≤ 1 then lq else false)) ∧ Kept (fun k => k = li ∨ k = li + 1) V w') (Kept (fun k => k = li ∨ k = li + 1)) [rV (.int .i64 (d : Int)), rV (.agg #[.int .i64 1, .string (BA pt), .slice qa 0 qc, .bool false]), rT, rT] (by kernel_rfl) ?c1 ?c2 ?c3)
                case c1 => exact ⟨HIN.out, ⟨la, ln, lc, HL.out⟩, (Kept.refl _ _).drew⟩
                case c2 =>
                  refine csteps_free (by decide) (fun s a' w' hI hag hf K hK => ?_) ?_
                  · have s10 := hag.same 10 (by decide)
                    clear hag
                    go_wp2_with fail
                    exact hK _ _ hI (Kept.refl _ _) rfl
                  refine csteps_free (by decide) (fun s a' w' hI hag hf K hK => ?_) ?_
                  · have s11 := hag.same 11 (by decide)
                    clear hag
                    have HI := Lw.hid hI
                    have hg := hI.2.2.heap HG1.out (fun e => by have h1 := HKQ.out; omega)
                    obtain ⟨⟨q0, q1, q2, q3⟩, -⟩ := PAt.cells hg
                    clear hI hg
                    go_wp2_with fail
                    exact hK _ _ HI.out (Kept.refl _ _) rfl
                  refine csteps_hit 0 rfl (fun a' w' hI hag hf K hK => ?_) ?_
                  · obtain ⟨⟨_, h0, rfl⟩, -⟩ : SFacts _ _ a' w' [0] := hf
                    have s8 := hag.same 8 (by decide)
                    clear hag
                    have HI := Lw.hid hI
                    have cc := heap_cell hI.1 0
                    have ff := heap_free hI.1 0
                    clear hI
                    go_wp2_with fail
                    exact hK undef _ ⟨heap_set HI.out.1 0 _, (by obtain ⟨la', ln', lc', h2⟩ := HI.out.2.1; exact ⟨la', ln', lc', ((Kept.refl (fun k => k = li) w').set li 0 (fun _ => rfl) _).heap h2 (by omega)⟩), HI.out.2.2.set li 0 (fun _ => .inl rfl) _⟩ ((Kept.refl (fun k => k = li ∨ k = li + 1) w').set li 0 (fun _ => .inl rfl) _) trivial
                  refine csteps_hit 1 rfl (fun a' w' hI hag hf K hK => ?_) ?_
                  · obtain ⟨⟨_, h1, rfl⟩, -⟩ : SFacts _ _ a' w' [1, 2, 0] := hf
                    have s9 := hag.same 9 (by decide)
                    clear hag
                    have HI := Lw.hid hI
                    obtain ⟨la', ln', lc', h2⟩ := hI.2.1
                    obtain ⟨⟨q0, q1, q2, q3⟩, ⟨f0, f1, f2, f3⟩⟩ := PAt.cells h2
                    have H2 := Lw.hid h2
                    clear hI h2
                    go_wp2_with fail
                    exact hK undef _ ⟨((((Kept.refl (fun k => k = li + 1) w').set (li + 1) 0 (fun _ => rfl) _).set (li + 1) 1 (fun _ => rfl) _).set (li + 1) 2 (fun _ => rfl) _ |>.set (li + 1) 3 (fun _ => rfl) _).heap HI.out.1 (by omega), ⟨qa, 0, qc, (((H2.out.setK _).setT _).setO _).setQ _⟩, (((HI.out.2.2.set (li + 1) 0 (fun _ => .inr rfl) _).set (li + 1) 1 (fun _ => .inr rfl) _).set (li + 1) 2 (fun _ => .inr rfl) _).set (li + 1) 3 (fun _ => .inr rfl) _⟩ (((((Kept.refl (fun k => k = li ∨ k = li + 1) w').set (li + 1) 0 (fun _ => .inr rfl) _).set (li + 1) 1 (fun _ => .inr rfl) _).set (li + 1) 2 (fun _ => .inr rfl) _).set (li + 1) 3 (fun _ => .inr rfl) _) trivial
                  exact trivial
                case c3 =>
                  intro vs w9 hI hvs
                  have q0 : vs 0 = (.int .i64 (d : Int)) := hvs 0 _ _ rfl rfl
                  have q1 : vs 1 = (.agg #[.int .i64 1, .string (BA pt), .slice qa 0 qc, .bool false]) := hvs 1 _ _ rfl rfl
                  clear hvs
                  simp only [List.take_succ_cons, List.take_zero, List.drop_succ_cons, List.drop_zero, putAll, Act.put, List.setIfInBounds_toArray, List.set_cons_zero, List.set_cons_succ, Nat.reduceAdd, q0, q1]
                  clear q0 q1
                  simp only [wpList]
                  refine ⟨hI.2.2.keeps (fun k hk hr e => ?_), ⟨?_, ?_, HH.out.k.trans hI.2.2 (fun _ _ h => h), fun q hq => HXB.out q hq⟩⟩
                  · rcases hr with h | h
                    · have h1 := HFL.out k h; omega
                    · have h1 := HXB.out k h; have h2 := HL7.out; omega
                  · rw [HLI.out]; exact hI.1
                  · rw [HLP.out]; exact hI.2.1
            · have hdb : ((d : Int) == lI) = false := beq_eq_false_iff_ne.2 hd
              clear hnx
              gi_wp2_with fail
              refine wpIn_round_any (by kernel_rfl) (by kernel_rfl) (fun ⟨a, w, h⟩ => h.elim) (wpAny_chain 4 [2, 3] (fun s w' => w'.heap[li]? = some (.cells #[.int .i64 (if s = 0 then lI else (d : Int))] 3 (0, 0)) ∧ (∃ (la : Option Addr) (ln lc : Nat), PAt w' (li + 1) (if s ≤ 1 then lk else 1) (if s ≤ 1 then lt else pt) (.slice la ln lc) (if s ≤ 1 then lq else false)) ∧ Kept (fun k => k = li ∨ k = li + 1) V w') (Kept (fun k => k = li ∨ k = li + 1)) [rV (.int .i64 (d : Int)), rV (.agg #[.int .i64 1, .string (BA pt), .slice qa 0 qc, .bool false]), rT, rT] (by kernel_rfl) ?c1 ?c2 ?c3)
              case c1 => exact ⟨HIN.out, ⟨la, ln, lc, HL.out⟩, (Kept.refl _ _).drew⟩
              case c2 =>
                refine csteps_free (by decide) (fun s a' w' hI hag hf K hK => ?_) ?_
                · have s10 := hag.same 10 (by decide)
                  clear hag
                  go_wp2_with fail
                  exact hK _ _ hI (Kept.refl _ _) rfl
                refine csteps_free (by decide) (fun s a' w' hI hag hf K hK => ?_) ?_
                · have s11 := hag.same 11 (by decide)
                  clear hag
                  have HI := Lw.hid hI
                  have hg := hI.2.2.heap HG1.out (fun e => by have h1 := HKQ.out; omega)
                  obtain ⟨⟨q0, q1, q2, q3⟩, -⟩ := PAt.cells hg
                  clear hI hg
                  go_wp2_with fail
                  exact hK _ _ HI.out (Kept.refl _ _) rfl
                refine csteps_hit 0 rfl (fun a' w' hI hag hf K hK => ?_) ?_
                · obtain ⟨⟨_, h0, rfl⟩, -⟩ : SFacts _ _ a' w' [0] := hf
                  have s8 := hag.same 8 (by decide)
                  clear hag
                  have HI := Lw.hid hI
                  have cc := heap_cell hI.1 0
                  have ff := heap_free hI.1 0
                  clear hI
                  go_wp2_with fail
                  exact hK undef _ ⟨heap_set HI.out.1 0 _, (by obtain ⟨la', ln', lc', h2⟩ := HI.out.2.1; exact ⟨la', ln', lc', ((Kept.refl (fun k => k = li) w').set li 0 (fun _ => rfl) _).heap h2 (by omega)⟩), HI.out.2.2.set li 0 (fun _ => .inl rfl) _⟩ ((Kept.refl (fun k => k = li ∨ k = li + 1) w').set li 0 (fun _ => .inl rfl) _) trivial
                refine csteps_hit 1 rfl (fun a' w' hI hag hf K hK => ?_) ?_
                · obtain ⟨⟨_, h1, rfl⟩, -⟩ : SFacts _ _ a' w' [1, 2, 0] := hf
                  have s9 := hag.same 9 (by decide)
                  clear hag
                  have HI := Lw.hid hI
                  obtain ⟨la', ln', lc', h2⟩ := hI.2.1
                  obtain ⟨⟨q0, q1, q2, q3⟩, ⟨f0, f1, f2, f3⟩⟩ := PAt.cells h2
                  have H2 := Lw.hid h2
                  clear hI h2
                  go_wp2_with fail
                  exact hK undef _ ⟨((((Kept.refl (fun k => k = li + 1) w').set (li + 1) 0 (fun _ => rfl) _).set (li + 1) 1 (fun _ => rfl) _).set (li + 1) 2 (fun _ => rfl) _ |>.set (li + 1) 3 (fun _ => rfl) _).heap HI.out.1 (by omega), ⟨qa, 0, qc, (((H2.out.setK _).setT _).setO _).setQ _⟩, (((HI.out.2.2.set (li + 1) 0 (fun _ => .inr rfl) _).set (li + 1) 1 (fun _ => .inr rfl) _).set (li + 1) 2 (fun _ => .inr rfl) _).set (li + 1) 3 (fun _ => .inr rfl) _⟩ (((((Kept.refl (fun k => k = li ∨ k = li + 1) w').set (li + 1) 0 (fun _ => .inr rfl) _).set (li + 1) 1 (fun _ => .inr rfl) _).set (li + 1) 2 (fun _ => .inr rfl) _).set (li + 1) 3 (fun _ => .inr rfl) _) trivial
                exact trivial
              case c3 =>
                intro vs w9 hI hvs
                have q0 : vs 0 = (.int .i64 (d : Int)) := hvs 0 _ _ rfl rfl
                have q1 : vs 1 = (.agg #[.int .i64 1, .string (BA pt), .slice qa 0 qc, .bool false]) := hvs 1 _ _ rfl rfl
                clear hvs
                simp only [List.take_succ_cons, List.take_zero, List.drop_succ_cons, List.drop_zero, putAll, Act.put, List.setIfInBounds_toArray, List.set_cons_zero, List.set_cons_succ, Nat.reduceAdd, q0, q1]
                clear q0 q1
                simp only [wpList]
                refine ⟨hI.2.2.keeps (fun k hk hr e => ?_), ⟨?_, ?_, HH.out.k.trans hI.2.2 (fun _ _ h => h), fun q hq => HXB.out q hq⟩⟩
                · rcases hr with h | h
                  · have h1 := HFL.out k h; omega
                  · have h1 := HXB.out k h; have h2 := HL7.out; omega
                · rw [HLI.out]; exact hI.1
                · rw [HLP.out]; exact hI.2.1
        · by_cases hk3 : pk = 3
          · subst hk3
            by_cases hd : (d : Int) = lI
            · subst hd
              clear hnx
              gi_wp2_with fail
              refine wpIn_round_any (by kernel_rfl) (by kernel_rfl) (fun ⟨a, w, h⟩ => h.elim) (wpAny_chain 4 [2, 3] (fun s w' => w'.heap[li]? = some (.cells #[.int .i64 (if s = 0 then (d : Int) else (d : Int))] 3 (0, 0)) ∧ (∃ (la : Option Addr) (ln lc : Nat), PAt w' (li + 1) (if s ≤ 1 then lk else 3) (if s ≤ 1 then lt else pt) (.slice la ln lc) (if s ≤ 1 then lq else pq)) ∧ Kept (fun k => k = li ∨ k = li + 1) V w') (Kept (fun k => k = li ∨ k = li + 1)) [rV (.int .i64 (d : Int)), rV (.agg #[.int .i64 3, .string (BA pt), .slice qa qn qc, .bool pq]), rT, rT] (by kernel_rfl) ?c1 ?c2 ?c3)
              case c1 => exact ⟨HIN.out, ⟨la, ln, lc, HL.out⟩, (Kept.refl _ _).drew⟩
              case c2 =>
                refine csteps_free (by decide) (fun s a' w' hI hag hf K hK => ?_) ?_
                · have s10 := hag.same 10 (by decide)
                  clear hag
                  go_wp2_with fail
                  exact hK _ _ hI (Kept.refl _ _) rfl
                refine csteps_free (by decide) (fun s a' w' hI hag hf K hK => ?_) ?_
                · have s11 := hag.same 11 (by decide)
                  clear hag
                  have HI := Lw.hid hI
                  have hg := hI.2.2.heap HG1.out (fun e => by have h1 := HKQ.out; omega)
                  obtain ⟨⟨q0, q1, q2, q3⟩, -⟩ := PAt.cells hg
                  clear hI hg
                  go_wp2_with fail
                  exact hK _ _ HI.out (Kept.refl _ _) rfl
                refine csteps_hit 0 rfl (fun a' w' hI hag hf K hK => ?_) ?_
                · obtain ⟨⟨_, h0, rfl⟩, -⟩ : SFacts _ _ a' w' [0] := hf
                  have s8 := hag.same 8 (by decide)
                  clear hag
                  have HI := Lw.hid hI
                  have cc := heap_cell hI.1 0
                  have ff := heap_free hI.1 0
                  clear hI
                  go_wp2_with fail
                  exact hK undef _ ⟨heap_set HI.out.1 0 _, (by obtain ⟨la', ln', lc', h2⟩ := HI.out.2.1; exact ⟨la', ln', lc', ((Kept.refl (fun k => k = li) w').set li 0 (fun _ => rfl) _).heap h2 (by omega)⟩), HI.out.2.2.set li 0 (fun _ => .inl rfl) _⟩ ((Kept.refl (fun k => k = li ∨ k = li + 1) w').set li 0 (fun _ => .inl rfl) _) trivial
                refine csteps_hit 1 rfl (fun a' w' hI hag hf K hK => ?_) ?_
                · obtain ⟨⟨_, h1, rfl⟩, -⟩ : SFacts _ _ a' w' [1, 2, 0] := hf
                  have s9 := hag.same 9 (by decide)
                  clear hag
                  have HI := Lw.hid hI
                  obtain ⟨la', ln', lc', h2⟩ := hI.2.1
                  obtain ⟨⟨q0, q1, q2, q3⟩, ⟨f0, f1, f2, f3⟩⟩ := PAt.cells h2
                  have H2 := Lw.hid h2
                  clear hI h2
                  go_wp2_with fail
                  exact hK undef _ ⟨((((Kept.refl (fun k => k = li + 1) w').set (li + 1) 0 (fun _ => rfl) _).set (li + 1) 1 (fun _ => rfl) _).set (li + 1) 2 (fun _ => rfl) _ |>.set (li + 1) 3 (fun _ => rfl) _).heap HI.out.1 (by omega), ⟨qa, qn, qc, (((H2.out.setK _).setT _).setO _).setQ _⟩, (((HI.out.2.2.set (li + 1) 0 (fun _ => .inr rfl) _).set (li + 1) 1 (fun _ => .inr rfl) _).set (li + 1) 2 (fun _ => .inr rfl) _).set (li + 1) 3 (fun _ => .inr rfl) _⟩ (((((Kept.refl (fun k => k = li ∨ k = li + 1) w').set (li + 1) 0 (fun _ => .inr rfl) _).set (li + 1) 1 (fun _ => .inr rfl) _).set (li + 1) 2 (fun _ => .inr rfl) _).set (li + 1) 3 (fun _ => .inr rfl) _) trivial
                exact trivial
              case c3 =>
                intro vs w9 hI hvs
                have q0 : vs 0 = (.int .i64 (d : Int)) := hvs 0 _ _ rfl rfl
                have q1 : vs 1 = (.agg #[.int .i64 3, .string (BA pt), .slice qa qn qc, .bool pq]) := hvs 1 _ _ rfl rfl
                clear hvs
                simp only [List.take_succ_cons, List.take_zero, List.drop_succ_cons, List.drop_zero, putAll, Act.put, List.setIfInBounds_toArray, List.set_cons_zero, List.set_cons_succ, Nat.reduceAdd, q0, q1]
                clear q0 q1
                simp only [wpList]
                refine ⟨hI.2.2.keeps (fun k hk hr e => ?_), ⟨?_, ?_, HH.out.k.trans hI.2.2 (fun _ _ h => h), fun q hq => HXB.out q hq⟩⟩
                · rcases hr with h | h
                  · have h1 := HFL.out k h; omega
                  · have h1 := HXB.out k h; have h2 := HL7.out; omega
                · rw [HLI.out]; exact hI.1
                · rw [HLP.out]; exact hI.2.1
            · have hdb : ((d : Int) == lI) = false := beq_eq_false_iff_ne.2 hd
              clear hnx
              gi_wp2_with fail
              refine wpIn_round_any (by kernel_rfl) (by kernel_rfl) (fun ⟨a, w, h⟩ => h.elim) (wpAny_chain 4 [2, 3] (fun s w' => w'.heap[li]? = some (.cells #[.int .i64 (if s = 0 then lI else (d : Int))] 3 (0, 0)) ∧ (∃ (la : Option Addr) (ln lc : Nat), PAt w' (li + 1) (if s ≤ 1 then lk else 3) (if s ≤ 1 then lt else pt) (.slice la ln lc) (if s ≤ 1 then lq else pq)) ∧ Kept (fun k => k = li ∨ k = li + 1) V w') (Kept (fun k => k = li ∨ k = li + 1)) [rV (.int .i64 (d : Int)), rV (.agg #[.int .i64 3, .string (BA pt), .slice qa qn qc, .bool pq]), rT, rT] (by kernel_rfl) ?c1 ?c2 ?c3)
              case c1 => exact ⟨HIN.out, ⟨la, ln, lc, HL.out⟩, (Kept.refl _ _).drew⟩
              case c2 =>
                refine csteps_free (by decide) (fun s a' w' hI hag hf K hK => ?_) ?_
                · have s10 := hag.same 10 (by decide)
                  clear hag
                  go_wp2_with fail
                  exact hK _ _ hI (Kept.refl _ _) rfl
                refine csteps_free (by decide) (fun s a' w' hI hag hf K hK => ?_) ?_
                · have s11 := hag.same 11 (by decide)
                  clear hag
                  have HI := Lw.hid hI
                  have hg := hI.2.2.heap HG1.out (fun e => by have h1 := HKQ.out; omega)
                  obtain ⟨⟨q0, q1, q2, q3⟩, -⟩ := PAt.cells hg
                  clear hI hg
                  go_wp2_with fail
                  exact hK _ _ HI.out (Kept.refl _ _) rfl
                refine csteps_hit 0 rfl (fun a' w' hI hag hf K hK => ?_) ?_
                · obtain ⟨⟨_, h0, rfl⟩, -⟩ : SFacts _ _ a' w' [0] := hf
                  have s8 := hag.same 8 (by decide)
                  clear hag
                  have HI := Lw.hid hI
                  have cc := heap_cell hI.1 0
                  have ff := heap_free hI.1 0
                  clear hI
                  go_wp2_with fail
                  exact hK undef _ ⟨heap_set HI.out.1 0 _, (by obtain ⟨la', ln', lc', h2⟩ := HI.out.2.1; exact ⟨la', ln', lc', ((Kept.refl (fun k => k = li) w').set li 0 (fun _ => rfl) _).heap h2 (by omega)⟩), HI.out.2.2.set li 0 (fun _ => .inl rfl) _⟩ ((Kept.refl (fun k => k = li ∨ k = li + 1) w').set li 0 (fun _ => .inl rfl) _) trivial
                refine csteps_hit 1 rfl (fun a' w' hI hag hf K hK => ?_) ?_
                · obtain ⟨⟨_, h1, rfl⟩, -⟩ : SFacts _ _ a' w' [1, 2, 0] := hf
                  have s9 := hag.same 9 (by decide)
                  clear hag
                  have HI := Lw.hid hI
                  obtain ⟨la', ln', lc', h2⟩ := hI.2.1
                  obtain ⟨⟨q0, q1, q2, q3⟩, ⟨f0, f1, f2, f3⟩⟩ := PAt.cells h2
                  have H2 := Lw.hid h2
                  clear hI h2
                  go_wp2_with fail
                  exact hK undef _ ⟨((((Kept.refl (fun k => k = li + 1) w').set (li + 1) 0 (fun _ => rfl) _).set (li + 1) 1 (fun _ => rfl) _).set (li + 1) 2 (fun _ => rfl) _ |>.set (li + 1) 3 (fun _ => rfl) _).heap HI.out.1 (by omega), ⟨qa, qn, qc, (((H2.out.setK _).setT _).setO _).setQ _⟩, (((HI.out.2.2.set (li + 1) 0 (fun _ => .inr rfl) _).set (li + 1) 1 (fun _ => .inr rfl) _).set (li + 1) 2 (fun _ => .inr rfl) _).set (li + 1) 3 (fun _ => .inr rfl) _⟩ (((((Kept.refl (fun k => k = li ∨ k = li + 1) w').set (li + 1) 0 (fun _ => .inr rfl) _).set (li + 1) 1 (fun _ => .inr rfl) _).set (li + 1) 2 (fun _ => .inr rfl) _).set (li + 1) 3 (fun _ => .inr rfl) _) trivial
                exact trivial
              case c3 =>
                intro vs w9 hI hvs
                have q0 : vs 0 = (.int .i64 (d : Int)) := hvs 0 _ _ rfl rfl
                have q1 : vs 1 = (.agg #[.int .i64 3, .string (BA pt), .slice qa qn qc, .bool pq]) := hvs 1 _ _ rfl rfl
                clear hvs
                simp only [List.take_succ_cons, List.take_zero, List.drop_succ_cons, List.drop_zero, putAll, Act.put, List.setIfInBounds_toArray, List.set_cons_zero, List.set_cons_succ, Nat.reduceAdd, q0, q1]
                clear q0 q1
                simp only [wpList]
                refine ⟨hI.2.2.keeps (fun k hk hr e => ?_), ⟨?_, ?_, HH.out.k.trans hI.2.2 (fun _ _ h => h), fun q hq => HXB.out q hq⟩⟩
                · rcases hr with h | h
                  · have h1 := HFL.out k h; omega
                  · have h1 := HXB.out k h; have h2 := HL7.out; omega
                · rw [HLI.out]; exact hI.1
                · rw [HLP.out]; exact hI.2.1
          · have hq0 : qn = 0 := g3 (o4 hk3)
            subst hq0
            have bk1 : (pk == 1) = false := beq_eq_false_iff_ne.2 hk1
            have bk3 : (pk != 3) = true := by simp [bne, hk3]
            by_cases hd : (d : Int) = lI
            · subst hd
              clear hnx
              gi_wp2_with fail
              refine wpIn_round_any (by kernel_rfl) (by kernel_rfl) (fun ⟨a, w, h⟩ => h.elim) (wpAny_chain 4 [2, 3] (fun s w' => w'.heap[li]? = some (.cells #[.int .i64 (if s = 0 then (d : Int) else (d : Int))] 3 (0, 0)) ∧ (∃ (la : Option Addr) (ln lc : Nat), PAt w' (li + 1) (if s ≤ 1 then lk else pk) (if s ≤ 1 then lt else pt) (.slice la ln lc) (if s ≤ 1 then lq else pq)) ∧ Kept (fun k => k = li ∨ k = li + 1) V w') (Kept (fun k => k = li ∨ k = li + 1)) [rV (.int .i64 (d : Int)), rV (.agg #[.int .i64 pk, .string (BA pt), .slice qa 0 qc, .bool pq]), rT, rT] (by kernel_rfl) ?c1 ?c2 ?c3)
              case c1 => exact ⟨HIN.out, ⟨la, ln, lc, HL.out⟩, (Kept.refl _ _).drew⟩
              case c2 =>
                refine csteps_free (by decide) (fun s a' w' hI hag hf K hK => ?_) ?_
                · have s10 := hag.same 10 (by decide)
                  clear hag
                  go_wp2_with fail
                  exact hK _ _ hI (Kept.refl _ _) rfl
                refine csteps_free (by decide) (fun s a' w' hI hag hf K hK => ?_) ?_
                · have s11 := hag.same 11 (by decide)
                  clear hag
                  have HI := Lw.hid hI
                  have hg := hI.2.2.heap HG1.out (fun e => by have h1 := HKQ.out; omega)
                  obtain ⟨⟨q0, q1, q2, q3⟩, -⟩ := PAt.cells hg
                  clear hI hg
                  go_wp2_with fail
                  exact hK _ _ HI.out (Kept.refl _ _) rfl
                refine csteps_hit 0 rfl (fun a' w' hI hag hf K hK => ?_) ?_
                · obtain ⟨⟨_, h0, rfl⟩, -⟩ : SFacts _ _ a' w' [0] := hf
                  have s8 := hag.same 8 (by decide)
                  clear hag
                  have HI := Lw.hid hI
                  have cc := heap_cell hI.1 0
                  have ff := heap_free hI.1 0
                  clear hI
                  go_wp2_with fail
                  exact hK undef _ ⟨heap_set HI.out.1 0 _, (by obtain ⟨la', ln', lc', h2⟩ := HI.out.2.1; exact ⟨la', ln', lc', ((Kept.refl (fun k => k = li) w').set li 0 (fun _ => rfl) _).heap h2 (by omega)⟩), HI.out.2.2.set li 0 (fun _ => .inl rfl) _⟩ ((Kept.refl (fun k => k = li ∨ k = li + 1) w').set li 0 (fun _ => .inl rfl) _) trivial
                refine csteps_hit 1 rfl (fun a' w' hI hag hf K hK => ?_) ?_
                · obtain ⟨⟨_, h1, rfl⟩, -⟩ : SFacts _ _ a' w' [1, 2, 0] := hf
                  have s9 := hag.same 9 (by decide)
                  clear hag
                  have HI := Lw.hid hI
                  obtain ⟨la', ln', lc', h2⟩ := hI.2.1
                  obtain ⟨⟨q0, q1, q2, q3⟩, ⟨f0, f1, f2, f3⟩⟩ := PAt.cells h2
                  have H2 := Lw.hid h2
                  clear hI h2
                  go_wp2_with fail
                  exact hK undef _ ⟨((((Kept.refl (fun k => k = li + 1) w').set (li + 1) 0 (fun _ => rfl) _).set (li + 1) 1 (fun _ => rfl) _).set (li + 1) 2 (fun _ => rfl) _ |>.set (li + 1) 3 (fun _ => rfl) _).heap HI.out.1 (by omega), ⟨qa, 0, qc, (((H2.out.setK _).setT _).setO _).setQ _⟩, (((HI.out.2.2.set (li + 1) 0 (fun _ => .inr rfl) _).set (li + 1) 1 (fun _ => .inr rfl) _).set (li + 1) 2 (fun _ => .inr rfl) _).set (li + 1) 3 (fun _ => .inr rfl) _⟩ (((((Kept.refl (fun k => k = li ∨ k = li + 1) w').set (li + 1) 0 (fun _ => .inr rfl) _).set (li + 1) 1 (fun _ => .inr rfl) _).set (li + 1) 2 (fun _ => .inr rfl) _).set (li + 1) 3 (fun _ => .inr rfl) _) trivial
                exact trivial
              case c3 =>
                intro vs w9 hI hvs
                have q0 : vs 0 = (.int .i64 (d : Int)) := hvs 0 _ _ rfl rfl
                have q1 : vs 1 = (.agg #[.int .i64 pk, .string (BA pt), .slice qa 0 qc, .bool pq]) := hvs 1 _ _ rfl rfl
                clear hvs
                simp only [List.take_succ_cons, List.take_zero, List.drop_succ_cons, List.drop_zero, putAll, Act.put, List.setIfInBounds_toArray, List.set_cons_zero, List.set_cons_succ, Nat.reduceAdd, q0, q1]
                clear q0 q1
                simp only [wpList]
                refine ⟨hI.2.2.keeps (fun k hk hr e => ?_), ⟨?_, ?_, HH.out.k.trans hI.2.2 (fun _ _ h => h), fun q hq => HXB.out q hq⟩⟩
                · rcases hr with h | h
                  · have h1 := HFL.out k h; omega
                  · have h1 := HXB.out k h; have h2 := HL7.out; omega
                · rw [HLI.out]; exact hI.1
                · rw [HLP.out]; exact hI.2.1
            · have hdb : ((d : Int) == lI) = false := beq_eq_false_iff_ne.2 hd
              clear hnx
              gi_wp2_with fail
              refine wpIn_round_any (by kernel_rfl) (by kernel_rfl) (fun ⟨a, w, h⟩ => h.elim) (wpAny_chain 4 [2, 3] (fun s w' => w'.heap[li]? = some (.cells #[.int .i64 (if s = 0 then lI else (d : Int))] 3 (0, 0)) ∧ (∃ (la : Option Addr) (ln lc : Nat), PAt w' (li + 1) (if s ≤ 1 then lk else pk) (if s ≤ 1 then lt else pt) (.slice la ln lc) (if s ≤ 1 then lq else pq)) ∧ Kept (fun k => k = li ∨ k = li + 1) V w') (Kept (fun k => k = li ∨ k = li + 1)) [rV (.int .i64 (d : Int)), rV (.agg #[.int .i64 pk, .string (BA pt), .slice qa 0 qc, .bool pq]), rT, rT] (by kernel_rfl) ?c1 ?c2 ?c3)
              case c1 => exact ⟨HIN.out, ⟨la, ln, lc, HL.out⟩, (Kept.refl _ _).drew⟩
              case c2 =>
                refine csteps_free (by decide) (fun s a' w' hI hag hf K hK => ?_) ?_
                · have s10 := hag.same 10 (by decide)
                  clear hag
                  go_wp2_with fail
                  exact hK _ _ hI (Kept.refl _ _) rfl
                refine csteps_free (by decide) (fun s a' w' hI hag hf K hK => ?_) ?_
                · have s11 := hag.same 11 (by decide)
                  clear hag
                  have HI := Lw.hid hI
                  have hg := hI.2.2.heap HG1.out (fun e => by have h1 := HKQ.out; omega)
                  obtain ⟨⟨q0, q1, q2, q3⟩, -⟩ := PAt.cells hg
                  clear hI hg
                  go_wp2_with fail
                  exact hK _ _ HI.out (Kept.refl _ _) rfl
                refine csteps_hit 0 rfl (fun a' w' hI hag hf K hK => ?_) ?_
                · obtain ⟨⟨_, h0, rfl⟩, -⟩ : SFacts _ _ a' w' [0] := hf
                  have s8 := hag.same 8 (by decide)
                  clear hag
                  have HI := Lw.hid hI
                  have cc := heap_cell hI.1 0
                  have ff := heap_free hI.1 0
                  clear hI
                  go_wp2_with fail
                  exact hK undef _ ⟨heap_set HI.out.1 0 _, (by obtain ⟨la', ln', lc', h2⟩ := HI.out.2.1; exact ⟨la', ln', lc', ((Kept.refl (fun k => k = li) w').set li 0 (fun _ => rfl) _).heap h2 (by omega)⟩), HI.out.2.2.set li 0 (fun _ => .inl rfl) _⟩ ((Kept.refl (fun k => k = li ∨ k = li + 1) w').set li 0 (fun _ => .inl rfl) _) trivial
                refine csteps_hit 1 rfl (fun a' w' hI hag hf K hK => ?_) ?_
                · obtain ⟨⟨_, h1, rfl⟩, -⟩ : SFacts _ _ a' w' [1, 2, 0] := hf
                  have s9 := hag.same 9 (by decide)
                  clear hag
                  have HI := Lw.hid hI
                  obtain ⟨la', ln', lc', h2⟩ := hI.2.1
                  obtain ⟨⟨q0, q1, q2, q3⟩, ⟨f0, f1, f2, f3⟩⟩ := PAt.cells h2
                  have H2 := Lw.hid h2
                  clear hI h2
                  go_wp2_with fail
                  exact hK undef _ ⟨((((Kept.refl (fun k => k = li + 1) w').set (li + 1) 0 (fun _ => rfl) _).set (li + 1) 1 (fun _ => rfl) _).set (li + 1) 2 (fun _ => rfl) _ |>.set (li + 1) 3 (fun _ => rfl) _).heap HI.out.1 (by omega), ⟨qa, 0, qc, (((H2.out.setK _).setT _).setO _).setQ _⟩, (((HI.out.2.2.set (li + 1) 0 (fun _ => .inr rfl) _).set (li + 1) 1 (fun _ => .inr rfl) _).set (li + 1) 2 (fun _ => .inr rfl) _).set (li + 1) 3 (fun _ => .inr rfl) _⟩ (((((Kept.refl (fun k => k = li ∨ k = li + 1) w').set (li + 1) 0 (fun _ => .inr rfl) _).set (li + 1) 1 (fun _ => .inr rfl) _).set (li + 1) 2 (fun _ => .inr rfl) _).set (li + 1) 3 (fun _ => .inr rfl) _) trivial
                exact trivial
              case c3 =>
                intro vs w9 hI hvs
                have q0 : vs 0 = (.int .i64 (d : Int)) := hvs 0 _ _ rfl rfl
                have q1 : vs 1 = (.agg #[.int .i64 pk, .string (BA pt), .slice qa 0 qc, .bool pq]) := hvs 1 _ _ rfl rfl
                clear hvs
                simp only [List.take_succ_cons, List.take_zero, List.drop_succ_cons, List.drop_zero, putAll, Act.put, List.setIfInBounds_toArray, List.set_cons_zero, List.set_cons_succ, Nat.reduceAdd, q0, q1]
                clear q0 q1
                simp only [wpList]
                refine ⟨hI.2.2.keeps (fun k hk hr e => ?_), ⟨?_, ?_, HH.out.k.trans hI.2.2 (fun _ _ h => h), fun q hq => HXB.out q hq⟩⟩
                · rcases hr with h | h
                  · have h1 := HFL.out k h; omega
                  · have h1 := HXB.out k h; have h2 := HL7.out; omega
                · rw [HLI.out]; exact hI.1
                · rw [HLP.out]; exact hI.2.1
      case stop =>
        rintro X c pre D V hD hXD hXb hpre hne h hdf
        exact h.elim
      case done =>
        rintro X D V hD hXD hXb hi hdf
        have KV : Hid (Kept (fun _ => False) w V) := Lw.hid ((KC.out.trans K7.out (fun _ _ h => h)).trans hi.k (fun i hi2 e => by have := HLW.out; omega))
        have HRV : Hid (V.heap[B0]? = some (.cells #[.bool false] 4 (0, 0))) := Lw.hid (hi.k.heap (K7.out.heap HRC.out (fun h => h)) (by have := HLW.out; omega))
        have HVV : Hid (WAt V (fun q => B0 < q ∧ q < w1.heap.size) (.slice aa an ac) b) := Lw.hid ((HVC.out.kept K7.out (fun _ _ h => h)).kept hi.k (fun q hb e => by have := HLW.out; omega))
        have HST : Hid (BkL w V [D] V) := Lw.hid ⟨Kept.refl _ _, List.nodup_cons.2 ⟨by simp, List.nodup_nil⟩, fun d hd => by rw [List.mem_singleton.1 hd]; exact ⟨by have h1 := HLW.out; have h2 := HL7.out; omega, hdf⟩⟩
        have HWV : Hid (w1.heap.size ≤ V.heap.size) := Lw.hid (by have h1 := HLW.out; have h2 := HL7.out; have h3 := hi.k.size; omega)
        rw [hac.out]
        clear hac hdf hD hXD hXb hi HFL HSEQ HL7 HVC HBB HZ7 HBL HI0 HL0 HSC KC K7 HRC
        go_wp2_with fail
        refine wp_loop_ghost_k (fun gk a' V' => ∃ (k : Nat) (Ds : List Nat) (tm : Array Value), gk = an - k ∧ k ≤ an ∧ a' = { tmps := tm, defers := mk Ds } ∧ tm.size = 158 ∧ tm[2]? = some (.pointer (some ⟨B0, 0, none⟩)) ∧ tm[134]? = some (.slice aa an ac) ∧ tm[135]? = some (.int .i64 (an : Int)) ∧ tm[136]? = some (.int .i64 (k : Int)) ∧ BkL w V Ds V') an ⟨0, [D], _, rfl, Nat.zero_le _, rfl, rfl, rfl, rfl, rfl, rfl, HST.out⟩ ?_
        rintro gk a' wr ⟨k, Ds, tm, rfl, hk, rfl, htm, h2, h134, h135, h136, hbl⟩ Jg Kg hJg hKg
        obtain ⟨u, rfl⟩ := arr_xpd tm 158 htm
        have e2 : u 2 = .pointer (some ⟨B0, 0, none⟩) := Option.some.inj h2
        have e134 : u 134 = .slice aa an ac := Option.some.inj h134
        have e135 : u 135 = .int .i64 (an : Int) := Option.some.inj h135
        have e136 : u 136 = .int .i64 (k : Int) := Option.some.inj h136
        have hlit : (xpd u 158 0).toArray = #[u 0, u 1, u 2, u 3, u 4, u 5, u 6, u 7, u 8, u 9, u 10, u 11, u 12, u 13, u 14, u 15, u 16, u 17, u 18, u 19, u 20, u 21, u 22, u 23, u 24, u 25, u 26, u 27, u 28, u 29, u 30, u 31, u 32, u 33, u 34, u 35, u 36, u 37, u 38, u 39, u 40, u 41, u 42, u 43, u 44, u 45, u 46, u 47, u 48, u 49, u 50, u 51, u 52, u 53, u 54, u 55, u 56, u 57, u 58, u 59, u 60, u 61, u 62, u 63, u 64, u 65, u 66, u 67, u 68, u 69, u 70, u 71, u 72, u 73, u 74, u 75, u 76, u 77, u 78, u 79, u 80, u 81, u 82, u 83, u 84, u 85, u 86, u 87, u 88, u 89, u 90, u 91, u 92, u 93, u 94, u 95, u 96, u 97, u 98, u 99, u 100, u 101, u 102, u 103, u 104, u 105, u 106, u 107, u 108, u 109, u 110, u 111, u 112, u 113, u 114, u 115, u 116, u 117, u 118, u 119, u 120, u 121, u 122, u 123, u 124, u 125, u 126, u 127, u 128, u 129, u 130, u 131, u 132, u 133, u 134, u 135, u 136, u 137, u 138, u 139, u 140, u 141, u 142, u 143, u 144, u 145, u 146, u 147, u 148, u 149, u 150, u 151, u 152, u 153, u 154, u 155, u 156, u 157] := rfl
        rw [hlit, e2, e134, e135, e136]
        clear htm h2 h134 h135 h136 e2 e134 e135 e136 hlit
        have HJG := Lw.hid hJg; have HKG := Lw.hid hKg; have HB := Lw.hid hbl
        clear hJg hKg HST hbl
        have HVr : Hid (WAt wr (fun q => B0 < q ∧ q < w1.heap.size) (.slice aa an ac) b) := Lw.hid (HVV.out.kept HB.out.k (fun _ _ h => h))
        by_cases hlt : k < an
        · obtain ⟨p, hp⟩ : ∃ p, b[k]? = some p := ⟨_, List.getElem?_eq_getElem (by rw [← HAN.out]; exact hlt)⟩
          obtain ⟨b1, o1, oa, on, oc, e1, p0, p1, p2, p3, hao⟩ := HVr.out.elem.2 k p hp
          subst e1
          have hbl : b1 < wr.heap.size := World.block_lt_of_cell? wr _ p0
          have HGP := Lw.hid (HG.out.1 p (List.mem_of_getElem? hp))
          have hpsz : szL p.orw ≤ 1000000000 := by
            have h1 : szP p < szL b := szL_mem (List.mem_of_getElem? hp)
            have h2 := sizeOf_orw p
            have h3 := HSZ.out
            omega
          obtain ⟨pk, pt, po, pq⟩ := p
          dsimp only [Prt.kind, Prt.text, Prt.orw, Prt.quoted] at p0 p1 p3 hao hpsz
          have HPZ := Lw.hid hpsz
          obtain ⟨wp, hwp⟩ : ∃ wp, wr.alloc (.cells #[.int .i64 pk, .string (BA pt), .slice oa on oc, .bool pq] 46) = wp := ⟨_, rfl⟩
          have KP : Hid (Kept (fun _ => False) wr wp) := Lw.hid (by rw [← hwp]; exact (Kept.refl _ wr).alloc _)
          have HPP : Hid (PAt wp wr.heap.size pk pt (.slice oa on oc) pq) := Lw.hid (by rw [← hwp]; exact heap_alloc wr _)
          have HWP := Lw.hid hwp; have HAO := Lw.hid (hao.kept KP.out (fun _ _ h => h))
          clear hwp hp hao hpsz
          have hcase : ((pk == 3) = false) ∨ (pk = 3 ∧ pq = false) ∨ (pk = 3 ∧ pq = true) := by
            by_cases h3 : pk = 3
            · cases pq with
              | true => exact .inr (.inr ⟨h3, rfl⟩)
              | false => exact .inr (.inl ⟨h3, rfl⟩)
            · exact .inl (beq_eq_false_iff_ne.2 h3)
          rcases hcase with bk3 | ⟨rfl, rfl⟩ | ⟨rfl, rfl⟩
          · go_wp2_with fail
            refine HKG.out _ _ (Handed.intro (an - (k + 1)) (by omega) (HJG.out _ _ _ ⟨k + 1, Ds, _, rfl, hlt, rfl, rfl, rfl, rfl, rfl, by simp, HB.out.next ((Kept.refl _ wr).alloc _)⟩))
          · go_wp2_with fail
            refine HKG.out _ _ (Handed.intro (an - (k + 1)) (by omega) (HJG.out _ _ _ ⟨k + 1, Ds, _, rfl, hlt, rfl, rfl, rfl, rfl, rfl, by simp, HB.out.next ((Kept.refl _ wr).alloc _)⟩))
          · have HQA : Hid (∀ x ∈ allL po, x.2.quoted = true) := Lw.hid (dflt_quoted HGP.out rfl)
            obtain ⟨⟨r0, r1, r2, r3⟩, -⟩ := PAt.cells HPP.out
            go_wp2_with fail
            rw [HWP.out]
            refine (all_any wp oa on oc).mono ?_
            rintro x w8 ⟨B2, rfl, hb2, k8, hz8⟩
            have HB2 := Lw.hid hb2; have K8 := Lw.hid k8; have HZ8 := Lw.hid hz8; have HBL2 := Lw.hid (heap_lt hb2)
            clear hb2 k8 hz8 r0 r1 r2 r3
            go_wp2_with fail
            refine (safew_any w8 _ _ _).mono ?_
            rintro x w8 ⟨rfl, rfl⟩
            go_wp2_with fail
            refine wp_nm2 (fun ac2 hac => ?_)
            have HB8 := Lw.hid ((HB.out.next KP.out).next K8.out)
            have HFL : Hid (∀ q, (q = B2 ∨ (B0 < q ∧ q < w1.heap.size)) → q < w8.heap.size) := Lw.hid (fun q hb => by
              have h3 := HBL2.out; have h4 := HB8.out.k.size; have h5 := HWV.out
              rcases hb with rfl | hb <;> omega)
            have HSEQ := Lw.hid (all_iter (szL po) HPZ.out po w8 B2 (.slice oa on oc) (fun q => B0 < q ∧ q < w1.heap.size) (Nat.le_refl _) HB2.out (HAO.out.kept K8.out (fun _ _ h => h)) (fun q hb => HFL.out q (.inr hb)))
            refine wp_rangeE (gf := 64) (lb := #[.pointer (some ⟨B2, 0, none⟩)]) (by rw [hac.out]; rfl) (Go.Proofs.enters_of Tryd.func64 (by kernel_rfl) rfl)
              HSEQ.out (AE.mono _) (fun q hb => HFL.out q hb) (fun _ _ _ x A W h => by obtain ⟨_, _, _, rfl, _⟩ := h; rfl)
              (fun X pre V9 => Kept (fun _ => False) w8 V9 ∧ (∀ q, X q → w8.heap.size ≤ q)) (fun _ _ _ _ => False) ?_ ?_ ?_
              (fun X Xp q V9 => ∃ (kq : Nat) (qa : Option Addr) (qn qc : Nat), PAt V9 kq q.2.1.2.kind q.2.1.2.text (.slice qa qn qc) q.2.1.2.quoted ∧ ¬ X kq ∧ q.2.2 = { tmps := ((ac2.tmps.setIfInBounds 151 (.int .i64 (q.2.1.1 : Int))).setIfInBounds 152 (.agg #[.int .i64 q.2.1.2.kind, .string (BA q.2.1.2.text), .slice qa qn qc, .bool q.2.1.2.quoted])).setIfInBounds 15 (.pointer (some ⟨kq, 0, none⟩)), defers := [] }) ?_ ?assign2 ?body2 ?done2 ?stop2
            · rintro Y Y' s A A' ⟨h1, h2⟩ hk hx
              refine ⟨h1.trans hk (fun i hi hX => by have := h2 i hX; omega), fun q hb => ?_⟩
              rcases hx q hb with h3 | h3
              · exact h2 q h3
              · have := h1.size; omega
            · rintro c Y Y' s A A' h hk hx
              exact h
            · exact ⟨Kept.refl _ _, fun _ h => h.elim⟩
            · rintro Xa Xb Xp Xp' q A A' ⟨kq, qa, qn, qc, g1, g2, g5⟩ hk hx hp
              refine ⟨kq, qa, qn, qc, hk.heap g1 g2, fun h => ?_, g5⟩
              rcases hx kq h with h | h
              · exact g2 h
              · have := heap_lt g1; omega
            case assign2 =>
              rintro y Y Xp pre x A V9 K hi hXX ⟨qa, qn, qc, rfl, hwq⟩ hXb hpx hsz hK
              rw [hac.out] at hK ⊢
              have HI := Lw.hid hi; have HXB := Lw.hid hXb
              have KQ : Hid (Kept (fun _ => False) V9 (V9.alloc (.cells #[.int .i64 x.2.kind, .string (BA x.2.text), .slice qa qn qc, .bool x.2.quoted] 46))) := Lw.hid ((Kept.refl _ V9).alloc _)
              have HPQ : Hid (PAt (V9.alloc (.cells #[.int .i64 x.2.kind, .string (BA x.2.text), .slice qa qn qc, .bool x.2.quoted] 46)) V9.heap.size x.2.kind x.2.text (.slice qa qn qc) x.2.quoted) := Lw.hid (heap_alloc V9 _)
              clear hi hXb hwq
              gi_wp2
              have hi := HI.out
              exact hK _ _ (KQ.out.keeps (fun _ _ _ h => h)) ⟨hi.1.trans KQ.out (fun _ _ h => h), hi.2⟩ ⟨V9.heap.size, qa, qn, qc, HPQ.out, fun h => by have := (HXB.out _ (hXX _ h)).2; omega, rfl⟩
            case body2 =>
              rintro y Y Xp pre x a' V9 hi hXX ⟨kq, qa, qn, qc, g1, g2, hax⟩ hXb hpx hsz
              dsimp only at hax g1
              subst hax
              rw [hac.out]
              simp only [List.setIfInBounds_toArray, List.set_cons_zero, List.set_cons_succ]
              have hq := HQA.out x (hpx.subset (by simp))
              obtain ⟨⟨r0, r1, r2, r3⟩, -⟩ := PAt.cells g1
              rw [hq] at r3
              have HI := Lw.hid hi; have HXX := Lw.hid hXX
              clear hi hXX hXb hpx g1 hq r0 r1 r2
              gi_wp2_with fail
              exact ⟨Keeps.refl _ _, HI.out.1, fun q hq => HI.out.2 q (HXX.out q hq)⟩
            case stop2 =>
              rintro Y c pre D2 V9 hD2 hYD hYb hpre hne h hdf
              exact h.elim
            case done2 =>
              rintro Y D2 V9 hD2 hYD hYb ⟨h1, h2⟩ hdf
              have HB9 : Hid (BkL w V (D2 :: Ds) V9) := Lw.hid (by
                have h3 := HB8.out.next h1
                refine ⟨h3.k, List.nodup_cons.2 ⟨fun hd => ?_, h3.nd⟩, fun d hd => ?_⟩
                · have h4 := heap_lt (HB8.out.ds D2 hd).2; omega
                · rcases List.mem_cons.1 hd with rfl | hd
                  · exact ⟨by have h5 := HB8.out.k.size; have h6 := HWV.out; have h7 := HLW.out; omega, hdf⟩
                  · exact h3.ds d hd)
              rw [hac.out]
              clear hac hdf hD2 hYD hYb h1 h2
              go_wp2_with fail
              refine HKG.out _ _ (Handed.intro (an - (k + 1)) (by omega) (HJG.out _ _ _ ⟨k + 1, D2 :: Ds, _, rfl, hlt, rfl, rfl, rfl, rfl, rfl, by simp, HB9.out⟩))
        · have hke : k = an := by omega
          subst hke
          have KR := Lw.hid (KV.out.trans HB.out.k (fun _ _ h => h))
          go_wp2_with fail
          refine (wakes17_any _ (HEK.out _ KR.out)).mono ?_
          rintro x w9 ⟨rfl, k9⟩
          have HB9 := Lw.hid (HB.out.next k9); have K9 := Lw.hid (KR.out.trans k9 (fun _ _ h => h))
          have HR9 := Lw.hid (k9.heap (HB.out.k.heap HRV.out (fun h => h)) (fun h => h))
          clear k9
          have c0 := heap_cell HR9.out 0; have f0 := heap_free HR9.out 0
          go_wp2_with fail
          have hbd : ∀ d ∈ Ds, d ≠ B0 := fun d hd e => by
            have h1 := (HB9.out.ds d hd).2
            rw [e, HR9.out] at h1
            cases h1
          refine leaves_marks Ds _ HB9.out.nd (fun r hr => ((Kept.refl (fun k => k = B0) w9).set B0 0 (fun _ => rfl) _).heap (HB9.out.ds r hr).2 (hbd r hr)) (fun W9 hk9 => ?_)
          have hc : W9.cell? ⟨B0, 0, none⟩ = some (.bool true) := hk9.cell (heap_cell (heap_set HR9.out 0 _) 0) (fun h => hbd _ h rfl)
          refine ⟨.bool true, by simp [results, go_sem, hc], rfl, (K9.out.set B0 0 (fun h => by have := HB0.out; omega) _).trans hk9 (fun i hi h => ?_)⟩
          have := (HB9.out.ds i h).1
          omega
theorem wback_below (w : World) (s : ByteArray) (hE : WEnv w) (hs : s.size ≤ 9223372036854775807) :
    Calls Tryd.prog 9 #[.string s] w fun e w' => e = .returned (.bool true) ∧ Below w.heap.size w w' := by
  rw [BA_of s]
  exact (wback_any w s.data.toList hE (by rw [← BA_size, ← BA_of]; exact hs)).mono fun _ _ ⟨e, k⟩ => ⟨e, Below.of_kept k⟩
end Go.Proofs.YtifcgeanippepaaDoor
