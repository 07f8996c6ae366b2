/- longwirelaw15.framed, chance; bytes.Clone, HasPrefix. -/
import Derived.Test.YtfmebmaklakckaaDoorLogV
import Derived.Test.YtfmebmaklakckaaDoorSame
import Derived.Test.YtfmebmaklakckaaDoorCopy
import Derived.Lib.MinMax
namespace Go.Proofs.YtfmebmaklakckaaDoor
open Go Go.RowKit Go.Lw
set_option maxRecDepth 100000
set_option linter.unusedVariables false
set_option linter.unusedSimpArgs false
set_option maxHeartbeats 400000 in
theorem bclone_any (w : World) (src : Value) (l : List UInt8) (hs : RdB w src l) (hlen : l.length ≤ 70368744177664) :
    Calls Tryd.prog 29 #[src] w fun e w' => ∃ v, e = .returned v ∧ w'.ownsRow 0 5 1 v l.length (l.map bv) ∧ Kept (fun _ => False) w w' ∧ (∀ k, blk v k → w.heap.size ≤ k) := by
  obtain ⟨ad, cap, rfl, h1, h2, hc⟩ := hs.open
  cases ad with
  | none =>
    obtain rfl : l = [] := by
      cases l with
      | nil => rfl
      | cons c l => obtain ⟨g, off, e, _⟩ := hc 0 (by simp); cases e
    have heq := fun w => Lib.run_eql_slice_nil (P := Tryd.prog) w 38 5 none 0 cap 0 0 Tryd.underlying38
    go_enter Tryd.func29, Tryd.ntmps29
    go_wp2_with fail
    go_ret
    exact ⟨_, rfl, World.ownsRow_nil w 0 _ 1, Kept.refl _ _, fun k hk => by cases hk⟩
  | some ad =>
    have HS := Lw.hid hs
    clear hc hs
    have heq := fun w => Lib.run_eql_slice_nil (P := Tryd.prog) w 38 5 (some ad) l.length cap 0 0 Tryd.underlying38
    have ho : (w.alloc (.cells #[] 5)).ownsRow 0 5 1 (.slice (some ⟨w.heap.size, 0, none⟩) 0 0) 0 [] := World.ownsRow_lit w #[] 0 (Nat.zero_le _) (by unfold maxLen; omega) rfl
    go_enter Tryd.func29, Tryd.ntmps29
    go_wp2_with (at_builtin; refine wpList_app rfl _ _ _ rfl EB _ 0 _ rfl ho _ l.length _ rfl (Rd.alloc HS.out _) (bytes_oneCell l) (by unfold maxLen; omega) (by omega) ?_; intro ad' cap' w1 ho' hg hf)
    go_ret
    rw [Nat.zero_add] at ho' hf
    refine ⟨.slice ad' l.length cap', rfl, ho', ((Kept.refl _ w).alloc _).grown hg (fun k hk hl => ?_), fun k hk => ?_⟩
    · have e : k = w.heap.size := blk_some hk
      omega
    · rcases hf k hk with h | h
      · have e : k = w.heap.size := blk_some h
        omega
      · simp at h; omega
set_option maxHeartbeats 1000000 in
theorem bprefix_any (w : World) (x y : Value) (l m : List UInt8) (hx : RdB w x l) (hy : RdB w y m) (b : Bool) (hb : m.isPrefixOf l = b) :
    Calls Tryd.prog 50 #[x, y] w fun e w' => e = .returned (.bool b) ∧ w = w' := by
  obtain ⟨ad, cap, rfl, h1, h2, _⟩ := hx.open
  obtain ⟨ad', cap', rfl, h1', h2', _⟩ := hy.open
  unfold maxLen at h2 h2'
  have HX := Lw.hid hx; have HY := Lw.hid hy
  obtain ⟨L, hL⟩ : ∃ L, l.length = L := ⟨_, rfl⟩
  obtain ⟨M, hM⟩ : ∃ M, m.length = M := ⟨_, rfl⟩
  have HL := Lw.hid hL; have HM := Lw.hid hM
  rw [hL] at h1 HX ⊢; rw [hM] at h1' HY ⊢
  have HB := Lw.hid hb
  clear hx hy hb hL hM
  by_cases hle : M ≤ L
  · have hq : decide ((M : Int) ≤ (L : Int)) = true := by simp; omega
    have HT : Hid (RdB w (.slice ad M cap) (l.take M)) := Lw.hid (RdB.take HX.out M hle)
    have HQ : Hid ((l.take M == m) = b) := Lw.hid (by
      rw [← HB.out]
      rw [Bool.eq_iff_iff, beq_iff_eq, List.isPrefixOf_iff_prefix, List.prefix_iff_eq_take, HM.out, eq_comm])
    go_enter Tryd.func50, Tryd.ntmps50
    go_wp2_with fail
    refine (bequal_any w _ _ (l.take M) m HT.out HY.out b HQ.out).mono ?_
    rintro e _ ⟨rfl, rfl⟩
    cases b
    all_goals
      go_wp2_with fail
      go_ret
      exact ⟨rfl, rfl⟩
  · have hq : decide ((M : Int) ≤ (L : Int)) = false := by simp; omega
    have hbf : Hid (b = false) := Lw.hid (by
      rw [← HB.out, ← Bool.not_eq_true, List.isPrefixOf_iff_prefix]
      intro h
      have := h.length_le
      rw [HL.out, HM.out] at this; omega)
    go_enter Tryd.func50, Tryd.ntmps50
    go_wp2_with fail
    go_ret
    exact ⟨by rw [hbf.out]; rfl, rfl⟩
/-- What is framed so far. -/
def outF (L : List (List UInt8)) (k : Nat) : List UInt8 := match k with
  | 0 => []
  | j + 1 => frm (L.take j) (L.getD j [])
set_option maxHeartbeats 16000000 in
theorem framed_any (w : World) (va vp : Value) (A : List (List UInt8)) (p : List UInt8) (ha : RdBB w va A) (hp : RdB w vp p) (hA : ∀ q ∈ A, q.length ≤ 60) (hpl : p.length ≤ 60) (hAl : A.length ≤ 1000) (ht : Tab w) :
    Calls Tryd.prog 49 #[va, vp] w fun e w' => ∃ r, e = .returned r ∧ RdB w' r (frm A p) ∧ Kept (fun _ => False) w w' := by
  obtain ⟨vs, hrd, hvl, hall⟩ := ha
  obtain ⟨_, ad, cap, rfl, h1, h2, _⟩ := id hrd
  obtain ⟨adp, capp, rfl, _, _, _⟩ := hp.open
  have HRD := Lw.hid hrd; have HALL := Lw.hid hall; have HP := Lw.hid hp; have HT := Lw.hid ht; have HA := Lw.hid hA; have HVL := Lw.hid hvl
  obtain ⟨n, hn⟩ : ∃ n, A.length = n := ⟨_, rfl⟩
  have HN := Lw.hid hn
  obtain ⟨pl, hpe⟩ : ∃ pl, p.length = pl := ⟨_, rfl⟩
  have HPE := Lw.hid hpe
  rw [hn] at h1 HRD hAl ⊢; rw [hpe] at HP hpl ⊢
  unfold maxLen at h2
  clear hrd hall hp ht hA hvl hn hpe
  go_enter Tryd.func49, Tryd.ntmps49
  have HONE : Hid (∀ u ∈ vs, u.oneCell' = true) := Lw.hid (fun u hu => by
    obtain ⟨i, hi⟩ := List.mem_iff_getElem?.1 hu
    have hlt := (List.getElem?_eq_some_iff.1 hi).1
    obtain ⟨l, hl⟩ : ∃ l, A[i]? = some l := ⟨_, List.getElem?_eq_getElem (by rw [← HVL.out]; exact hlt)⟩
    obtain ⟨a, c, rfl, _⟩ := (HALL.out i u l hi hl).open
    rfl)
  go_wp2_with first
    | (at_builtin; refine wpList_app rfl _ _ _ rfl EL (.slice none 0 0) 0 [] rfl (World.ownsRow_nil _ 0 _ 1) (.slice ad n cap) n vs rfl HRD.out HONE.out (by unfold maxLen; omega) (by omega) ?_; intro ad1 cap1 w1 ho hg hf; simp only [Nat.zero_add, List.nil_append] at ho hf; have HO1 := Lw.hid ho; have K1 : Hid (Kept (fun _ => False) w w1) := Lw.hid ((Kept.refl _ w).grown hg (fun k e _ => by cases e)); have HF1 : Hid (∀ k, blk (.slice ad1 n cap1) k → w.heap.size ≤ k) := Lw.hid (fun k hk => (hf k hk).resolve_left (fun h => blk_none h)); clear ho hg hf; have e1 : Hid ((w1.alloc (.cells #[.slice adp pl capp] 38)).ownsRow 0 38 1 (.slice ad1 n cap1) n vs) := Lw.hid (own_kept ((Kept.refl (fun _ => False) w1).alloc _) HO1.out (fun _ _ h => h)))
    | (at_builtin; refine wpList_app rfl _ _ _ rfl EL (.slice ad1 n cap1) n vs rfl e1.out _ 1 _ rfl (Rd.lit w1 [.slice adp pl capp] 38 1 w1.heap.size 1 rfl rfl (by decide)) (oneS HP.out) (by unfold maxLen; omega) (by omega) ?_; intro ad2 cap2 w2 ho hg hf; have HO2 := Lw.hid ho; have K2 : Hid (Kept (fun _ => False) w w2) := Lw.hid (((K1.out.trans ((Kept.refl (fun _ => False) w1).alloc _) (fun _ _ h => h))).grown hg (fun k e hk => by have := HF1.out k e; omega)); clear ho hg hf)
  have HB2 : Hid (RdBB w2 (.slice ad2 (n + 1) cap2) (A ++ [p])) := Lw.hid ⟨vs ++ [.slice adp pl capp], by
    have := Rd.own HO2.out
    rw [show (A ++ [p]).length = n + 1 by rw [List.length_append, HN.out]; rfl]; exact this, by rw [List.length_append, List.length_append, HVL.out]; rfl, fun i u l hu hl => by
    by_cases hi : i < vs.length
    · rw [List.getElem?_append_left hi] at hu
      rw [List.getElem?_append_left (by rw [← HVL.out]; exact hi)] at hl
      exact (HALL.out i u l hu hl).kept K2.out (fun _ _ h => h)
    · rw [List.getElem?_append_right (by omega)] at hu
      rw [List.getElem?_append_right (by rw [← HVL.out]; omega), ← HVL.out] at hl
      cases hj : i - vs.length with
      | zero => rw [hj] at hu hl; simp at hu hl; subst hu; subst hl; exact HP.out.kept K2.out (fun _ _ h => h)
      | succ j => rw [hj] at hu; simp at hu⟩
  obtain ⟨L, hL⟩ : ∃ L, A ++ [p] = L := ⟨_, rfl⟩
  have HL := Lw.hid hL
  rw [hL] at HB2
  have HLl : Hid (L.length = n + 1) := Lw.hid (by rw [← hL, List.length_append, HN.out]; rfl)
  have HL60 : Hid (∀ q ∈ L, q.length ≤ 60) := Lw.hid (fun q hq => by
    rw [← hL] at hq
    rcases List.mem_append.1 hq with h | h
    · exact HA.out q h
    · rw [List.mem_singleton.1 h, HPE.out]; exact hpl)
  have HEL : Hid (∀ k, k ≤ n + 1 → (encF fz (L.take k)).length ≤ 1048576) := Lw.hid (fun k hk => by
    have h1 : ∀ (s : Fd) (L : List (List UInt8)), (∀ p ∈ L, p.length ≤ 60) → (encF s L).length ≤ 70 * L.length := by
      intro s L
      induction L generalizing s with
      | nil => intro _; exact Nat.le_refl _
      | cons p ps ih =>
        intro hL
        have h1 := ih (fdOf s p) (fun q hq => hL q (List.mem_cons_of_mem _ hq))
        have h2 := hL p List.mem_cons_self
        rw [encF, List.length_append, frameB_len]; simp only [List.length_cons]; omega
    have := h1 fz (L.take k) (fun q hq => HL60.out q (List.mem_of_mem_take hq))
    rw [List.length_take, HLl.out] at this
    have h3 : min k (n + 1) ≤ 1001 := by omega
    omega)
  clear hL HO1 HO2 e1 HONE
  go_loopg [5, 6, 19] (n + 1) (fun gk ss so si wr => ∃ k : Nat, gk = n + 1 - k ∧ k ≤ n + 1 ∧ si = .int .i64 (k : Int) ∧ ss = .int .u32 ((endF fz (L.take k)).sum : Int) ∧ Kept (fun _ => False) w2 wr ∧ RdB wr so (outF L k))
  case atStart => exact ⟨0, rfl, Nat.zero_le _, rfl, rfl, Kept.refl _ _, RdB.nil _⟩
  case round =>
    obtain ⟨k, rfl, hk, rfl, rfl, hkp, hso⟩ := hrel
    have HKP := Lw.hid hkp
    by_cases hlt : k < n + 1
    · obtain ⟨q, hq⟩ : ∃ q, L[k]? = some q := ⟨_, List.getElem?_eq_getElem (by rw [HLl.out]; exact hlt)⟩
      obtain ⟨gq, oq, u, rfl, cq, hu⟩ := (HB2.out.kept hkp).at hq
      obtain ⟨adq, capq, rfl, _, _, _⟩ := hu.open
      obtain ⟨ql, hql⟩ : ∃ ql, q.length = ql := ⟨_, rfl⟩
      have HQL := Lw.hid hql; have HQ := Lw.hid hq; have HU := Lw.hid hu
      have hq60 : ql ≤ 60 := by rw [← hql]; exact HL60.out q (List.mem_of_getElem? hq)
      rw [hql] at cq HU
      have hkd : decide ((k : Int) < (n : Int) + 1) = true := by simp; omega
      have i0 : (0 : Int) ≤ (k : Int) := by omega
      have i1 : (k : Int) < (n : Int) + 1 := by omega
      have hkn : k + 1 ≤ n + 1 := hlt
      have htl : (L.take k).length = k := by rw [List.length_take, HLl.out]; omega
      have hnx : nextN (endF fz (L.take k)) = k + 1 := by rw [(fz_num (HEL.out k hk)).2.2, htl]
      have hsum := sum_ok (L.take k)
      have HTS : Hid (L.take (k + 1) = L.take k ++ [q]) := Lw.hid (takeAt hq)
      obtain ⟨sm, hsm⟩ : ∃ sm, (endF fz (L.take k)).sum = sm := ⟨_, rfl⟩
      have HSM := Lw.hid hsm; have HNX := Lw.hid hnx
      rw [hsm] at hsum ⊢
      clear hkp hso hq hu hql htl hnx hsm
      go_wp2_with fail
      obtain ⟨w0, hw0⟩ : ∃ w0, (wr.alloc (.cells #[.slice none 0 0, .int .i64 0] 93)).alloc (.cells #[.slice none 0 0, .int .i64 0] 93) = w0 := ⟨_, rfl⟩
      obtain ⟨bw, hbw⟩ : ∃ bw, wr.heap.size = bw := ⟨_, rfl⟩
      have K0 : Hid (Kept (fun _ => False) wr w0) := Lw.hid (by rw [← hw0]; exact ((Kept.refl _ wr).alloc _).alloc _)
      have hb0 : w0.heap[bw]? = some (.cells #[.slice none 0 0, .int .i64 0] 93 (0, 0)) := by rw [← hw0, ← hbw]; exact heap_alloc_lt (heap_alloc wr _)
      have hb1 : w0.heap[bw + 1]? = some (.cells #[.slice none 0 0, .int .i64 0] 93 (0, 0)) := by
        have e := heap_alloc (wr.alloc (.cells #[.slice none 0 0, .int .i64 0] 93)) (.cells #[.slice none 0 0, .int .i64 0] 93)
        rw [hw0, World.size_alloc, hbw] at e; exact e
      have HBW := Lw.hid hbw; have HB1 := Lw.hid hb1
      have H0 : Hid (WriterAt w0 bw (.slice none 0 0) [] 0) := Lw.hid ⟨⟨_, hb0⟩, World.ownsRow_nil _ _ _ _, fun h => (blk_none h).elim⟩
      have HU0 := Lw.hid (HU.out.kept K0.out (fun _ _ h => h))
      have hul : Hid (∀ i, blk (.slice adq ql capq) i → q.length ≠ 0 → i < bw) := Lw.hid (fun i hi hn => by rw [← hbw]; exact HU.out.lt hn i hi)
      have hs0 : bw + 1 < w0.heap.size := (Array.getElem?_eq_some_iff.1 hb1).1
      rw [hw0, hbw]
      clear hw0 hbw hb0 hb1
      refine (four_any w0 bw (.slice none 0 0) [] _ sm rfl hsum H0.out (by simp)).mono ?_
      rintro e Hw1 ⟨rfl, hq⟩
      obtain ⟨Hv1, hw', hk', hf'⟩ := wr_step (Kept.refl _ w0) (fun k h => (blk_none h).elim) hq
      have H1 := Lw.hid hw'; have HK1 := Lw.hid hk'; have HF1 := Lw.hid hf'
      clear hq hw' hk' hf'
      go_wp2_with fail
      refine (four_any Hw1 bw Hv1 _ _ (k + 1) (by push_cast; rfl) (by omega) H1.out (by simp [be_length])).mono ?_
      rintro e Hw2 ⟨rfl, hq⟩
      obtain ⟨Hv2, hw', hk', hf'⟩ := wr_step HK1.out HF1.out hq
      have H2 := Lw.hid hw'; have HK2 := Lw.hid hk'; have HF2 := Lw.hid hf'
      clear hq hw' hk' hf'
      go_wp2_with fail
      refine (two_any Hw2 bw Hv2 _ _ ql rfl (by omega) H2.out (by simp [be_length])).mono ?_
      rintro e Hw3 ⟨rfl, hq⟩
      obtain ⟨Hv3, hw', hk', hf'⟩ := wr_step HK2.out HF2.out hq
      have H3 := Lw.hid hw'; have HK3 := Lw.hid hk'; have HF3 := Lw.hid hf'
      clear hq hw' hk' hf'
      go_wp2_with fail
      refine (byte_any Hw3 bw Hv3 _ _ q H3.out (HU0.out.keptE HK3.out (fun hn i hi e => by have e2 : i = bw := e; have := hul.out i hi hn; omega)) (by simp [be_length]; rw [HQL.out]; omega)).mono ?_
      rintro e Hw4 ⟨rfl, hq⟩
      obtain ⟨Hv4, hw', hk', hf'⟩ := wr_step HK3.out HF3.out hq
      have H4 := Lw.hid hw'; have HK4 := Lw.hid hk'; have HF4 := Lw.hid hf'
      clear hq hw' hk' hf'
      go_wp2_with fail
      obtain ⟨CB, hCB⟩ : ∃ CB, [] ++ be 4 sm ++ be 4 (k + 1) ++ be 2 ql ++ q = CB := ⟨_, rfl⟩
      have HCB : Hid (checkB sm (k + 1) q = CB ∧ CB.length ≤ 70000) := Lw.hid (by
        rw [← hCB]
        refine ⟨by unfold checkB; rw [HQL.out]; simp, by simp [be_length]; rw [HQL.out]; omega⟩)
      rw [hCB] at H4
      clear hCB
      refine (done_any Hw4 bw Hv4 _ H4.out (by have := HCB.out.2; omega)).mono ?_
      rintro e w5 ⟨r, rfl, v5, hw5, hk5, hf5, hr5, hb5⟩
      have K5 : Hid (Kept (fun i => i = bw) w0 w5) := Lw.hid (HK4.out.trans hk5 (fun i hi e => by
        rcases e with e | e
        · exact e
        · have := HF4.out i e; omega))
      have HR5 := Lw.hid (RdB.of_own hr5 rfl)
      clear hw5 hk5 hf5 hr5 hb5
      obtain ⟨ad5, cap5, e5, _, _, _⟩ := HR5.out.open
      obtain ⟨m5, hm5⟩ : ∃ m5, CB.length = m5 := ⟨_, rfl⟩
      rw [hm5] at e5
      clear hm5
      subst e5
      have HT5 : Hid (Tab w5) := Lw.hid (HT.out.below (((K2.out.trans HKP.out (fun _ _ h => h)).trans (K0.out.trans K5.out (fun i hi e => by have e2 : i = bw := e; have := HBW.out; omega)) (fun _ _ h => h)).below (Nat.le_refl _) (fun _ _ h => h)))
      go_wp2_with fail
      refine (crc_any _ _ w5 HR5.out HT5.out).mono ?_
      rintro e w6 ⟨rfl, rfl⟩
      obtain ⟨sm2, hsm2⟩ : ∃ sm2, crcN CB = sm2 := ⟨_, rfl⟩
      have HSM2 : Hid (checkN sm (k + 1) q = sm2) := Lw.hid (by unfold checkN; rw [HCB.out.1]; exact hsm2)
      have hsm29 : sm2 < 4294967296 := by rw [← hsm2]; exact crcN_lt _
      rw [hsm2]
      have G0 : Hid (WriterAt w5 (bw + 1) (.slice none 0 0) [] 0) := Lw.hid ⟨⟨_, K5.out.heap HB1.out (by omega)⟩, World.ownsRow_nil _ _ _ _, fun h => (blk_none h).elim⟩
      have HU5 := Lw.hid (HU0.out.keptE K5.out (fun hn i hi e => by have e2 : i = bw := e; have := hul.out i hi hn; omega))
      have hs5 := K5.out.size
      clear hsm2 H4 HF4 HK4 HR5
      go_wp2_with fail
      refine (two_any w5 (bw + 1) (.slice none 0 0) [] _ ql rfl (by omega) G0.out (by simp)).mono ?_
      rintro e Gw1 ⟨rfl, hq⟩
      obtain ⟨Gv1, hw', hk', hf'⟩ := wr_step (Kept.refl _ w5) (fun k h => (blk_none h).elim) hq
      have G1 := Lw.hid hw'; have GK1 := Lw.hid hk'; have GF1 := Lw.hid hf'
      clear hq hw' hk' hf'
      go_wp2_with fail
      refine (four_any Gw1 (bw + 1) Gv1 _ _ (k + 1) (by push_cast; rfl) (by omega) G1.out (by simp [be_length])).mono ?_
      rintro e Gw2 ⟨rfl, hq⟩
      obtain ⟨Gv2, hw', hk', hf'⟩ := wr_step GK1.out GF1.out hq
      have G2 := Lw.hid hw'; have GK2 := Lw.hid hk'; have GF2 := Lw.hid hf'
      clear hq hw' hk' hf'
      go_wp2_with fail
      refine (four_any Gw2 (bw + 1) Gv2 _ _ sm2 rfl hsm29 G2.out (by simp [be_length])).mono ?_
      rintro e Gw3 ⟨rfl, hq⟩
      obtain ⟨Gv3, hw', hk', hf'⟩ := wr_step GK2.out GF2.out hq
      have G3 := Lw.hid hw'; have GK3 := Lw.hid hk'; have GF3 := Lw.hid hf'
      clear hq hw' hk' hf'
      go_wp2_with fail
      refine (byte_any Gw3 (bw + 1) Gv3 _ _ q G3.out (HU5.out.keptE GK3.out (fun hn i hi e => by have e2 : i = bw + 1 := e; have := hul.out i hi hn; omega)) (by simp [be_length]; rw [HQL.out]; omega)).mono ?_
      rintro e Gw4 ⟨rfl, hq⟩
      obtain ⟨Gv4, hw', hk', hf'⟩ := wr_step GK3.out GF3.out hq
      have G4 := Lw.hid hw'; have GK4 := Lw.hid hk'; have GF4 := Lw.hid hf'
      clear hq hw' hk' hf'
      go_wp2_with fail
      obtain ⟨FB, hFB⟩ : ∃ FB, [] ++ be 2 ql ++ be 4 (k + 1) ++ be 4 sm2 ++ q = FB := ⟨_, rfl⟩
      have HFB : Hid (frm (L.take k) q = FB ∧ FB.length ≤ 70000) := Lw.hid (by
        rw [← hFB]
        refine ⟨?_, by simp [be_length]; rw [HQL.out]; omega⟩
        unfold frm
        rw [HNX.out, HSM.out, HSM2.out]
        unfold frameB
        rw [HQL.out]; simp)
      rw [hFB] at G4
      clear hFB
      refine (done_any Gw4 (bw + 1) Gv4 _ G4.out (by have := HFB.out.2; omega)).mono ?_
      rintro e w7 ⟨r7, rfl, v7, hw5, hk5, hf5, hr5, hb5⟩
      have K7 : Hid (Kept (fun i => i = bw + 1) w5 w7) := Lw.hid (GK4.out.trans hk5 (fun i hi e => by
        rcases e with e | e
        · exact e
        · have := GF4.out i e; omega))
      have HR7 := Lw.hid (RdB.of_own hr5 rfl)
      clear hw5 hk5 hf5 hr5 hb5
      obtain ⟨ad7, cap7, e7, _, _, _⟩ := HR7.out.open
      obtain ⟨m7, hm7⟩ : ∃ m7, FB.length = m7 := ⟨_, rfl⟩
      rw [hm7] at e7
      clear hm7
      subst e7
      have KA : Hid (Kept (fun _ => False) w2 w7) := Lw.hid (HKP.out.trans ((K0.out.trans K5.out (fun i hi e => by have e2 : i = bw := e; have := HBW.out; omega)).trans K7.out (fun i hi e => by have e2 : i = bw + 1 := e; have := HBW.out; omega)) (fun _ _ h => h))
      have HEND : Hid ((endF fz (L.take (k + 1))).sum = sm2) := Lw.hid (by
        rw [HTS.out, end_snoc]
        show checkN (endF fz (L.take k)).sum (nextN (endF fz (L.take k))) q = sm2
        rw [HNX.out, HSM.out, HSM2.out])
      have HOUT : Hid (outF L (k + 1) = FB) := Lw.hid (by
        show frm (L.take k) (L.getD k []) = FB
        rw [show L.getD k [] = q by rw [List.getD_eq_getElem?_getD, HQ.out]; rfl]
        exact HFB.out.1)
      clear G4 GF4 GK4
      go_wp2_with fail
      go_roundg (n + 1 - (k + 1))
      case measure => omega
      case rel => exact ⟨k + 1, rfl, hkn, by go_num, by rw [HEND.out], KA.out, by rw [HOUT.out]; exact HR7.out⟩
    · obtain rfl : k = n + 1 := by omega
      have hkd : decide (((n + 1 : Nat) : Int) < (n : Int) + 1) = false := by simp
      have HSO := Lw.hid hso
      clear hso
      obtain ⟨ado, capo, rfl, _, _, _⟩ := HSO.out.open
      have HOUT : Hid (outF L (n + 1) = frm A p) := Lw.hid (by
        show frm (L.take n) (L.getD n []) = frm A p
        rw [← HL.out, List.take_append_of_le_length (by rw [HN.out]; exact Nat.le_refl _), List.take_of_length_le (by rw [HN.out]; exact Nat.le_refl _), List.getD_eq_getElem?_getD, List.getElem?_append_right (by rw [HN.out]; exact Nat.le_refl _), HN.out, Nat.sub_self]; rfl)
      rw [HOUT.out] at HSO ⊢
      go_wp2_with fail
      go_ret
      exact ⟨_, rfl, HSO.out, K2.out.trans HKP.out (fun _ _ h => h)⟩
set_option maxHeartbeats 16000000 in
theorem chance_any (w : World) (va vl vq : Value) (A : List (List UInt8)) (last q : List UInt8) (bt : Nat) (ha : RdBB w va A) (hvl : RdB w vl last) (hvq : RdB w vq q) (hA : ∀ q ∈ A, q.length ≤ 60) (hll : last.length ≤ 60) (hql : q.length ≤ 60) (hAl : A.length ≤ 1000) (hbt : (bt : Int) ≤ 9223372036854775807) (ht : Tab w) :
    Calls Tryd.prog 30 #[va, vl, vq, .int .i64 (bt : Int)] w fun e w' => e = .returned (.bool (chanceB A last q (min bt (10 + last.length)))) ∧ Kept (fun _ => False) w w' := by
  have HA := Lw.hid ha; have HL := Lw.hid hvl; have HQ := Lw.hid hvq; have HA60 := Lw.hid hA; have HT := Lw.hid ht
  obtain ⟨ada, capa, rfl, _, _⟩ := ha.shape
  obtain ⟨adl, capl, rfl, _, _, _⟩ := hvl.open
  obtain ⟨adq, capq, rfl, _, _, _⟩ := hvq.open
  obtain ⟨na, hna⟩ : ∃ n, A.length = n := ⟨_, rfl⟩
  obtain ⟨nl, hnl⟩ : ∃ n, last.length = n := ⟨_, rfl⟩
  obtain ⟨nq, hnq⟩ : ∃ n, q.length = n := ⟨_, rfl⟩
  have HNA := Lw.hid hna; have HNL := Lw.hid hnl; have HNQ := Lw.hid hnq
  rw [hna] at HA hAl ⊢; rw [hnl] at HL hll ⊢; rw [hnq] at HQ hql ⊢
  clear ha hvl hvq hA ht hna hnl hnq
  obtain ⟨F, hF⟩ : ∃ F, frm A last = F := ⟨_, rfl⟩
  have HF := Lw.hid hF
  have hFl : F.length = 10 + nl := by rw [← hF, frm_len, HNL.out]
  obtain ⟨G, hG⟩ : ∃ G, frm A q = G := ⟨_, rfl⟩
  have HG := Lw.hid hG
  obtain ⟨fl, hfl⟩ : ∃ fl, F.length = fl := ⟨_, rfl⟩
  have HFL := Lw.hid hfl
  have hfle : fl = 10 + nl := by omega
  obtain ⟨m, hm⟩ : ∃ m, min bt fl = m := ⟨_, rfl⟩
  have hmi : max (min (bt : Int) (fl : Int)) 0 = (m : Int) := by omega
  have hml : m ≤ fl := by omega
  have HMM : Hid (min bt (10 + nl) = m) := Lw.hid (by omega)
  obtain ⟨i, hi, hz0, hz1, hz2⟩ := diskInfoB
  have HFLE := Lw.hid hfle
  have hfl70 : fl ≤ 70 := by omega
  clear hF hFl hG hfl hm hfle
  go_enter Tryd.func30, Tryd.ntmps30
  go_wp2_with fail
  refine (framed_any w _ _ A last HA.out HL.out HA60.out (by rw [HNL.out]; exact hll) (by rw [HNA.out]; exact hAl) HT.out).mono ?_
  rw [HF.out]
  rintro e w1 ⟨r, rfl, hr, k1⟩
  obtain ⟨adr, capr, rfl, hr1, hr2, _⟩ := hr.open
  have HR := Lw.hid hr; have K1 := Lw.hid k1
  rw [HFL.out] at HR hr1 ⊢
  unfold maxLen at hr2
  clear hr k1
  have HRT : Hid (RdB w1 (.slice adr m capr) (F.take m)) := Lw.hid (RdB.take HR.out m hml)
  have HTL : Hid ((F.take m).length = m) := Lw.hid (by rw [List.length_take, HFL.out]; omega)
  go_wp2_with first
    | (refine wpList_mkg rfl _ _ _ rfl Tryd.underlying38 hi hz0 hz1 hz2 .i64 .i64 (fl : Int) (fl : Int) fl rfl rfl rfl rfl (by omega) ?_; intro gz w2 hgz ho hk; have HO := Lw.hid ho; have HK2 := Lw.hid hk; have HGZ := Lw.hid hgz; have HRT2 := Lw.hid (HRT.out.kept hk (fun _ _ h => h)); clear hgz ho hk)
    | (refine wpList_copy rfl _ _ _ _ rfl EB (.slice (some ⟨gz, 0, none⟩) fl fl) fl ((List.replicate fl (0 : UInt8)).map bv) HO.out 0 (some ⟨gz, 0, none⟩) fl rfl (fun _ => ⟨gz, rfl, rfl⟩) (.slice adr m capr) m ((F.take m).map bv) rfl (rd_castL HTL.out HRT2.out) (bytes_oneCell _) (by omega) ?_; intro w3 ho hg; have HO3 := Lw.hid ho; have HG3 := Lw.hid hg; clear ho hg)
  have K3 : Hid (Kept (fun _ => False) w w3) := Lw.hid ((K1.out.trans HK2.out (fun _ _ h => h)).grown HG3.out (fun k e hk => by
    have h1 := HGZ.out
    have h2 := K1.out.size
    have e2 : gz = k := Option.some.inj e
    omega))
  have HTN : Hid (RdB w3 (.slice (some ⟨gz, 0, none⟩) fl fl) (tornB A last m)) := Lw.hid (by
    have h := Rd.own HO3.out
    unfold RdB
    have hl : (tornB A last m).length = fl := by unfold tornB; rw [List.length_append, HF.out, HTL.out, zeros_len, HNL.out, ← HFLE.out]; omega
    rw [hl]
    have hx : ((List.replicate fl (0 : UInt8)).map bv).take 0 ++ ((F.take m).map bv ++ ((List.replicate fl (0 : UInt8)).map bv).drop (0 + m)) = (tornB A last m).map bv := by
      unfold tornB zeros
      rw [List.take_zero, List.nil_append, Nat.zero_add, HF.out, List.map_append, ← List.map_drop, List.drop_replicate, HNL.out, ← HFLE.out]
    rw [hx] at h; exact h)
  have HQ3 := Lw.hid (HQ.out.kept K3.out (fun _ _ h => h)); have HA3 := Lw.hid (HA.out.kept K3.out)
  clear HO HO3 HRT HR
  refine (framed_any w3 _ _ A q HA3.out HQ3.out HA60.out (by rw [HNQ.out]; exact hql) (by rw [HNA.out]; exact hAl) (HT.out.below (K3.out.below (Nat.le_refl _) (fun _ _ h => h)))).mono ?_
  rw [HG.out]
  rintro e w4 ⟨r4, rfl, hr4, k4⟩
  obtain ⟨ad4, cap4, rfl, _, _, _⟩ := hr4.open
  obtain ⟨gl, hgl⟩ : ∃ gl, G.length = gl := ⟨_, rfl⟩
  have HG4 := Lw.hid hr4; have K4 := Lw.hid (K3.out.trans k4 (fun _ _ h => h)); have HTN4 := Lw.hid (HTN.out.kept k4 (fun _ _ h => h))
  have HGLe := Lw.hid hgl
  rw [hgl] at HG4 ⊢
  clear hr4 k4 hgl
  go_wp2_with fail
  refine (bequal_any w4 _ _ (tornB A last m) G HTN4.out HG4.out (tornB A last m == G) rfl).mono ?_
  rintro e _ ⟨rfl, rfl⟩
  have HCH : Hid (chanceB A last q m = ((tornB A last m == G) || (decide (nq < nl) && G.isPrefixOf (tornB A last m)))) := Lw.hid (by
    unfold chanceB
    rw [HG.out, HNQ.out, HNL.out])
  cases hc1 : tornB A last m == G with
  | true =>
    go_wp2_with fail
    go_ret
    exact ⟨by rw [HMM.out, HCH.out, hc1]; rfl, K4.out⟩
  | false =>
    by_cases hlt : nq < nl
    · have hd : decide ((nq : Int) < (nl : Int)) = true := by simp; omega
      have hd2 : decide (nq < nl) = true := by simp; omega
      have HQ4 := Lw.hid (HQ.out.kept K4.out (fun _ _ h => h)); have HA4 := Lw.hid (HA.out.kept K4.out)
      have HC1 := Lw.hid hc1
      clear hc1
      go_wp2_with fail
      refine (framed_any w4 _ _ A q HA4.out HQ4.out HA60.out (by rw [HNQ.out]; exact hql) (by rw [HNA.out]; exact hAl) (HT.out.below (K4.out.below (Nat.le_refl _) (fun _ _ h => h)))).mono ?_
      rw [HG.out]
      rintro e w5 ⟨r5, rfl, hr5, k5⟩
      obtain ⟨ad5, cap5, rfl, _, _, _⟩ := hr5.open
      have HG5 := Lw.hid hr5; have K5 := Lw.hid (K4.out.trans k5 (fun _ _ h => h)); have HTN5 := Lw.hid (HTN4.out.kept k5 (fun _ _ h => h))
      rw [HGLe.out] at HG5 ⊢
      clear hr5 k5
      go_wp2_with fail
      refine (bprefix_any w5 _ _ (tornB A last m) G HTN5.out HG5.out (G.isPrefixOf (tornB A last m)) rfl).mono ?_
      rintro e _ ⟨rfl, rfl⟩
      go_wp2_with fail
      go_ret
      exact ⟨by rw [HMM.out, HCH.out, HC1.out]; simp [hlt], K5.out⟩
    · have hd : decide ((nq : Int) < (nl : Int)) = false := by simp; omega
      have HC1 := Lw.hid hc1
      clear hc1
      go_wp2_with fail
      go_ret
      exact ⟨by rw [HMM.out, HCH.out, HC1.out]; simp [hlt], K4.out⟩
end Go.Proofs.YtfmebmaklakckaaDoor
