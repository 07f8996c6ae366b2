/- Of the proof of TopBooks: SB. -/
import Derived.Test.YtgegjjnfcnalfaaGreatDoorG34
import Derived.Test.YtgegjjnfcnalfaaGreatDoorG39
import Derived.Test.YtgegjjnfcnalfaaGreatDoorG40
import Derived.Test.YtgegjjnfcnalfaaGreatDoorG10
namespace Go.Proofs.YtgegjjnfcnalfaaGreatDoor
open Go Go.RowKit Go.Lw
set_option maxRecDepth 100000
set_option linter.unusedVariables false
set_option linter.unusedSimpArgs false
attribute [local go_sem] BA_toList
attribute [local go_sem] Oper.semAt_some
def OpPost (K : Nat) (w : World) (g : Nat) (v : Value) (D : Dsk) (rs : List Rc) (t : List UInt8) (e : Ending) (w' : World) : Prop :=
  ∃ v' j BL D' m, e = .returned (.tuple #[.pointer (some ⟨j, 0, none⟩), .int .i64 0]) ∧ JL w' (fun k => k = g ∨ blk v k ∨ w.heap.size ≤ k) j BL g v' D' (opnR rs) ∧ Rdt (K + 2) D' (opnR rs) (zeros m) ∧ D'.cap = D.cap ∧ Kept (fun k => k = g ∨ blk v k) w w' ∧ (∀ k, blk v' k → blk v k ∨ w.heap.size ≤ k) ∧ (t = [] → (runJ rs).opn = none → D' = D)
theorem fits6_o (w : World) (F : Nat → Prop) (j BL sp : Nat) (va : Value) (J : Jr) (h : JAt w F j BL va sp J) (id : Int) (t : List UInt8) (ch off num : Int) (sq : Option Addr) (a b d : Int) :
    Calls Tryz.prog 67 #[.pointer (some ⟨j, 0, none⟩), rv 6 id t ch off num sq a b d] w fun e w' => e = .returned (.int .i64 0) ∧ Kept (fun _ => False) w w' := by
  cases ho : J.opn with
  | none => exact fits6_no w F j BL sp va J h ho id t ch off num sq a b d
  | some c => obtain ⟨cs, hc, hov⟩ := opn_last ho; exact fits6_yes w F j BL sp va J h cs c hc hov id t ch off num sq a b d
set_option maxHeartbeats 32000000 in
theorem jopen_any (w : World) (g : Nat) (v : Value) (D : Dsk) (rs : List Rc) (t : List UInt8) (K : Nat) (h : DiskAt w g v D) (hd : Rdt K D rs t) (hde : Dead t) (hr : 89 * rs.length + 89 ≤ D.cap) (hk : K + 2 ≤ 1000000) (hn : rs.length < 100) (ht : Tab w) (hm : MLx w) (hgt : 0 ≠ g ∧ ¬ blk v 0 ∧ 1 ≠ g ∧ ¬ blk v 1) :
    Calls Tryz.prog 5 #[.pointer (some ⟨g, 0, none⟩)] w (OpPost K w g v D rs t) := by
  obtain ⟨D1, hrec, hd1, hcap1, hsame⟩ := hd.recd hde (by omega)
  have HSAME := Lw.hid hsame
  have H := Lw.hid h; have HT := Lw.hid ht; have HM := Lw.hid hm; have OK := Lw.hid hd.ok; have HREC := Lw.hid hrec; have HD1 := Lw.hid hd1; have HC1 := Lw.hid hcap1; have HGT := Lw.hid hgt
  have HLF := Lw.hid (hd.hold.lastF hde)
  have hgl := heap_lt h.box
  have HVL := Lw.hid (own_lt h.own)
  clear h ht hm hd hrec hd1 hcap1 hde hgt hsame
  refine calls_of_wp_marks Tryz.func5 rfl ?_
  simp only [Tryz.ntmps5, List.size_toArray, List.length_cons, List.length_nil, Nat.reduceAdd, Nat.reduceSub, Array.replicate_succ, Array.replicate_zero, List.push_toArray, List.append_toArray, List.nil_append, List.cons_append]
  go_wp2_with fail
  obtain ⟨wa, hwa⟩ : ∃ wa, (w.alloc (.cells #[.pointer none] 27)).alloc (.cells #[.int .i64 0] 24) = wa := ⟨_, rfl⟩
  obtain ⟨r2, hr2⟩ : ∃ r2, w.heap.size = r2 := ⟨_, rfl⟩
  have ka : Kept (fun _ => False) w wa := by rw [← hwa]; exact ((Kept.refl _ w).alloc _).alloc _
  have KA := Lw.hid ka
  have B2 : Hid (wa.heap[r2]? = some (.cells #[.pointer none] 27 (0, 0))) := Lw.hid (by rw [← hwa, ← hr2]; exact heap_alloc_lt (heap_alloc w _))
  have B3 : Hid (wa.heap[r2 + 1]? = some (.cells #[.int .i64 0] 24 (0, 0))) := Lw.hid (by
    have e := heap_alloc (w.alloc (.cells #[.pointer none] 27)) (.cells #[.int .i64 0] 24)
    rw [hwa, World.size_alloc, hr2] at e; exact e)
  have hza : wa.heap.size = r2 + 2 := by rw [← hwa, ← hr2]; simp
  rw [hwa, hr2]
  have HR2 := Lw.hid hr2
  clear hwa hr2 ka
  refine (recover_any wa g v D (H.out.kept KA.out (fun h => h) (fun _ _ h => h)) OK.out (HT.out.below (KA.out.below (Nat.le_refl _) (fun _ _ h => h)))).mono ?_
  rintro e w1 ⟨v1, hdk1, k1, f1, hres⟩
  rw [HREC.out] at hdk1 hres
  dsimp only at hdk1 hres
  obtain ⟨BL, rfl, hbl, hbl1, hbl2⟩ : ∃ BL, e = .returned (.tuple #[.pointer (some ⟨BL, 0, none⟩), .int .i64 0]) ∧ w1.heap[BL]? = some (logB g (lastF D.b)) ∧ wa.heap.size ≤ BL ∧ ¬ blk v1 BL := by
    rcases hres with ⟨h, -⟩ | ⟨-, h⟩
    · exact absurd rfl h
    · exact h
  rw [HLF.out] at hbl
  have hbr : ∀ k, (k = g ∨ blk v k) → k < w.heap.size := fun k hk => by
    rcases hk with e | e
    · rw [e]; exact hgl
    · exact HVL.out k e
  have L1 : Hid (LogAt w1 BL g v1 D1 (endF fz (pays rs))) := Lw.hid ⟨hbl, hdk1, by have := HR2.out; omega, hbl2⟩
  have B21 := Lw.hid (k1.heap B2.out (fun e => by have := hbr _ e; have := HR2.out; omega))
  have B31 := Lw.hid (k1.heap B3.out (fun e => by have := hbr _ e; have := HR2.out; omega))
  have K1 : Hid (Kept (fun k => k = g ∨ blk v k) w w1) := Lw.hid ((KA.out.mono (fun _ _ h => h.elim)).trans k1 (fun _ _ h => h))
  have F1 : Hid (∀ k, blk v1 k → blk v k ∨ r2 + 2 ≤ k) := Lw.hid (fun k hk => (f1 k hk).imp (fun h => h) (fun h => by omega))
  have HBL := Lw.hid (show r2 + 2 ≤ BL by omega)
  have hz1 : r2 + 2 ≤ w1.heap.size := by have := k1.size; omega
  clear hdk1 k1 f1 hres hbl hbl1 hbl2
  go_wp2_with fail
  refine (snew_any w1).mono ?_
  rintro e w2 ⟨sp0, rfl, hs2, k2⟩
  have S2 := Lw.hid (hs2.mono (G := fun b => w1.heap.size ≤ b ∧ b < w2.heap.size) (fun b hb h => ⟨h, hb⟩)); have K2 := Lw.hid (K1.out.trans k2 (fun _ _ h => h.elim))
  have L2 := Lw.hid (L1.out.kept k2 (fun h => h) (fun h => h) (fun _ _ h => h))
  have B22 := Lw.hid (k2.heap B21.out (fun h => h)); have B32 := Lw.hid (k2.heap B31.out (fun h => h))
  have hz2 := k2.size
  clear hs2 k2
  go_wp2_with fail
  obtain ⟨w3, hw3⟩ : ∃ w3, (w2.alloc (.cells #[.pointer (some ⟨BL, 0, none⟩), .slice none 0 0, .pointer (some ⟨sp0, 0, none⟩), .int .u32 0, .int .u32 0, .int .u32 0] 65)).alloc (.cells #[.pointer (some ⟨w2.heap.size, 0, none⟩)] 27) = w3 := ⟨_, rfl⟩
  obtain ⟨j, hj⟩ : ∃ j, w2.heap.size = j := ⟨_, rfl⟩
  have k3 : Kept (fun _ => False) w2 w3 := by rw [← hw3]; exact ((Kept.refl _ w2).alloc _).alloc _
  have hjb : w3.heap[j]? = some (jbox BL (.slice none 0 0) sp0 ⟨0, 0, 0⟩) := by rw [← hw3, ← hj]; exact heap_alloc_lt (heap_alloc w2 _)
  have B6 : Hid (w3.heap[j + 1]? = some (.cells #[.pointer (some ⟨j, 0, none⟩)] 27 (0, 0))) := Lw.hid (by
    have e := heap_alloc (w2.alloc (.cells #[.pointer (some ⟨BL, 0, none⟩), .slice none 0 0, .pointer (some ⟨sp0, 0, none⟩), .int .u32 0, .int .u32 0, .int .u32 0] 65)) (.cells #[.pointer (some ⟨w2.heap.size, 0, none⟩)] 27)
    rw [hw3, World.size_alloc, hj] at e; exact e)
  have hz3 : w3.heap.size = j + 2 := by rw [← hw3, ← hj]; simp
  rw [hw3, hj]
  have HJ2 := Lw.hid hj
  have J3 : Hid (JAt w3 (fun k => w1.heap.size ≤ k ∧ k ≤ j) j BL (.slice none 0 0) sp0 jz) := Lw.hid ⟨hjb, World.ownsRow_nil _ _ _ _, (S2.out.kept k3 (fun _ _ h => h)).mono (fun b hb h => ⟨⟨h.1, by omega⟩, by omega, fun e => blk_none e⟩), ⟨by omega, Nat.le_refl _⟩, fun k hk => (blk_none hk).elim⟩
  have K3 := Lw.hid (K2.out.trans k3 (fun _ _ h => h.elim))
  have L3 := Lw.hid (L2.out.kept k3 (fun h => h) (fun h => h) (fun _ _ h => h))
  have B23 := Lw.hid (k3.heap B22.out (fun h => h)); have B33 := Lw.hid (k3.heap B32.out (fun h => h))
  clear hw3 hj k3 hjb
  refine (lall_any w3 _).mono ?_
  rintro e w0 ⟨BB, rfl, hbb, k4, hlb⟩
  have hbbl := heap_lt hbb
  have J0 := Lw.hid (J3.out.kept k4 (fun _ _ h => h)); have K0 := Lw.hid (K3.out.trans k4 (fun _ _ h => h.elim)); have L0 := Lw.hid (L3.out.kept k4 (fun h => h) (fun h => h) (fun _ _ h => h))
  have B20 := Lw.hid (k4.heap B23.out (fun h => h)); have B30 := Lw.hid (k4.heap B33.out (fun h => h)); have B60 := Lw.hid (k4.heap B6.out (fun h => h))
  have T0 : Hid (Tab w0) := Lw.hid (fun i hi => K0.out.cell (HT.out i hi) (fun e => e.elim HGT.out.1 HGT.out.2.1))
  have ML0 := Lw.hid (HM.out.kept K0.out (fun e => e.elim HGT.out.2.2.1 HGT.out.2.2.2))
  have hz0 : j + 2 ≤ w0.heap.size := by have := k4.size; omega
  have IT : Hid (IterE Tryz.prog 56 #[.pointer (some ⟨BB, 0, none⟩)] AlE (AlR BB BL g v1) (logL D1 (endF fz (pays rs))) w0) := Lw.hid (all1_iter w0 BB BL g v1 D1 _ ⟨hbb, L0.out, T0.out⟩ (Nat.le_trans HD1.out.hold.m HD1.out.hold.c) HD1.out.hold.fin)
  have hLP : (logL D1 (endF fz (pays rs))).map Fd.p = pays rs := HD1.out.hold.logP
  have HLP := Lw.hid hLP
  have hxl : (logL D1 (endF fz (pays rs))).length = rs.length := by
    have := congrArg List.length hLP
    simpa [pays] using this
  obtain ⟨xs, hxs⟩ : ∃ xs, logL D1 (endF fz (pays rs)) = xs := ⟨_, rfl⟩
  rw [hxs] at IT HLP hxl
  obtain ⟨F0, hF0⟩ : ∃ F0 : Nat → Prop, F0 = fun k => w1.heap.size ≤ k ∧ k ≤ j := ⟨_, rfl⟩
  rw [← hF0] at J0
  have HF0 := Lw.hid hF0
  have F0L : Hid (∀ k, F0 k → k < w0.heap.size) := Lw.hid (fun k hk => by rw [hF0] at hk; omega)
  have RL : Hid (∀ k, AlR BB BL g v1 k → k < w0.heap.size ∧ ¬ F0 k) := Lw.hid (fun k hk => by
    rw [hF0]
    have hlb2 := heap_lt L1.out.box; have hlg2 := heap_lt L1.out.d.box; have hlv2 := own_lt L1.out.d.own
    have htl := World.block_lt_of_cell? w _ (HT.out 0 (by decide))
    have := K1.out.size
    have hjj := HJ2.out
    rcases hk with e | e | e | e | e
    · omega
    · omega
    · omega
    · have := hlv2 k e; omega
    · rw [e]; dsimp only at htl; omega)
  clear hbb k4 hLP hxs hF0
  go_wp2_with fail
  refine wp_nm (fun ac hac => ?_)
  refine wp_rangeE (gf := 56) (lb := #[.pointer (some ⟨BB, 0, none⟩)]) (by rw [hac.out]; rfl) (Go.Proofs.enters_of Tryz.func56 (by kernel_rfl) rfl)
    IT.out AlE.mono (fun k hk => (RL.out k hk).1) (fun _ _ _ x A W h => by obtain ⟨v, rfl, _⟩ := h; rfl)
    (fun X pre V => JoAt w0 F0 j BL X (rs.take pre.length) V ∧ pre.length ≤ rs.length)
    (fun c X pre V => False)
    ?_ ?_ ?_ (fun X Xp q V => ∃ vv, RdP w0.heap.size vv q.2.1.p X Xp V ∧ q.2.2 = { tmps := ((ac.tmps.setIfInBounds 26 (.int .u32 (q.2.1.num : Int))).setIfInBounds 27 vv).setIfInBounds 8 vv, defers := [] }) ?_ ?assign ?body ?done ?stop
  · rintro X X' s V V' ⟨h1, h2⟩ hk hx
    exact ⟨h1.ab hk hx, h2⟩
  · rintro c X X' s V V' h hk hx
    exact h
  · refine ⟨⟨Kept.refl _ _, fun k h => h.elim, F0, .slice none 0 0, sp0, ?_, fun k hk => ⟨.inl hk, fun h => h.elim, F0L.out k hk⟩⟩, Nat.zero_le _⟩
    exact J0.out
  · rintro X X' Xp Xp' s V V' ⟨vv, h1, h2⟩ hk hx hp
    exact ⟨vv, h1.ab hk hx hp, h2⟩
  case assign =>
    rintro y X Xp pre x A V K hi hXX ⟨vv, rfl, hrd, hbv⟩ hXb hpx hsz hK
    have hac' := hac.out
    rw [hac'] at hK ⊢
    have HRD := Lw.hid hrd; have HBV := Lw.hid hbv; have HI := Lw.hid hi
    clear hi hrd hbv
    gi_wp2
    exact hK _ _ (Keeps.refl _ _) HI.out ⟨vv, ⟨HRD.out, fun hn k hk => by have h1 := HBV.out hn k hk; exact ⟨by omega, h1.2⟩⟩, rfl⟩
  case body =>
    rintro y X Xp pre x a' V hi0 hXX ⟨vv, hrp, hax⟩ hXb hpx hsz
    obtain ⟨hi, hil⟩ := hi0
    dsimp only at hax hrp
    subst hax
    rw [hac.out]
    simp only [List.setIfInBounds_toArray, List.set_cons_zero, List.set_cons_succ]
    have hpl : pre.length < rs.length := by
      have := hpx.length_le
      simp at this; omega
    have hxp : x.p = (rs[pre.length]).bytes := by
      obtain ⟨tl, htl⟩ := hpx
      have h1 : (xs.map Fd.p)[pre.length]? = some x.p := by rw [← htl]; simp
      rw [HLP.out] at h1
      have h2 : (pays rs)[pre.length]? = some (rs[pre.length]).bytes := by simp [pays, hpl]
      rw [h2] at h1
      exact (Option.some.inj h1).symm
    have htk : rs.take (pre.length + 1) = rs.take pre.length ++ [rs[pre.length]] := take_snoc rs pre.length hpl
    have hfit : (rs[pre.length]).Fit (runJ (rs.take pre.length)) := HD1.out.good _ _ (by rw [← htk]; exact List.take_prefix _ _)
    have hgp : Good (rs.take pre.length) := HD1.out.good.of_prefix (List.take_prefix _ _)
    have hplen : (pre ++ [x]).length = pre.length + 1 := by simp
    obtain ⟨rc, hrc⟩ : ∃ rc, rs[pre.length] = rc := ⟨_, rfl⟩
    rw [hrc] at hxp htk hfit
    obtain ⟨ps, hps⟩ : ∃ ps, rs.take pre.length = ps := ⟨_, rfl⟩
    have hplm : ps.length ≤ 100 := by rw [← hps, List.length_take]; have := HD1.out.few; omega
    rw [hps] at hi hfit htk hgp
    obtain ⟨F, va, sp, hja, hfa⟩ := hi.m
    have HRD := Lw.hid hrp.rd
    have JV := Lw.hid hja; have FV := Lw.hid hfa
    have HI := Lw.hid hi; have HXB := Lw.hid hXb; have HXX := Lw.hid hXX; have HFIT := Lw.hid hfit; have HTK := Lw.hid htk; have HPL := Lw.hid hplen; have HGP := Lw.hid hgp
    rw [hxp] at HRD
    have JB := Lw.hid (hi.k.heap B60.out (fun e => by rw [HF0.out] at e; omega))
    have MLV := Lw.hid (ML0.out.kept hi.k (fun e => by
      rw [HF0.out] at e
      have htl := World.block_lt_of_cell? w _ HM.out.choose_spec
      have := K1.out.size
      dsimp only at htl; omega))
    have hz0v := hi.k.size
    have JB0 := heap_cell JB.out 0
    obtain ⟨J, hJe⟩ : ∃ J, runJ ps = J := ⟨_, rfl⟩
    have HJE := Lw.hid hJe
    rw [hJe] at JV HFIT
    have hjl : J.cs.length ≤ 100 := by rw [← hJe]; exact Nat.le_trans (runJ_len ps) hplm
    have HBND : Hid (Bnd ps.length J) := Lw.hid (by rw [← hJe]; exact HGP.out.bnd)
    have HRI : Hid (∀ (B : Nat → Prop) (V4 V5 : World), Kept (fun _ => False) V V4 → JPost V4 V5 B B j BL (rc.doJ J) → (∀ k, B k → F k ∨ V.heap.size ≤ k) → Keeps (fun k => AlR BB BL g v1 k ∨ X k) V V5 ∧ JoAt w0 F0 j BL X (rs.take (pre ++ [x]).length) V5 ∧ (pre ++ [x]).length ≤ rs.length) := Lw.hid (fun B V4 V5 kv hp hB => by
      rw [← hJe] at hp
      obtain ⟨h1, h2⟩ := JoAt.fin HI.out.k (fun k hk => (HXB.out k (HXX.out k hk)).1) HXX.out (fun k hk => (HXB.out k hk).2) FV.out kv hp hB F0L.out
      refine ⟨h2 _ RL.out, ?_, ?_⟩
      · rw [HPL.out, HTK.out]; exact h1
      · rw [HPL.out]; omega)
    clear hi hil hrp hja hfa hxp htk hfit hgp hplen hrc hps hac hpx hXb hXX hJe
    obtain ⟨adp, capp, hve, _, _, _⟩ := HRD.out.open
    obtain ⟨pl, hpl2⟩ : ∃ pl, rc.bytes.length = pl := ⟨_, rfl⟩
    rw [hpl2] at hve
    subst hve
    clear hpl2
    cases rc with
    | intent id t =>
      have hop := HFIT.out.1; have hid := HFIT.out.2.1; have htl := HFIT.out.2.2
      obtain ⟨nn, hnn⟩ : ∃ nn, J.cs.length = nn := ⟨_, rfl⟩
      have HNN := Lw.hid hnn
      rw [hnn] at hid hjl
      have hid2 := hid.symm
      clear hid
      subst hid2
      have HOP := Lw.hid hop
      clear hop hnn
      gi_wp2_with fail
      refine ⟨trivial, rfl, (callsIn_wide.2 (read1_any V _ (nn + 1) t (by omega) htl HRD.out)).mono ?_⟩
      rintro e V1 ⟨rfl, k1⟩
      have KV1 := Lw.hid k1
      unfold rv
      have jb1 := k1.cell JB0 (fun h => h)
      have JB1 := Lw.hid (k1.heap JB.out (fun h => h))
      clear k1 JB0
      obtain ⟨V2, hV2⟩ : ∃ V2, V1.alloc (.cells #[.int .u8 1, .int .u32 ((nn : Int) + 1), .string (BA t), .int .i64 0, .int .i64 0, .int .i64 0, .pointer none, .int .u32 0, .int .u32 0, .int .u32 0] 69) = V2 := ⟨_, rfl⟩
      obtain ⟨rr, hrr⟩ : ∃ rr, V1.heap.size = rr := ⟨_, rfl⟩
      have k2 : Kept (fun _ => False) V1 V2 := by rw [← hV2]; exact (Kept.refl _ V1).alloc _
      have KV2 := Lw.hid (KV1.out.trans k2 (fun _ _ h => h))
      have RB2 : Hid (V2.heap[rr]? = some (.cells #[.int .u8 1, .int .u32 ((nn : Int) + 1), .string (BA t), .int .i64 0, .int .i64 0, .int .i64 0, .pointer none, .int .u32 0, .int .u32 0, .int .u32 0] 69 (0, 0))) := Lw.hid (by rw [← hV2, ← hrr]; exact heap_alloc V1 _)
      have JB2 := Lw.hid (k2.heap JB1.out (fun h => h))
      have jv2 := JV.out.kept KV2.out (fun _ _ h => h)
      have FOL := Lw.hid (follows1 V2 F j BL sp va J jv2 nn HNN.out (by omega) t 0 0 0 none 0 0 0 (fun w9 k9 => fits1_no w9 F j BL sp va J (jv2.kept k9 (fun _ _ h => h)) HOP.out _ t 0 0 0 none 0 0 0 htl rfl))
      unfold rv at FOL
      have HV2 := Lw.hid hV2; have HRR := Lw.hid hrr
      have jb2 := k2.cell jb1 (fun h => h)
      rw [← hV2] at jb2
      clear jv2 k2
      clear hV2 hrr
      gi_wp2_with fail
      rw [HV2.out, HRR.out]
      refine ⟨trivial, rfl, (callsIn_wide.2 FOL.out).mono ?_⟩
      rintro e V3 ⟨rfl, k3⟩
      have KV3 := Lw.hid (KV2.out.trans k3 (fun _ _ h => h)); have RB3 := Lw.hid (k3.heap RB2.out (fun h => h)); have JB3 := Lw.hid (k3.heap JB2.out (fun h => h))
      clear k3 jb1 jb2
      gi_wp2_with fail
      refine wpIn_round_any (by kernel_rfl) (by kernel_rfl) (fun h => by obtain ⟨a, w, h⟩ := h; exact h) (wpAny_tailD 6 [stFM V3, stV (.pointer (some ⟨rr, 0, none⟩)), stV (.int .u8 1), stV (.func (.func 69) #[] #[]), stV (.pointer (some ⟨j, 0, none⟩)), stV (.agg #[.int .u8 1, .int .u32 ((nn : Int) + 1), .string (BA t), .int .i64 0, .int .i64 0, .int .i64 0, .pointer none, .int .u32 0, .int .u32 0, .int .u32 0])] (by kernel_rfl) ?_ ?_)
      · refine ssteps_cons (fun a' w' hI hag hf K hK => ?_) ?_
        · clear hag
          have HI9 := Lw.hid hI
          clear hI
          go_wp2_with fail
          refine (does_any w').mono ?_
          rintro e w6 ⟨bm, rfl, hm⟩
          have k6 := hm.kept
          have HM9 := Lw.hid hm
          clear hm
          go_wp2_with fail
          exact hK _ _ (HI9.out.trans k6 (fun _ _ h => h)) k6 ⟨bm, rfl, ⟨HM9.out.owns, Nat.le_trans HI9.out.size HM9.out.new, HI9.out.trans HM9.out.kept (fun _ _ h => h)⟩⟩
        iterate 2
          refine ssteps_cons (fun a' w' hI hag hf K hK => ?_) ?_
          · obtain ⟨⟨_, h0, rfl⟩, -⟩ := hf
            have s9 := hag.same 9 (by decide)
            clear hag
            have c0 := heap_cell (hI.heap RB3.out (fun h => h)) 0
            go_wp2_with fail
            exact hK _ _ hI (Kept.refl _ _) rfl
        refine ssteps_cons (fun a' w' hI hag hf K hK => ?_) ?_
        · obtain ⟨⟨v0, h0, e0⟩, ⟨_, h2, rfl⟩, -⟩ : SFacts _ _ a' w' [0, 2] := hf
          clear hag
          obtain ⟨bm, rfl, hm⟩ := e0
          have hlk := look_does hm 1 (by decide) _ rfl
          clear hm
          go_wp2_with fail
          exact hK _ _ hI (Kept.refl _ _) rfl
        iterate 2
          refine ssteps_cons (fun a' w' hI hag hf K hK => ?_) ?_
          · have s6 := hag.same 6 (by decide)
            have s9 := hag.same 9 (by decide)
            clear hag
            have cj := heap_cell (hI.heap JB3.out (fun h => h)) 0
            have c0 := heap_cell (hI.heap RB3.out (fun h => h)) 0
            have c1 := heap_cell (hI.heap RB3.out (fun h => h)) 1
            have c2 := heap_cell (hI.heap RB3.out (fun h => h)) 2
            have c3 := heap_cell (hI.heap RB3.out (fun h => h)) 3
            have c4 := heap_cell (hI.heap RB3.out (fun h => h)) 4
            have c5 := heap_cell (hI.heap RB3.out (fun h => h)) 5
            have c6 := heap_cell (hI.heap RB3.out (fun h => h)) 6
            have c7 := heap_cell (hI.heap RB3.out (fun h => h)) 7
            have c8 := heap_cell (hI.heap RB3.out (fun h => h)) 8
            have c9 := heap_cell (hI.heap RB3.out (fun h => h)) 9
            go_wp2_with fail
            exact hK _ _ hI (Kept.refl _ _) rfl
        exact trivial
      · intro vs wy hI hvs
        have q0 := hvs 0 _ _ rfl rfl
        simp only [pzz, putAll, Act.put, Nat.reduceAdd, spv (hvs 1 _ _ rfl rfl) rfl, spv (hvs 2 _ _ rfl rfl) rfl, spv (hvs 3 _ _ rfl rfl) rfl, spv (hvs 4 _ _ rfl rfl) rfl, spv (hvs 5 _ _ rfl rfl) rfl]
        clear hvs
        generalize vs 0 = x0 at *
        have KZ := Lw.hid (KV3.out.trans hI (fun _ _ h => h))
        clear hI q0
        have jz9 := JV.out.kept KZ.out (fun _ _ h => h)
        have DO := Lw.hid (begin_any wy F j BL sp va J jz9 (by rw [HNN.out]; omega) (nn + 1) t 0 0 0 none 0 0 0)
        unfold rv at DO
        clear jz9
        go_wp2_with fail
        refine DO.out.mono ?_
        rintro e V5 ⟨rfl, hp5⟩
        have HP5 := Lw.hid hp5
        clear hp5
        go_wp2_with fail
        gi_wp2_with fail
        exact HRI.out F wy V5 KZ.out (HP5.out.mono (fun k h => h) (fun k h => h)) (fun k h => .inl h)
    | output id two of t =>
      obtain ⟨hid, htn, htl, c, ho, hof⟩ := HFIT.out
      obtain ⟨cs, hcs, hov⟩ := opn_last ho
      obtain ⟨nn, hnn⟩ : ∃ nn, J.cs.length = nn := ⟨_, rfl⟩
      have HNN := Lw.hid hnn
      rw [hnn] at hid hjl
      have hid2 := hid.symm
      clear hid
      subst hid2
      have HO := Lw.hid ho; have HCS := Lw.hid hcs; have HOV := Lw.hid hov
      clear ho hcs hov hnn
      have hbn := HBND.out.o c (by rw [HCS.out]; simp)
      have HTN := Lw.hid htn
      clear htn
      have hob : of < 4294967296 := by rw [hof]; cases two <;> simp <;> omega
      cases two with
      | true =>
        have HOF : Hid (c.out.length = of) := Lw.hid hof.symm
        clear hof
        gi_wp2_with fail
        refine ⟨trivial, rfl, (callsIn_wide.2 (read22_any V _ nn of t (by omega) hob htl HRD.out)).mono ?_⟩
        rintro e V1 ⟨rfl, k1⟩
        have KV1 := Lw.hid k1
        unfold rv
        have jb1 := k1.cell JB0 (fun h => h)
        have JB1 := Lw.hid (k1.heap JB.out (fun h => h))
        clear k1 JB0
        obtain ⟨V2, hV2⟩ : ∃ V2, V1.alloc (.cells #[.int .u8 2, .int .u32 (nn : Int), .string (BA t), .int .i64 2, .int .i64 (of : Int), .int .i64 0, .pointer none, .int .u32 0, .int .u32 0, .int .u32 0] 69) = V2 := ⟨_, rfl⟩
        obtain ⟨rr, hrr⟩ : ∃ rr, V1.heap.size = rr := ⟨_, rfl⟩
        have k2 : Kept (fun _ => False) V1 V2 := by rw [← hV2]; exact (Kept.refl _ V1).alloc _
        have KV2 := Lw.hid (KV1.out.trans k2 (fun _ _ h => h))
        have RB2 : Hid (V2.heap[rr]? = some (.cells #[.int .u8 2, .int .u32 (nn : Int), .string (BA t), .int .i64 2, .int .i64 (of : Int), .int .i64 0, .pointer none, .int .u32 0, .int .u32 0, .int .u32 0] 69 (0, 0))) := Lw.hid (by rw [← hV2, ← hrr]; exact heap_alloc V1 _)
        have JB2 := Lw.hid (k2.heap JB1.out (fun h => h))
        have jv2 := JV.out.kept KV2.out (fun _ _ h => h)
        have FOL := Lw.hid (follows22 V2 F j BL sp va J jv2 nn HNN.out (by omega) cs c HCS.out HOV.out of HOF.out t 0 none 0 0 0 (fun w9 k9 => fits2_yesr w9 F j BL sp va J (jv2.kept k9 (fun _ _ h => h)) cs c HCS.out HOV.out _ t 2 of 0 none 0 0 0 rfl HTN.out htl (by omega)))
        unfold rv at FOL
        have HV2 := Lw.hid hV2; have HRR := Lw.hid hrr
        have jb2 := k2.cell jb1 (fun h => h)
        rw [← hV2] at jb2
        clear jv2 k2
        clear hV2 hrr
        gi_wp2_with fail
        rw [HV2.out, HRR.out]
        refine ⟨trivial, rfl, (callsIn_wide.2 FOL.out).mono ?_⟩
        rintro e V3 ⟨rfl, k3⟩
        have KV3 := Lw.hid (KV2.out.trans k3 (fun _ _ h => h)); have RB3 := Lw.hid (k3.heap RB2.out (fun h => h)); have JB3 := Lw.hid (k3.heap JB2.out (fun h => h))
        clear k3 jb1 jb2
        gi_wp2_with fail
        refine wpIn_round_any (by kernel_rfl) (by kernel_rfl) (fun h => by obtain ⟨a, w, h⟩ := h; exact h) (wpAny_tailD 6 [stFM V3, stV (.pointer (some ⟨rr, 0, none⟩)), stV (.int .u8 2), stV (.func (.func 70) #[] #[]), stV (.pointer (some ⟨j, 0, none⟩)), stV (.agg #[.int .u8 2, .int .u32 (nn : Int), .string (BA t), .int .i64 2, .int .i64 (of : Int), .int .i64 0, .pointer none, .int .u32 0, .int .u32 0, .int .u32 0])] (by kernel_rfl) ?_ ?_)
        · refine ssteps_cons (fun a' w' hI hag hf K hK => ?_) ?_
          · clear hag
            have HI9 := Lw.hid hI
            clear hI
            go_wp2_with fail
            refine (does_any w').mono ?_
            rintro e w6 ⟨bm, rfl, hm⟩
            have k6 := hm.kept
            have HM9 := Lw.hid hm
            clear hm
            go_wp2_with fail
            exact hK _ _ (HI9.out.trans k6 (fun _ _ h => h)) k6 ⟨bm, rfl, ⟨HM9.out.owns, Nat.le_trans HI9.out.size HM9.out.new, HI9.out.trans HM9.out.kept (fun _ _ h => h)⟩⟩
          iterate 2
            refine ssteps_cons (fun a' w' hI hag hf K hK => ?_) ?_
            · obtain ⟨⟨_, h0, rfl⟩, -⟩ := hf
              have s9 := hag.same 9 (by decide)
              clear hag
              have c0 := heap_cell (hI.heap RB3.out (fun h => h)) 0
              go_wp2_with fail
              exact hK _ _ hI (Kept.refl _ _) rfl
          refine ssteps_cons (fun a' w' hI hag hf K hK => ?_) ?_
          · obtain ⟨⟨v0, h0, e0⟩, ⟨_, h2, rfl⟩, -⟩ : SFacts _ _ a' w' [0, 2] := hf
            clear hag
            obtain ⟨bm, rfl, hm⟩ := e0
            have hlk := look_does hm 2 (by decide) _ rfl
            clear hm
            go_wp2_with fail
            exact hK _ _ hI (Kept.refl _ _) rfl
          iterate 2
            refine ssteps_cons (fun a' w' hI hag hf K hK => ?_) ?_
            · have s6 := hag.same 6 (by decide)
              have s9 := hag.same 9 (by decide)
              clear hag
              have cj := heap_cell (hI.heap JB3.out (fun h => h)) 0
              have c0 := heap_cell (hI.heap RB3.out (fun h => h)) 0
              have c1 := heap_cell (hI.heap RB3.out (fun h => h)) 1
              have c2 := heap_cell (hI.heap RB3.out (fun h => h)) 2
              have c3 := heap_cell (hI.heap RB3.out (fun h => h)) 3
              have c4 := heap_cell (hI.heap RB3.out (fun h => h)) 4
              have c5 := heap_cell (hI.heap RB3.out (fun h => h)) 5
              have c6 := heap_cell (hI.heap RB3.out (fun h => h)) 6
              have c7 := heap_cell (hI.heap RB3.out (fun h => h)) 7
              have c8 := heap_cell (hI.heap RB3.out (fun h => h)) 8
              have c9 := heap_cell (hI.heap RB3.out (fun h => h)) 9
              go_wp2_with fail
              exact hK _ _ hI (Kept.refl _ _) rfl
          exact trivial
        · intro vs wy hI hvs
          have q0 := hvs 0 _ _ rfl rfl
          simp only [pzz, putAll, Act.put, Nat.reduceAdd, spv (hvs 1 _ _ rfl rfl) rfl, spv (hvs 2 _ _ rfl rfl) rfl, spv (hvs 3 _ _ rfl rfl) rfl, spv (hvs 4 _ _ rfl rfl) rfl, spv (hvs 5 _ _ rfl rfl) rfl]
          clear hvs
          generalize vs 0 = x0 at *
          have KZ := Lw.hid (KV3.out.trans hI (fun _ _ h => h))
          clear hI q0
          have jz9 := JV.out.kept KZ.out (fun _ _ h => h)
          have he : (Rc.output nn true of t).doJ J = { J with cs := cs ++ [{ c with out := c.out ++ t }] } := by
            show ({ J with cs := modLast (Rc.mod (Rc.output nn true of t)) J.cs } : Jr) = _
            rw [HCS.out, modLast_snoc]; rfl
          have HE := Lw.hid he
          clear he
          have DO := Lw.hid (more2_any wy F j BL sp va J jz9 cs c HCS.out HOV.out nn t of 0 none 0 0 0 htl (by omega))
          unfold rv at DO
          clear jz9
          go_wp2_with fail
          refine DO.out.mono ?_
          rintro e V5 ⟨rfl, hp5⟩
          have HP5 := Lw.hid hp5
          clear hp5
          go_wp2_with fail
          gi_wp2_with fail
          exact HRI.out F wy V5 KZ.out (by rw [HE.out]; exact HP5.out) (fun k h => .inl h)
      | false =>
        have HOF : Hid (c.err.length = of) := Lw.hid hof.symm
        clear hof
        gi_wp2_with fail
        refine ⟨trivial, rfl, (callsIn_wide.2 (read23_any V _ nn of t (by omega) hob htl HRD.out)).mono ?_⟩
        rintro e V1 ⟨rfl, k1⟩
        have KV1 := Lw.hid k1
        unfold rv
        have jb1 := k1.cell JB0 (fun h => h)
        have JB1 := Lw.hid (k1.heap JB.out (fun h => h))
        clear k1 JB0
        obtain ⟨V2, hV2⟩ : ∃ V2, V1.alloc (.cells #[.int .u8 2, .int .u32 (nn : Int), .string (BA t), .int .i64 3, .int .i64 (of : Int), .int .i64 0, .pointer none, .int .u32 0, .int .u32 0, .int .u32 0] 69) = V2 := ⟨_, rfl⟩
        obtain ⟨rr, hrr⟩ : ∃ rr, V1.heap.size = rr := ⟨_, rfl⟩
        have k2 : Kept (fun _ => False) V1 V2 := by rw [← hV2]; exact (Kept.refl _ V1).alloc _
        have KV2 := Lw.hid (KV1.out.trans k2 (fun _ _ h => h))
        have RB2 : Hid (V2.heap[rr]? = some (.cells #[.int .u8 2, .int .u32 (nn : Int), .string (BA t), .int .i64 3, .int .i64 (of : Int), .int .i64 0, .pointer none, .int .u32 0, .int .u32 0, .int .u32 0] 69 (0, 0))) := Lw.hid (by rw [← hV2, ← hrr]; exact heap_alloc V1 _)
        have JB2 := Lw.hid (k2.heap JB1.out (fun h => h))
        have jv2 := JV.out.kept KV2.out (fun _ _ h => h)
        have FOL := Lw.hid (follows23 V2 F j BL sp va J jv2 nn HNN.out (by omega) cs c HCS.out HOV.out of HOF.out t 0 none 0 0 0 (fun w9 k9 => fits2_yesr w9 F j BL sp va J (jv2.kept k9 (fun _ _ h => h)) cs c HCS.out HOV.out _ t 3 of 0 none 0 0 0 rfl HTN.out htl (by omega)))
        unfold rv at FOL
        have HV2 := Lw.hid hV2; have HRR := Lw.hid hrr
        have jb2 := k2.cell jb1 (fun h => h)
        rw [← hV2] at jb2
        clear jv2 k2
        clear hV2 hrr
        gi_wp2_with fail
        rw [HV2.out, HRR.out]
        refine ⟨trivial, rfl, (callsIn_wide.2 FOL.out).mono ?_⟩
        rintro e V3 ⟨rfl, k3⟩
        have KV3 := Lw.hid (KV2.out.trans k3 (fun _ _ h => h)); have RB3 := Lw.hid (k3.heap RB2.out (fun h => h)); have JB3 := Lw.hid (k3.heap JB2.out (fun h => h))
        clear k3 jb1 jb2
        gi_wp2_with fail
        refine wpIn_round_any (by kernel_rfl) (by kernel_rfl) (fun h => by obtain ⟨a, w, h⟩ := h; exact h) (wpAny_tailD 6 [stFM V3, stV (.pointer (some ⟨rr, 0, none⟩)), stV (.int .u8 2), stV (.func (.func 70) #[] #[]), stV (.pointer (some ⟨j, 0, none⟩)), stV (.agg #[.int .u8 2, .int .u32 (nn : Int), .string (BA t), .int .i64 3, .int .i64 (of : Int), .int .i64 0, .pointer none, .int .u32 0, .int .u32 0, .int .u32 0])] (by kernel_rfl) ?_ ?_)
        · refine ssteps_cons (fun a' w' hI hag hf K hK => ?_) ?_
          · clear hag
            have HI9 := Lw.hid hI
            clear hI
            go_wp2_with fail
            refine (does_any w').mono ?_
            rintro e w6 ⟨bm, rfl, hm⟩
            have k6 := hm.kept
            have HM9 := Lw.hid hm
            clear hm
            go_wp2_with fail
            exact hK _ _ (HI9.out.trans k6 (fun _ _ h => h)) k6 ⟨bm, rfl, ⟨HM9.out.owns, Nat.le_trans HI9.out.size HM9.out.new, HI9.out.trans HM9.out.kept (fun _ _ h => h)⟩⟩
          iterate 2
            refine ssteps_cons (fun a' w' hI hag hf K hK => ?_) ?_
            · obtain ⟨⟨_, h0, rfl⟩, -⟩ := hf
              have s9 := hag.same 9 (by decide)
              clear hag
              have c0 := heap_cell (hI.heap RB3.out (fun h => h)) 0
              go_wp2_with fail
              exact hK _ _ hI (Kept.refl _ _) rfl
          refine ssteps_cons (fun a' w' hI hag hf K hK => ?_) ?_
          · obtain ⟨⟨v0, h0, e0⟩, ⟨_, h2, rfl⟩, -⟩ : SFacts _ _ a' w' [0, 2] := hf
            clear hag
            obtain ⟨bm, rfl, hm⟩ := e0
            have hlk := look_does hm 2 (by decide) _ rfl
            clear hm
            go_wp2_with fail
            exact hK _ _ hI (Kept.refl _ _) rfl
          iterate 2
            refine ssteps_cons (fun a' w' hI hag hf K hK => ?_) ?_
            · have s6 := hag.same 6 (by decide)
              have s9 := hag.same 9 (by decide)
              clear hag
              have cj := heap_cell (hI.heap JB3.out (fun h => h)) 0
              have c0 := heap_cell (hI.heap RB3.out (fun h => h)) 0
              have c1 := heap_cell (hI.heap RB3.out (fun h => h)) 1
              have c2 := heap_cell (hI.heap RB3.out (fun h => h)) 2
              have c3 := heap_cell (hI.heap RB3.out (fun h => h)) 3
              have c4 := heap_cell (hI.heap RB3.out (fun h => h)) 4
              have c5 := heap_cell (hI.heap RB3.out (fun h => h)) 5
              have c6 := heap_cell (hI.heap RB3.out (fun h => h)) 6
              have c7 := heap_cell (hI.heap RB3.out (fun h => h)) 7
              have c8 := heap_cell (hI.heap RB3.out (fun h => h)) 8
              have c9 := heap_cell (hI.heap RB3.out (fun h => h)) 9
              go_wp2_with fail
              exact hK _ _ hI (Kept.refl _ _) rfl
          exact trivial
        · intro vs wy hI hvs
          have q0 := hvs 0 _ _ rfl rfl
          simp only [pzz, putAll, Act.put, Nat.reduceAdd, spv (hvs 1 _ _ rfl rfl) rfl, spv (hvs 2 _ _ rfl rfl) rfl, spv (hvs 3 _ _ rfl rfl) rfl, spv (hvs 4 _ _ rfl rfl) rfl, spv (hvs 5 _ _ rfl rfl) rfl]
          clear hvs
          generalize vs 0 = x0 at *
          have KZ := Lw.hid (KV3.out.trans hI (fun _ _ h => h))
          clear hI q0
          have jz9 := JV.out.kept KZ.out (fun _ _ h => h)
          have he : (Rc.output nn false of t).doJ J = { J with cs := cs ++ [{ c with err := c.err ++ t }] } := by
            show ({ J with cs := modLast (Rc.mod (Rc.output nn false of t)) J.cs } : Jr) = _
            rw [HCS.out, modLast_snoc]; rfl
          have HE := Lw.hid he
          clear he
          have DO := Lw.hid (more3_any wy F j BL sp va J jz9 cs c HCS.out HOV.out nn t of 0 none 0 0 0 htl (by omega))
          unfold rv at DO
          clear jz9
          go_wp2_with fail
          refine DO.out.mono ?_
          rintro e V5 ⟨rfl, hp5⟩
          have HP5 := Lw.hid hp5
          clear hp5
          go_wp2_with fail
          gi_wp2_with fail
          exact HRI.out F wy V5 KZ.out (by rw [HE.out]; exact HP5.out) (fun k h => .inl h)
    | signal id n =>
      obtain ⟨hid, hn2, c, ho, hsg⟩ := HFIT.out
      obtain ⟨cs, hcs, hov⟩ := opn_last ho
      obtain ⟨nn, hnn⟩ : ∃ nn, J.cs.length = nn := ⟨_, rfl⟩
      have HNN := Lw.hid hnn
      rw [hnn] at hid hjl
      have hid2 := hid.symm
      clear hid
      subst hid2
      have HO := Lw.hid ho; have HCS := Lw.hid hcs; have HOV := Lw.hid hov
      clear ho hcs hov hnn
      have HSG := Lw.hid hsg
      clear hsg
      have hR3 : rightB 3 0 (n : Int) = true := by simp [rightB]; omega
      have HR3 := Lw.hid hR3
      clear hR3
      gi_wp2_with fail
      refine ⟨trivial, rfl, (callsIn_wide.2 (read3_any V _ nn n (by omega) hn2 HRD.out)).mono ?_⟩
      rintro e V1 ⟨rfl, k1⟩
      have KV1 := Lw.hid k1
      unfold rv
      have jb1 := k1.cell JB0 (fun h => h)
      have JB1 := Lw.hid (k1.heap JB.out (fun h => h))
      clear k1 JB0
      obtain ⟨V2, hV2⟩ : ∃ V2, V1.alloc (.cells #[.int .u8 3, .int .u32 (nn : Int), .string (BA []), .int .i64 0, .int .i64 0, .int .i64 (n : Int), .pointer none, .int .u32 0, .int .u32 0, .int .u32 0] 69) = V2 := ⟨_, rfl⟩
      obtain ⟨rr, hrr⟩ : ∃ rr, V1.heap.size = rr := ⟨_, rfl⟩
      have k2 : Kept (fun _ => False) V1 V2 := by rw [← hV2]; exact (Kept.refl _ V1).alloc _
      have KV2 := Lw.hid (KV1.out.trans k2 (fun _ _ h => h))
      have RB2 : Hid (V2.heap[rr]? = some (.cells #[.int .u8 3, .int .u32 (nn : Int), .string (BA []), .int .i64 0, .int .i64 0, .int .i64 (n : Int), .pointer none, .int .u32 0, .int .u32 0, .int .u32 0] 69 (0, 0))) := Lw.hid (by rw [← hV2, ← hrr]; exact heap_alloc V1 _)
      have JB2 := Lw.hid (k2.heap JB1.out (fun h => h))
      have jv2 := JV.out.kept KV2.out (fun _ _ h => h)
      have FOL := Lw.hid (follows3 V2 F j BL sp va J jv2 nn HNN.out (by omega) [] 0 0 n none 0 0 0 (fun w9 k9 => fits3_yesr w9 F j BL sp va J (jv2.kept k9 (fun _ _ h => h)) cs c HCS.out HOV.out _ [] 0 0 n none 0 0 0 HR3.out HSG.out))
      unfold rv at FOL
      have HV2 := Lw.hid hV2; have HRR := Lw.hid hrr
      have jb2 := k2.cell jb1 (fun h => h)
      rw [← hV2] at jb2
      clear jv2 k2
      clear hV2 hrr
      gi_wp2_with fail
      rw [HV2.out, HRR.out]
      refine ⟨trivial, rfl, (callsIn_wide.2 FOL.out).mono ?_⟩
      rintro e V3 ⟨rfl, k3⟩
      have KV3 := Lw.hid (KV2.out.trans k3 (fun _ _ h => h)); have RB3 := Lw.hid (k3.heap RB2.out (fun h => h)); have JB3 := Lw.hid (k3.heap JB2.out (fun h => h))
      clear k3 jb1 jb2
      gi_wp2_with fail
      refine wpIn_round_any (by kernel_rfl) (by kernel_rfl) (fun h => by obtain ⟨a, w, h⟩ := h; exact h) (wpAny_tailD 6 [stFM V3, stV (.pointer (some ⟨rr, 0, none⟩)), stV (.int .u8 3), stV (.func (.func 71) #[] #[]), stV (.pointer (some ⟨j, 0, none⟩)), stV (.agg #[.int .u8 3, .int .u32 (nn : Int), .string (BA []), .int .i64 0, .int .i64 0, .int .i64 (n : Int), .pointer none, .int .u32 0, .int .u32 0, .int .u32 0])] (by kernel_rfl) ?_ ?_)
      · refine ssteps_cons (fun a' w' hI hag hf K hK => ?_) ?_
        · clear hag
          have HI9 := Lw.hid hI
          clear hI
          go_wp2_with fail
          refine (does_any w').mono ?_
          rintro e w6 ⟨bm, rfl, hm⟩
          have k6 := hm.kept
          have HM9 := Lw.hid hm
          clear hm
          go_wp2_with fail
          exact hK _ _ (HI9.out.trans k6 (fun _ _ h => h)) k6 ⟨bm, rfl, ⟨HM9.out.owns, Nat.le_trans HI9.out.size HM9.out.new, HI9.out.trans HM9.out.kept (fun _ _ h => h)⟩⟩
        iterate 2
          refine ssteps_cons (fun a' w' hI hag hf K hK => ?_) ?_
          · obtain ⟨⟨_, h0, rfl⟩, -⟩ := hf
            have s9 := hag.same 9 (by decide)
            clear hag
            have c0 := heap_cell (hI.heap RB3.out (fun h => h)) 0
            go_wp2_with fail
            exact hK _ _ hI (Kept.refl _ _) rfl
        refine ssteps_cons (fun a' w' hI hag hf K hK => ?_) ?_
        · obtain ⟨⟨v0, h0, e0⟩, ⟨_, h2, rfl⟩, -⟩ : SFacts _ _ a' w' [0, 2] := hf
          clear hag
          obtain ⟨bm, rfl, hm⟩ := e0
          have hlk := look_does hm 3 (by decide) _ rfl
          clear hm
          go_wp2_with fail
          exact hK _ _ hI (Kept.refl _ _) rfl
        iterate 2
          refine ssteps_cons (fun a' w' hI hag hf K hK => ?_) ?_
          · have s6 := hag.same 6 (by decide)
            have s9 := hag.same 9 (by decide)
            clear hag
            have cj := heap_cell (hI.heap JB3.out (fun h => h)) 0
            have c0 := heap_cell (hI.heap RB3.out (fun h => h)) 0
            have c1 := heap_cell (hI.heap RB3.out (fun h => h)) 1
            have c2 := heap_cell (hI.heap RB3.out (fun h => h)) 2
            have c3 := heap_cell (hI.heap RB3.out (fun h => h)) 3
            have c4 := heap_cell (hI.heap RB3.out (fun h => h)) 4
            have c5 := heap_cell (hI.heap RB3.out (fun h => h)) 5
            have c6 := heap_cell (hI.heap RB3.out (fun h => h)) 6
            have c7 := heap_cell (hI.heap RB3.out (fun h => h)) 7
            have c8 := heap_cell (hI.heap RB3.out (fun h => h)) 8
            have c9 := heap_cell (hI.heap RB3.out (fun h => h)) 9
            go_wp2_with fail
            exact hK _ _ hI (Kept.refl _ _) rfl
        exact trivial
      · intro vs wy hI hvs
        have q0 := hvs 0 _ _ rfl rfl
        simp only [pzz, putAll, Act.put, Nat.reduceAdd, spv (hvs 1 _ _ rfl rfl) rfl, spv (hvs 2 _ _ rfl rfl) rfl, spv (hvs 3 _ _ rfl rfl) rfl, spv (hvs 4 _ _ rfl rfl) rfl, spv (hvs 5 _ _ rfl rfl) rfl]
        clear hvs
        generalize vs 0 = x0 at *
        have KZ := Lw.hid (KV3.out.trans hI (fun _ _ h => h))
        clear hI q0
        have jz9 := JV.out.kept KZ.out (fun _ _ h => h)
        have he : (Rc.signal nn n).doJ J = { J with cs := cs ++ [{ c with sig := (n : Int) }] } := by
          show ({ J with cs := modLast (Rc.mod (Rc.signal nn n)) J.cs } : Jr) = _
          rw [HCS.out, modLast_snoc]; rfl
        have HE := Lw.hid he
        clear he
        have DO := Lw.hid (stop_any wy F j BL sp va J jz9 cs c HCS.out HOV.out nn [] 0 0 n none 0 0 0)
        unfold rv at DO
        clear jz9
        go_wp2_with fail
        refine DO.out.mono ?_
        rintro e V5 ⟨rfl, hp5⟩
        have HP5 := Lw.hid hp5
        clear hp5
        go_wp2_with fail
        gi_wp2_with fail
        exact HRI.out F wy V5 KZ.out (by rw [HE.out]; exact HP5.out) (fun k h => .inl h)
    | fin id n t =>
      obtain ⟨hid, hn2, htl, c, ho⟩ := HFIT.out
      obtain ⟨cs, hcs, hov⟩ := opn_last ho
      obtain ⟨nn, hnn⟩ : ∃ nn, J.cs.length = nn := ⟨_, rfl⟩
      have HNN := Lw.hid hnn
      rw [hnn] at hid hjl
      have hid2 := hid.symm
      clear hid
      subst hid2
      have HO := Lw.hid ho; have HCS := Lw.hid hcs; have HOV := Lw.hid hov
      clear ho hcs hov hnn
      have hR3 : rightB 4 0 (n : Int) = true := by simp [rightB]; omega
      have HR3 := Lw.hid hR3
      clear hR3
      gi_wp2_with fail
      refine ⟨trivial, rfl, (callsIn_wide.2 (read4_any V _ nn n t (by omega) hn2 htl MLV.out HRD.out)).mono ?_⟩
      rintro e V1 ⟨gs, rfl, hs1, k1⟩
      have S1 := Lw.hid (hs1.mono (G := fun b => V.heap.size ≤ b ∧ b < V1.heap.size) (fun b hb h => ⟨h, hb⟩))
      clear hs1
      have KV1 := Lw.hid k1
      unfold rv
      have jb1 := k1.cell JB0 (fun h => h)
      have JB1 := Lw.hid (k1.heap JB.out (fun h => h))
      clear k1 JB0
      obtain ⟨V2, hV2⟩ : ∃ V2, V1.alloc (.cells #[.int .u8 4, .int .u32 (nn : Int), .string (BA []), .int .i64 0, .int .i64 0, .int .i64 (n : Int), .pointer (some ⟨gs, 0, none⟩), .int .u32 0, .int .u32 0, .int .u32 0] 69) = V2 := ⟨_, rfl⟩
      obtain ⟨rr, hrr⟩ : ∃ rr, V1.heap.size = rr := ⟨_, rfl⟩
      have k2 : Kept (fun _ => False) V1 V2 := by rw [← hV2]; exact (Kept.refl _ V1).alloc _
      have KV2 := Lw.hid (KV1.out.trans k2 (fun _ _ h => h)); have KW2 := Lw.hid k2
      have RB2 : Hid (V2.heap[rr]? = some (.cells #[.int .u8 4, .int .u32 (nn : Int), .string (BA []), .int .i64 0, .int .i64 0, .int .i64 (n : Int), .pointer (some ⟨gs, 0, none⟩), .int .u32 0, .int .u32 0, .int .u32 0] 69 (0, 0))) := Lw.hid (by rw [← hV2, ← hrr]; exact heap_alloc V1 _)
      have JB2 := Lw.hid (k2.heap JB1.out (fun h => h))
      have jv2 := JV.out.kept KV2.out (fun _ _ h => h)
      have FOL := Lw.hid (follows4 V2 F j BL sp va J jv2 nn HNN.out (by omega) [] 0 0 n (some ⟨gs, 0, none⟩) 0 0 0 (fun w9 k9 => fits4_yesr w9 F j BL sp va J (jv2.kept k9 (fun _ _ h => h)) cs c HCS.out HOV.out _ [] 0 0 n (some ⟨gs, 0, none⟩) 0 0 0 HR3.out))
      unfold rv at FOL
      have HV2 := Lw.hid hV2; have HRR := Lw.hid hrr
      have jb2 := k2.cell jb1 (fun h => h)
      rw [← hV2] at jb2
      clear jv2 k2
      clear hV2 hrr
      gi_wp2_with fail
      rw [HV2.out, HRR.out]
      refine ⟨trivial, rfl, (callsIn_wide.2 FOL.out).mono ?_⟩
      rintro e V3 ⟨rfl, k3⟩
      have KV3 := Lw.hid (KV2.out.trans k3 (fun _ _ h => h)); have KVB := Lw.hid (KW2.out.trans k3 (fun _ _ h => h)); have RB3 := Lw.hid (k3.heap RB2.out (fun h => h)); have JB3 := Lw.hid (k3.heap JB2.out (fun h => h))
      clear k3 jb1 jb2
      gi_wp2_with fail
      refine wpIn_round_any (by kernel_rfl) (by kernel_rfl) (fun h => by obtain ⟨a, w, h⟩ := h; exact h) (wpAny_tailD 6 [stFM V3, stV (.pointer (some ⟨rr, 0, none⟩)), stV (.int .u8 4), stV (.func (.func 72) #[] #[]), stV (.pointer (some ⟨j, 0, none⟩)), stV (.agg #[.int .u8 4, .int .u32 (nn : Int), .string (BA []), .int .i64 0, .int .i64 0, .int .i64 (n : Int), .pointer (some ⟨gs, 0, none⟩), .int .u32 0, .int .u32 0, .int .u32 0])] (by kernel_rfl) ?_ ?_)
      · refine ssteps_cons (fun a' w' hI hag hf K hK => ?_) ?_
        · clear hag
          have HI9 := Lw.hid hI
          clear hI
          go_wp2_with fail
          refine (does_any w').mono ?_
          rintro e w6 ⟨bm, rfl, hm⟩
          have k6 := hm.kept
          have HM9 := Lw.hid hm
          clear hm
          go_wp2_with fail
          exact hK _ _ (HI9.out.trans k6 (fun _ _ h => h)) k6 ⟨bm, rfl, ⟨HM9.out.owns, Nat.le_trans HI9.out.size HM9.out.new, HI9.out.trans HM9.out.kept (fun _ _ h => h)⟩⟩
        iterate 2
          refine ssteps_cons (fun a' w' hI hag hf K hK => ?_) ?_
          · obtain ⟨⟨_, h0, rfl⟩, -⟩ := hf
            have s9 := hag.same 9 (by decide)
            clear hag
            have c0 := heap_cell (hI.heap RB3.out (fun h => h)) 0
            go_wp2_with fail
            exact hK _ _ hI (Kept.refl _ _) rfl
        refine ssteps_cons (fun a' w' hI hag hf K hK => ?_) ?_
        · obtain ⟨⟨v0, h0, e0⟩, ⟨_, h2, rfl⟩, -⟩ : SFacts _ _ a' w' [0, 2] := hf
          clear hag
          obtain ⟨bm, rfl, hm⟩ := e0
          have hlk := look_does hm 4 (by decide) _ rfl
          clear hm
          go_wp2_with fail
          exact hK _ _ hI (Kept.refl _ _) rfl
        iterate 2
          refine ssteps_cons (fun a' w' hI hag hf K hK => ?_) ?_
          · have s6 := hag.same 6 (by decide)
            have s9 := hag.same 9 (by decide)
            clear hag
            have cj := heap_cell (hI.heap JB3.out (fun h => h)) 0
            have c0 := heap_cell (hI.heap RB3.out (fun h => h)) 0
            have c1 := heap_cell (hI.heap RB3.out (fun h => h)) 1
            have c2 := heap_cell (hI.heap RB3.out (fun h => h)) 2
            have c3 := heap_cell (hI.heap RB3.out (fun h => h)) 3
            have c4 := heap_cell (hI.heap RB3.out (fun h => h)) 4
            have c5 := heap_cell (hI.heap RB3.out (fun h => h)) 5
            have c6 := heap_cell (hI.heap RB3.out (fun h => h)) 6
            have c7 := heap_cell (hI.heap RB3.out (fun h => h)) 7
            have c8 := heap_cell (hI.heap RB3.out (fun h => h)) 8
            have c9 := heap_cell (hI.heap RB3.out (fun h => h)) 9
            go_wp2_with fail
            exact hK _ _ hI (Kept.refl _ _) rfl
        exact trivial
      · intro vs wy hI hvs
        have q0 := hvs 0 _ _ rfl rfl
        simp only [pzz, putAll, Act.put, Nat.reduceAdd, spv (hvs 1 _ _ rfl rfl) rfl, spv (hvs 2 _ _ rfl rfl) rfl, spv (hvs 3 _ _ rfl rfl) rfl, spv (hvs 4 _ _ rfl rfl) rfl, spv (hvs 5 _ _ rfl rfl) rfl]
        clear hvs
        generalize vs 0 = x0 at *
        have KZ := Lw.hid (KV3.out.trans hI (fun _ _ h => h))
        have hI' := hI
        clear hI q0
        have jz9 := JV.out.kept KZ.out (fun _ _ h => h)
        have hzz1 := KV1.out.size
        have SZ := Lw.hid (S1.out.kept ((KVB.out).trans hI' (fun _ _ h => h)) (fun _ _ h => h))
        have he : (Rc.fin nn n t).doJ J = { J with cs := cs ++ [{ c with status := (n : Int), over := true }], st := (n : Int), v := some t } := by
          show ({ J with cs := modLast (Rc.mod (Rc.fin nn n t)) J.cs, st := (n : Int), v := some t } : Jr) = _
          rw [HCS.out, modLast_snoc]; rfl
        have HE := Lw.hid he
        clear he
        have DO := Lw.hid (end_any wy F (fun k => V.heap.size ≤ k ∧ k < V1.heap.size) j BL sp gs va J jz9 (n : Int) (some t) SZ.out (fun k hk => ⟨by have := heap_lt JV.out.box; omega, fun e => by have := own_lt JV.out.row k e; omega⟩) cs c HCS.out HOV.out nn [] 0 0 n 0 0 0)
        unfold rv at DO
        clear jz9
        go_wp2_with fail
        refine DO.out.mono ?_
        rintro e V5 ⟨rfl, hp5⟩
        have HP5 := Lw.hid hp5
        clear hp5
        go_wp2_with fail
        gi_wp2_with fail
        exact HRI.out (fun k => F k ∨ (V.heap.size ≤ k ∧ k < V1.heap.size)) wy V5 KZ.out (by rw [HE.out]; exact HP5.out) (fun k h => h.imp (fun h => h) (fun h => h.1))
    | cut id =>
      obtain ⟨hid, c, ho⟩ := HFIT.out
      obtain ⟨cs, hcs, hov⟩ := opn_last ho
      obtain ⟨nn, hnn⟩ : ∃ nn, J.cs.length = nn := ⟨_, rfl⟩
      have HNN := Lw.hid hnn
      rw [hnn] at hid hjl
      have hid2 := hid.symm
      clear hid
      subst hid2
      have HO := Lw.hid ho; have HCS := Lw.hid hcs; have HOV := Lw.hid hov
      clear ho hcs hov hnn
      gi_wp2_with fail
      refine ⟨trivial, rfl, (callsIn_wide.2 (read5_any V _ nn (by omega) HRD.out)).mono ?_⟩
      rintro e V1 ⟨rfl, k1⟩
      have KV1 := Lw.hid k1
      unfold rv
      have jb1 := k1.cell JB0 (fun h => h)
      have JB1 := Lw.hid (k1.heap JB.out (fun h => h))
      clear k1 JB0
      obtain ⟨V2, hV2⟩ : ∃ V2, V1.alloc (.cells #[.int .u8 5, .int .u32 (nn : Int), .string (BA []), .int .i64 0, .int .i64 0, .int .i64 0, .pointer none, .int .u32 0, .int .u32 0, .int .u32 0] 69) = V2 := ⟨_, rfl⟩
      obtain ⟨rr, hrr⟩ : ∃ rr, V1.heap.size = rr := ⟨_, rfl⟩
      have k2 : Kept (fun _ => False) V1 V2 := by rw [← hV2]; exact (Kept.refl _ V1).alloc _
      have KV2 := Lw.hid (KV1.out.trans k2 (fun _ _ h => h))
      have RB2 : Hid (V2.heap[rr]? = some (.cells #[.int .u8 5, .int .u32 (nn : Int), .string (BA []), .int .i64 0, .int .i64 0, .int .i64 0, .pointer none, .int .u32 0, .int .u32 0, .int .u32 0] 69 (0, 0))) := Lw.hid (by rw [← hV2, ← hrr]; exact heap_alloc V1 _)
      have JB2 := Lw.hid (k2.heap JB1.out (fun h => h))
      have jv2 := JV.out.kept KV2.out (fun _ _ h => h)
      have FOL := Lw.hid (follows5 V2 F j BL sp va J jv2 nn HNN.out (by omega) [] 0 0 0 none 0 0 0 (fun w9 k9 => fits5_yes w9 F j BL sp va J (jv2.kept k9 (fun _ _ h => h)) cs c HCS.out HOV.out _ [] 0 0 0 none 0 0 0 rfl))
      unfold rv at FOL
      have HV2 := Lw.hid hV2; have HRR := Lw.hid hrr
      have jb2 := k2.cell jb1 (fun h => h)
      rw [← hV2] at jb2
      clear jv2 k2
      clear hV2 hrr
      gi_wp2_with fail
      rw [HV2.out, HRR.out]
      refine ⟨trivial, rfl, (callsIn_wide.2 FOL.out).mono ?_⟩
      rintro e V3 ⟨rfl, k3⟩
      have KV3 := Lw.hid (KV2.out.trans k3 (fun _ _ h => h)); have RB3 := Lw.hid (k3.heap RB2.out (fun h => h)); have JB3 := Lw.hid (k3.heap JB2.out (fun h => h))
      clear k3 jb1 jb2
      gi_wp2_with fail
      refine wpIn_round_any (by kernel_rfl) (by kernel_rfl) (fun h => by obtain ⟨a, w, h⟩ := h; exact h) (wpAny_tailD 6 [stFM V3, stV (.pointer (some ⟨rr, 0, none⟩)), stV (.int .u8 5), stV (.func (.func 73) #[] #[]), stV (.pointer (some ⟨j, 0, none⟩)), stV (.agg #[.int .u8 5, .int .u32 (nn : Int), .string (BA []), .int .i64 0, .int .i64 0, .int .i64 0, .pointer none, .int .u32 0, .int .u32 0, .int .u32 0])] (by kernel_rfl) ?_ ?_)
      · refine ssteps_cons (fun a' w' hI hag hf K hK => ?_) ?_
        · clear hag
          have HI9 := Lw.hid hI
          clear hI
          go_wp2_with fail
          refine (does_any w').mono ?_
          rintro e w6 ⟨bm, rfl, hm⟩
          have k6 := hm.kept
          have HM9 := Lw.hid hm
          clear hm
          go_wp2_with fail
          exact hK _ _ (HI9.out.trans k6 (fun _ _ h => h)) k6 ⟨bm, rfl, ⟨HM9.out.owns, Nat.le_trans HI9.out.size HM9.out.new, HI9.out.trans HM9.out.kept (fun _ _ h => h)⟩⟩
        iterate 2
          refine ssteps_cons (fun a' w' hI hag hf K hK => ?_) ?_
          · obtain ⟨⟨_, h0, rfl⟩, -⟩ := hf
            have s9 := hag.same 9 (by decide)
            clear hag
            have c0 := heap_cell (hI.heap RB3.out (fun h => h)) 0
            go_wp2_with fail
            exact hK _ _ hI (Kept.refl _ _) rfl
        refine ssteps_cons (fun a' w' hI hag hf K hK => ?_) ?_
        · obtain ⟨⟨v0, h0, e0⟩, ⟨_, h2, rfl⟩, -⟩ : SFacts _ _ a' w' [0, 2] := hf
          clear hag
          obtain ⟨bm, rfl, hm⟩ := e0
          have hlk := look_does hm 5 (by decide) _ rfl
          clear hm
          go_wp2_with fail
          exact hK _ _ hI (Kept.refl _ _) rfl
        iterate 2
          refine ssteps_cons (fun a' w' hI hag hf K hK => ?_) ?_
          · have s6 := hag.same 6 (by decide)
            have s9 := hag.same 9 (by decide)
            clear hag
            have cj := heap_cell (hI.heap JB3.out (fun h => h)) 0
            have c0 := heap_cell (hI.heap RB3.out (fun h => h)) 0
            have c1 := heap_cell (hI.heap RB3.out (fun h => h)) 1
            have c2 := heap_cell (hI.heap RB3.out (fun h => h)) 2
            have c3 := heap_cell (hI.heap RB3.out (fun h => h)) 3
            have c4 := heap_cell (hI.heap RB3.out (fun h => h)) 4
            have c5 := heap_cell (hI.heap RB3.out (fun h => h)) 5
            have c6 := heap_cell (hI.heap RB3.out (fun h => h)) 6
            have c7 := heap_cell (hI.heap RB3.out (fun h => h)) 7
            have c8 := heap_cell (hI.heap RB3.out (fun h => h)) 8
            have c9 := heap_cell (hI.heap RB3.out (fun h => h)) 9
            go_wp2_with fail
            exact hK _ _ hI (Kept.refl _ _) rfl
        exact trivial
      · intro vs wy hI hvs
        have q0 := hvs 0 _ _ rfl rfl
        simp only [pzz, putAll, Act.put, Nat.reduceAdd, spv (hvs 1 _ _ rfl rfl) rfl, spv (hvs 2 _ _ rfl rfl) rfl, spv (hvs 3 _ _ rfl rfl) rfl, spv (hvs 4 _ _ rfl rfl) rfl, spv (hvs 5 _ _ rfl rfl) rfl]
        clear hvs
        generalize vs 0 = x0 at *
        have KZ := Lw.hid (KV3.out.trans hI (fun _ _ h => h))
        clear hI q0
        have jz9 := JV.out.kept KZ.out (fun _ _ h => h)
        have he : (Rc.cut nn).doJ J = { J with cs := cs ++ [{ c with status := 125, over := true, cut := true }] } := by
          show ({ J with cs := modLast (Rc.mod (Rc.cut nn)) J.cs } : Jr) = _
          rw [HCS.out, modLast_snoc]; rfl
        have HE := Lw.hid he
        clear he
        have DO := Lw.hid (cut_any wy F j BL sp va J jz9 cs c HCS.out HOV.out nn [] 0 0 0 none 0 0 0)
        unfold rv at DO
        clear jz9
        go_wp2_with fail
        refine DO.out.mono ?_
        rintro e V5 ⟨rfl, hp5⟩
        have HP5 := Lw.hid hp5
        clear hp5
        go_wp2_with fail
        gi_wp2_with fail
        exact HRI.out F wy V5 KZ.out (by rw [HE.out]; exact HP5.out) (fun k h => .inl h)
    | mark m =>
      have hm1 := HFIT.out.1; have hm2 := HFIT.out.2.1; have hm3 := HFIT.out.2.2
      obtain ⟨nn, hnn⟩ : ∃ nn, J.cs.length = nn := ⟨_, rfl⟩
      have HNN := Lw.hid hnn
      rw [hnn] at hjl
      clear hnn
      gi_wp2_with fail
      refine ⟨trivial, rfl, (callsIn_wide.2 (read6_any V _ m.a m.b m.c hm1 hm2 hm3 HRD.out)).mono ?_⟩
      rintro e V1 ⟨rfl, k1⟩
      have KV1 := Lw.hid k1
      unfold rv
      have jb1 := k1.cell JB0 (fun h => h)
      have JB1 := Lw.hid (k1.heap JB.out (fun h => h))
      clear k1 JB0
      obtain ⟨V2, hV2⟩ : ∃ V2, V1.alloc (.cells #[.int .u8 6, .int .u32 0, .string (BA []), .int .i64 0, .int .i64 0, .int .i64 0, .pointer none, .int .u32 (m.a : Int), .int .u32 (m.b : Int), .int .u32 (m.c : Int)] 69) = V2 := ⟨_, rfl⟩
      obtain ⟨rr, hrr⟩ : ∃ rr, V1.heap.size = rr := ⟨_, rfl⟩
      have k2 : Kept (fun _ => False) V1 V2 := by rw [← hV2]; exact (Kept.refl _ V1).alloc _
      have KV2 := Lw.hid (KV1.out.trans k2 (fun _ _ h => h))
      have RB2 : Hid (V2.heap[rr]? = some (.cells #[.int .u8 6, .int .u32 0, .string (BA []), .int .i64 0, .int .i64 0, .int .i64 0, .pointer none, .int .u32 (m.a : Int), .int .u32 (m.b : Int), .int .u32 (m.c : Int)] 69 (0, 0))) := Lw.hid (by rw [← hV2, ← hrr]; exact heap_alloc V1 _)
      have JB2 := Lw.hid (k2.heap JB1.out (fun h => h))
      have jv2 := JV.out.kept KV2.out (fun _ _ h => h)
      have FOL := Lw.hid (follows6 V2 F j BL sp va J jv2 nn HNN.out (by omega) 0 [] 0 0 0 none m.a m.b m.c (fun w9 k9 => fits6_o w9 F j BL sp va J (jv2.kept k9 (fun _ _ h => h)) 0 [] 0 0 0 none m.a m.b m.c))
      unfold rv at FOL
      have HV2 := Lw.hid hV2; have HRR := Lw.hid hrr
      have jb2 := k2.cell jb1 (fun h => h)
      rw [← hV2] at jb2
      clear jv2 k2
      clear hV2 hrr
      gi_wp2_with fail
      rw [HV2.out, HRR.out]
      refine ⟨trivial, rfl, (callsIn_wide.2 FOL.out).mono ?_⟩
      rintro e V3 ⟨rfl, k3⟩
      have KV3 := Lw.hid (KV2.out.trans k3 (fun _ _ h => h)); have RB3 := Lw.hid (k3.heap RB2.out (fun h => h)); have JB3 := Lw.hid (k3.heap JB2.out (fun h => h))
      clear k3 jb1 jb2
      gi_wp2_with fail
      refine wpIn_round_any (by kernel_rfl) (by kernel_rfl) (fun h => by obtain ⟨a, w, h⟩ := h; exact h) (wpAny_tailD 6 [stFM V3, stV (.pointer (some ⟨rr, 0, none⟩)), stV (.int .u8 6), stV (.func (.func 74) #[] #[]), stV (.pointer (some ⟨j, 0, none⟩)), stV (.agg #[.int .u8 6, .int .u32 0, .string (BA []), .int .i64 0, .int .i64 0, .int .i64 0, .pointer none, .int .u32 (m.a : Int), .int .u32 (m.b : Int), .int .u32 (m.c : Int)])] (by kernel_rfl) ?_ ?_)
      · refine ssteps_cons (fun a' w' hI hag hf K hK => ?_) ?_
        · clear hag
          have HI9 := Lw.hid hI
          clear hI
          go_wp2_with fail
          refine (does_any w').mono ?_
          rintro e w6 ⟨bm, rfl, hm⟩
          have k6 := hm.kept
          have HM9 := Lw.hid hm
          clear hm
          go_wp2_with fail
          exact hK _ _ (HI9.out.trans k6 (fun _ _ h => h)) k6 ⟨bm, rfl, ⟨HM9.out.owns, Nat.le_trans HI9.out.size HM9.out.new, HI9.out.trans HM9.out.kept (fun _ _ h => h)⟩⟩
        iterate 2
          refine ssteps_cons (fun a' w' hI hag hf K hK => ?_) ?_
          · obtain ⟨⟨_, h0, rfl⟩, -⟩ := hf
            have s9 := hag.same 9 (by decide)
            clear hag
            have c0 := heap_cell (hI.heap RB3.out (fun h => h)) 0
            go_wp2_with fail
            exact hK _ _ hI (Kept.refl _ _) rfl
        refine ssteps_cons (fun a' w' hI hag hf K hK => ?_) ?_
        · obtain ⟨⟨v0, h0, e0⟩, ⟨_, h2, rfl⟩, -⟩ : SFacts _ _ a' w' [0, 2] := hf
          clear hag
          obtain ⟨bm, rfl, hm⟩ := e0
          have hlk := look_does hm 6 (by decide) _ rfl
          clear hm
          go_wp2_with fail
          exact hK _ _ hI (Kept.refl _ _) rfl
        iterate 2
          refine ssteps_cons (fun a' w' hI hag hf K hK => ?_) ?_
          · have s6 := hag.same 6 (by decide)
            have s9 := hag.same 9 (by decide)
            clear hag
            have cj := heap_cell (hI.heap JB3.out (fun h => h)) 0
            have c0 := heap_cell (hI.heap RB3.out (fun h => h)) 0
            have c1 := heap_cell (hI.heap RB3.out (fun h => h)) 1
            have c2 := heap_cell (hI.heap RB3.out (fun h => h)) 2
            have c3 := heap_cell (hI.heap RB3.out (fun h => h)) 3
            have c4 := heap_cell (hI.heap RB3.out (fun h => h)) 4
            have c5 := heap_cell (hI.heap RB3.out (fun h => h)) 5
            have c6 := heap_cell (hI.heap RB3.out (fun h => h)) 6
            have c7 := heap_cell (hI.heap RB3.out (fun h => h)) 7
            have c8 := heap_cell (hI.heap RB3.out (fun h => h)) 8
            have c9 := heap_cell (hI.heap RB3.out (fun h => h)) 9
            go_wp2_with fail
            exact hK _ _ hI (Kept.refl _ _) rfl
        exact trivial
      · intro vs wy hI hvs
        have q0 := hvs 0 _ _ rfl rfl
        simp only [pzz, putAll, Act.put, Nat.reduceAdd, spv (hvs 1 _ _ rfl rfl) rfl, spv (hvs 2 _ _ rfl rfl) rfl, spv (hvs 3 _ _ rfl rfl) rfl, spv (hvs 4 _ _ rfl rfl) rfl, spv (hvs 5 _ _ rfl rfl) rfl]
        clear hvs
        generalize vs 0 = x0 at *
        have KZ := Lw.hid (KV3.out.trans hI (fun _ _ h => h))
        clear hI q0
        have jz9 := JV.out.kept KZ.out (fun _ _ h => h)
        have DO := Lw.hid (note_any wy F j BL sp va J jz9 0 [] 0 0 0 none m.a m.b m.c)
        unfold rv at DO
        clear jz9
        go_wp2_with fail
        refine DO.out.mono ?_
        rintro e V5 ⟨rfl, hp5⟩
        have HP5 := Lw.hid hp5
        clear hp5
        go_wp2_with fail
        gi_wp2_with fail
        exact HRI.out F wy V5 KZ.out (HP5.out.mono (fun k h => h) (fun k h => h)) (fun k h => .inl h)
  case done =>
    rintro X D' V hD' hXD hXb ⟨hi, -⟩ hdf
    rw [hac.out]
    rw [hxl, List.take_of_length_le (Nat.le_refl _)] at hi
    obtain ⟨F, va, sp, hja, hfa⟩ := hi.m
    have JV := Lw.hid hja; have FV := Lw.hid hfa; have HI := Lw.hid hi; have HDF := Lw.hid hdf; have HXB := Lw.hid hXb
    have HNX : Hid (∀ k, k < w0.heap.size → ¬ F0 k → ∀ o, w0.heap[k]? = some o → V.heap[k]? = some o) := Lw.hid (fun k hk hf o ho => hi.k.heap ho hf)
    have jb := hi.k.heap B60.out (fun e => by rw [HF0.out] at e; omega)
    have JB := Lw.hid jb
    have BV2 := Lw.hid (hi.k.heap B20.out (fun e => by rw [HF0.out] at e; omega)); have BV3 := Lw.hid (hi.k.heap B30.out (fun e => by rw [HF0.out] at e; omega))
    have hzv := hi.k.size
    have hjj := HJ2.out
    have hk9 : K + 2 ≤ 1000000 := hk
    have hlb2 := heap_lt L1.out.box; have hlg2 := heap_lt L1.out.d.box
    have LV2 := Lw.hid (own_lt L1.out.d.own)
    have LV := Lw.hid (L0.out.kept hi.k (fun e => by rw [HF0.out] at e; omega) (fun e => by rw [HF0.out] at e; omega) (fun k hk e => by rw [HF0.out] at e; have := LV2.out k hk; omega))
    have TV : Hid (Tab V) := Lw.hid (fun i hi' => hi.k.cell (T0.out i hi') (fun e => by
      rw [HF0.out] at e
      have htl := World.block_lt_of_cell? w _ (HT.out i hi')
      have := K1.out.size
      dsimp only at htl e; omega))
    have KV : Hid (Kept (fun k => k = g ∨ blk v k) w V) := Lw.hid (K0.out.trans hi.k (fun i hi' e => by rw [HF0.out] at e; have := K1.out.size; omega))
    have j0 := heap_cell jb 0
    have HFD : Hid (∀ k, F k → k < V.heap.size ∧ k ≠ BL ∧ k ≠ g ∧ ¬ blk v1 k) := Lw.hid (fun k hk => by
      have h1 := hfa k hk
      rw [HF0.out] at h1
      refine ⟨h1.2.2, fun e => ?_, fun e => ?_, fun e => ?_⟩
      · rcases h1.1 with h | h <;> omega
      · rcases h1.1 with h | h <;> omega
      · have := LV2.out k e
        rcases h1.1 with h | h <;> omega)
    have HFW : Hid (∀ k, F k → w1.heap.size ≤ k ∧ k ≠ j + 1) := Lw.hid (fun k hk => by
      have h1 := (hfa k hk).1
      rw [HF0.out] at h1
      rcases h1 with h | h
      · omega
      · omega)
    have HV1 : Hid (∀ k, blk v1 k → blk v k ∨ w.heap.size ≤ k) := Lw.hid (fun k hk => (F1.out k hk).imp (fun h => h) (fun h => by have := HR2.out; omega))
    obtain ⟨B1, hB1⟩ : ∃ B1 : Nat → Prop, B1 = fun k => F k ∨ k = BL ∨ k = g ∨ blk v1 k := ⟨_, rfl⟩
    have HB1 := Lw.hid hB1
    have HAV : Hid (∀ k, (B1 k ∨ V.heap.size ≤ k) → k ≠ r2 ∧ k ≠ r2 + 1 ∧ k ≠ D' ∧ k ≠ j + 1) := Lw.hid (fun k hk => by
      have hdx := hXb D' hXD
      have e2 := HR2.out; have e3 := HBL.out
      have h1 := HFW.out k
      rcases hk with hk | hk
      · rw [hB1] at hk
        rcases hk with h | h | h | h
        · have h2 := h1 h
          exact ⟨by omega, by omega, fun e => (hfa k h).2.1 (by rw [e]; exact hXD), h2.2⟩
        · omega
        · omega
        · have h4 := LV2.out k h
          rcases F1.out k h with h5 | h5
          · have := HVL.out k h5; omega
          · omega
      · omega)
    have HBW : Hid (∀ k, k < w.heap.size → B1 k → k = g ∨ blk v k) := Lw.hid (fun k hk hb => by
      have e2 := HR2.out; have e3 := HBL.out
      rw [hB1] at hb
      rcases hb with h | h | h | h
      · have := (HFW.out k h).1; omega
      · omega
      · exact .inl h
      · rcases F1.out k h with h5 | h5
        · exact .inr h5
        · omega)
    have HBP : Hid (∀ k, B1 k → k = g ∨ blk v k ∨ w.heap.size ≤ k) := Lw.hid (fun k hb => by
      have e2 := HR2.out; have e3 := HBL.out
      rw [hB1] at hb
      rcases hb with h | h | h | h
      · have := (HFW.out k h).1; exact .inr (.inr (by omega))
      · exact .inr (.inr (by omega))
      · exact .inl h
      · rcases F1.out k h with h5 | h5
        · exact .inr (.inl h5)
        · exact .inr (.inr (by omega)))
    have JLV : Hid (JL V B1 j BL g v1 D1 rs) := Lw.hid ⟨⟨F, va, sp, JV.out, HFD.out, fun k hk => by rw [hB1]; exact .inl hk⟩, LV.out, fun k hk => by rw [hB1]; exact .inr hk⟩
    have hD9 := (hXb D' hXD).1
    obtain ⟨n, hnn⟩ : ∃ n, (runJ rs).cs.length = n := ⟨_, rfl⟩
    have HNN := Lw.hid hnn
    clear hB1
    have hn9 : n ≤ 100 := by rw [← hnn]; exact Nat.le_trans (runJ_len rs) HD1.out.few
    clear hja hfa hi hdf hXb jb hac hnn
    cases ho : (runJ rs).opn with
    | none =>
      have HO := Lw.hid ho
      have HRS : Hid (opnR rs = rs) := Lw.hid (by unfold opnR; rw [ho])
      clear ho
      go_wp2_with fail
      refine (jopen_no V F j BL sp va _ JV.out HO.out).mono ?_
      rintro e _ ⟨rfl, rfl⟩
      have b2c := heap_cell BV2.out 0; have b2f := heap_free BV2.out 0
      have hs2 := heap_set BV2.out 0 (.pointer (some ⟨j, 0, none⟩))
      have b3' := ((Kept.refl (fun k => k = r2) V).set r2 0 (fun _ => rfl) (.pointer (some ⟨j, 0, none⟩))).heap BV3.out (by omega)
      have b3c := heap_cell b3' 0; have b3f := heap_free b3' 0
      have hs3 := heap_set b3' 0 (.int .i64 0)
      have kR : Kept (fun k => k = r2 ∨ k = r2 + 1) V ((V.setCell ⟨r2, 0, none⟩ (.pointer (some ⟨j, 0, none⟩))).setCell ⟨r2 + 1, 0, none⟩ (.int .i64 0)) := ((Kept.refl (fun k => k = r2 ∨ k = r2 + 1) V).set r2 0 (fun _ => .inl rfl) _).set (r2 + 1) 0 (fun _ => .inr rfl) _
      have hb2' : ((V.setCell ⟨r2, 0, none⟩ (.pointer (some ⟨j, 0, none⟩))).setCell ⟨r2 + 1, 0, none⟩ (.int .i64 0)).heap[r2]? = some (.cells #[.pointer (some ⟨j, 0, none⟩)] 27 (0, 0)) := ((Kept.refl (fun k => k = r2 + 1) _).set (r2 + 1) 0 (fun _ => rfl) (.int .i64 0)).heap hs2 (by omega)
      have hb3' : ((V.setCell ⟨r2, 0, none⟩ (.pointer (some ⟨j, 0, none⟩))).setCell ⟨r2 + 1, 0, none⟩ (.int .i64 0)).heap[r2 + 1]? = some (.cells #[.int .i64 0] 24 (0, 0)) := hs3
      have HB2' := Lw.hid hb2'; have HB3' := Lw.hid hb3'; have KR := Lw.hid kR
      clear hs2 b3' hs3 kR hb2' hb3'
      go_wp2_with fail
      refine leaves_marks [D'] _ (by simp) (fun r hr => by rw [List.mem_singleton.1 hr]; exact KR.out.heap HDF.out (fun e => by omega)) (fun V' hk => ⟨.tuple #[.pointer (some ⟨j, 0, none⟩), .int .i64 0], ?_, ?_⟩)
      · have q2 := heap_cell (hk.heap HB2'.out (fun hm => by have := List.mem_singleton.1 hm; omega)) 0
        have q3 := heap_cell (hk.heap HB3'.out (fun hm => by have := List.mem_singleton.1 hm; omega)) 0
        simp [results, Tryz.results5, go_sem, q2, q3]
      · have KK : Kept (fun k => k = r2 ∨ k = r2 + 1 ∨ k = D') V V' := (KR.out.mono (fun i _ h => h.elim .inl (fun h => .inr (.inl h)))).trans hk (fun i _ hm => .inr (.inr (List.mem_singleton.1 hm)))
        refine ⟨v1, j, BL, D1, t.length, rfl, ?_, ?_, HC1.out, ?_, HV1.out, fun h _ => HSAME.out h⟩
        · rw [HRS.out]
          exact (JLV.out.kept KK (fun i hb e => by have := HAV.out i (.inl hb); rcases e with e | e | e <;> omega)).mono (fun i _ hb => HBP.out i hb)
        · rw [HRS.out]; exact ⟨HD1.out.hold, HD1.out.stop, HD1.out.plan, HD1.out.ok, HD1.out.good, HD1.out.few, Nat.le_succ_of_le HD1.out.puts, by have := HD1.out.np; omega, hk9⟩
        · exact KV.out.trans KK (fun i hi e => by have e2 := HR2.out; have := K1.out.size; rcases e with e | e | e <;> omega)
    | some c =>
      obtain ⟨cs, hcs, hov⟩ := opn_last ho
      obtain ⟨b0, cap, hva, _, _, _⟩ := JV.out.cell hcs
      have HCS := Lw.hid hcs; have HOV := Lw.hid hov; have HVA := Lw.hid hva
      have HRS : Hid (opnR rs = rs ++ [.cut n]) := Lw.hid (by unfold opnR; rw [ho, HNN.out])
      have HCF : Hid ((Rc.cut n).Fit (runJ rs)) := Lw.hid ⟨HNN.out.symm, c, ho⟩
      have HOPN := Lw.hid ho
      clear ho hcs hov hva
      go_wp2_with fail
      refine (jopen_yes V F j BL sp va _ JV.out cs c HCS.out HOV.out b0 cap HVA.out).mono ?_
      rintro e _ ⟨rfl, rfl⟩
      go_wp2_with fail
      have HMD : Hid (n % 4294967296 = n) := Lw.hid (Nat.mod_eq_of_lt (by omega))
      have hk9 : K + 2 ≤ 1000000 := hk
      refine wp_region_tailD 4 [stV (.pointer (some ⟨j, 0, none⟩)), stV (.pointer (some ⟨j, 0, none⟩)), stV (.int .u32 (n : Int)), stV (.agg #[.int .u8 5, .int .u32 (n : Int), .string ⟨#[]⟩, .int .i64 0, .int .i64 0, .int .i64 0, .pointer none, .int .u32 0, .int .u32 0, .int .u32 0])] (by kernel_rfl) (by kernel_rfl) ?_ ?_
      · iterate 2
          refine ssteps_cons (fun a' w' hI hag hf K hK => ?_) ?_
          · have s6 := hag.same 6 (by decide)
            clear hag
            have cj := heap_cell (hI.heap JB.out (fun h => h)) 0
            go_wp2_with fail
            exact hK _ _ hI (Kept.refl _ _) rfl
        refine ssteps_cons (fun a' w' hI hag hf K hK => ?_) ?_
        · obtain ⟨⟨_, h1, rfl⟩, -⟩ : SFacts _ _ a' w' [1] := hf
          clear hag
          have HI9 := Lw.hid hI
          clear hI
          go_wp2_with fail
          refine (jlast_any w' F j BL sp va _ (JV.out.kept HI9.out (fun _ _ h => h))).mono ?_
          rw [HNN.out, HMD.out]
          rintro e w4 ⟨rfl, rfl⟩
          go_wp2_with fail
          exact hK _ _ HI9.out (Kept.refl _ _) rfl
        refine ssteps_cons (fun a' w' hI hag hf K hK => ?_) ?_
        · obtain ⟨⟨_, h0, rfl⟩, -⟩ := hf
          clear hag
          go_wp2_with fail
          exact hK _ _ hI (Kept.refl _ _) rfl
        exact trivial
      · intro vs wz hI hvs
        simp only [pzz, putAll, Act.put, Nat.reduceAdd, spv (hvs 0 _ _ rfl rfl) rfl, spv (hvs 1 _ _ rfl rfl) rfl, spv (hvs 2 _ _ rfl rfl) rfl, spv (hvs 3 _ _ rfl rfl) rfl]
        clear hvs
        have KZ := Lw.hid hI
        clear hI
        have hcut := app_cutT wz B1 j BL g v1 D1 rs (K + 1) _ (JLV.out.kept KZ.out (fun _ _ h => h)) HD1.out (fun i hi' => KZ.out.cell (TV.out i hi') (fun h => h)) (by rw [HC1.out]; exact hr) (by omega) hn n HCF.out
        unfold rv at hcut
        have HCUT := Lw.hid hcut
        clear hcut
        go_wp2_with fail
        refine HCUT.out.mono ?_
        rintro e w5 ⟨rfl, v5, hj5, k5, f5⟩
        have J5 := Lw.hid hj5; have K5 := Lw.hid ((KZ.out.mono (fun _ _ h => h.elim)).trans k5 (fun i hi h => h)) ; have F5 := Lw.hid f5
        have hzz := KZ.out.size
        have j5 := heap_cell (K5.out.heap JB.out (fun e => (HAV.out _ (.inl e)).2.2.2 rfl)) 0
        have bv2 := K5.out.heap BV2.out (fun e => (HAV.out _ (.inl e)).1 rfl); have bv3 := K5.out.heap BV3.out (fun e => (HAV.out _ (.inl e)).2.1 rfl); have HD5 := Lw.hid (K5.out.heap HDF.out (fun e => (HAV.out _ (.inl e)).2.2.1 rfl))
        clear hj5 k5 f5
        have b2c := heap_cell bv2 0; have b2f := heap_free bv2 0
        have hs2 := heap_set bv2 0 (.pointer (some ⟨j, 0, none⟩))
        have b3' := ((Kept.refl (fun k => k = r2) w5).set r2 0 (fun _ => rfl) (.pointer (some ⟨j, 0, none⟩))).heap bv3 (by omega)
        have b3c := heap_cell b3' 0; have b3f := heap_free b3' 0
        have hs3 := heap_set b3' 0 (.int .i64 0)
        have kR : Kept (fun k => k = r2 ∨ k = r2 + 1) w5 ((w5.setCell ⟨r2, 0, none⟩ (.pointer (some ⟨j, 0, none⟩))).setCell ⟨r2 + 1, 0, none⟩ (.int .i64 0)) := ((Kept.refl (fun k => k = r2 ∨ k = r2 + 1) w5).set r2 0 (fun _ => .inl rfl) _).set (r2 + 1) 0 (fun _ => .inr rfl) _
        have hb2' : ((w5.setCell ⟨r2, 0, none⟩ (.pointer (some ⟨j, 0, none⟩))).setCell ⟨r2 + 1, 0, none⟩ (.int .i64 0)).heap[r2]? = some (.cells #[.pointer (some ⟨j, 0, none⟩)] 27 (0, 0)) := ((Kept.refl (fun k => k = r2 + 1) _).set (r2 + 1) 0 (fun _ => rfl) (.int .i64 0)).heap hs2 (by omega)
        have hb3' : ((w5.setCell ⟨r2, 0, none⟩ (.pointer (some ⟨j, 0, none⟩))).setCell ⟨r2 + 1, 0, none⟩ (.int .i64 0)).heap[r2 + 1]? = some (.cells #[.int .i64 0] 24 (0, 0)) := hs3
        have HB2' := Lw.hid hb2'; have HB3' := Lw.hid hb3'; have KR := Lw.hid kR
        clear hs2 b3' hs3 kR hb2' hb3' bv2 bv3
        go_wp2_with fail
        refine leaves_marks [D'] _ (by simp) (fun r hr => by rw [List.mem_singleton.1 hr]; exact KR.out.heap HD5.out (fun e => by omega)) (fun V' hk => ⟨.tuple #[.pointer (some ⟨j, 0, none⟩), .int .i64 0], ?_, ?_⟩)
        · have q2 := heap_cell (hk.heap HB2'.out (fun hm => by have := List.mem_singleton.1 hm; omega)) 0
          have q3 := heap_cell (hk.heap HB3'.out (fun hm => by have := List.mem_singleton.1 hm; omega)) 0
          simp [results, Tryz.results5, go_sem, q2, q3]
        · have KK : Kept (fun k => k = r2 ∨ k = r2 + 1 ∨ k = D') w5 V' := (KR.out.mono (fun i _ h => h.elim .inl (fun h => .inr (.inl h)))).trans hk (fun i _ hm => .inr (.inr (List.mem_singleton.1 hm)))
          obtain ⟨-, hrd, hcp⟩ := HD1.out.app HCF.out (by rw [HC1.out]; exact hr) (by omega) hn
          have hk5 := K5.out.size
          refine ⟨v5, j, BL, AppT D1 rs (.cut n) (zeros t.length), t.length - (10 + (Rc.cut n).bytes.length), rfl, ?_, ?_, by rw [hcp, HC1.out], ?_, fun k hk => ?_, fun _ h => by have h9 := HOPN.out; rw [h] at h9; cases h9⟩
          · rw [HRS.out]
            refine (J5.out.kept KK (fun i hb e => by have := HAV.out i (hb.imp (fun h => h) (fun h => by omega)); rcases e with e | e | e <;> omega)).mono (fun i _ hb => ?_)
            have e2 := HR2.out; have := K1.out.size
            rcases hb with hb | hb
            · exact HBP.out i hb
            · exact .inr (.inr (by omega))
          · rw [HRS.out]; exact hrd
          · exact (KV.out.trans K5.out (fun i hi e => HBW.out i hi e)).trans KK (fun i hi e => by have e2 := HR2.out; have := K1.out.size; rcases e with e | e | e <;> omega)
          · rcases F5.out k hk with h | h
            · exact HV1.out k h
            · exact .inr (by have e2 := HR2.out; have := K1.out.size; omega)
  case stop =>
    rintro X c pre D V _ _ _ _ _ h
    exact h.elim
end Go.Proofs.YtgegjjnfcnalfaaGreatDoor
