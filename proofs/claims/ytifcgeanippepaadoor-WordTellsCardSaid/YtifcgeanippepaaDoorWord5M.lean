/- package word: word. -/
import Derived.Test.YtifcgeanippepaaDoorWord4M
namespace Go.Proofs.YtifcgeanippepaaDoor
open Go Go.RowKit Go.Lw
set_option maxRecDepth 100000
set_option linter.unusedVariables false
set_option linter.unusedSimpArgs false
attribute [local go_sem] BA_toList
/-- The row v is one's own, made since w, and reads l; what lies in the blocks of P is not the row's. -/
def WL (w : World) (g : Nat) (P : Nat → Prop) (l : List Prt) (v : Value) (wx : World) : Prop :=
  ∃ (ps : List (Prt × Value)) (F : Nat → Prop), ps.map Prod.fst = l ∧ WOwn wx F w.heap.size v ps ∧ (∀ b, F b → w.heap.size ≤ b) ∧ (∀ b, P b → F b) ∧ K1 g w wx ∧ g < w.heap.size
theorem WL.kept {w wx : World} {g : Nat} {P : Nat → Prop} {l : List Prt} {v : Value} (h : WL w g P l v wx) : K1 g w wx := by
  obtain ⟨_, _, _, _, _, _, k, _⟩ := h; exact k
theorem WL.nil (w : World) (g : Nat) (hg : g < w.heap.size) {wx : World} (hk : K1 g w wx) : WL w g (fun _ => False) [] (.slice none 0 0) wx :=
  ⟨[], fun _ => False, rfl, WOwn.nil wx _, fun _ h => h.elim, fun _ h => h, hk, hg⟩
theorem WL.call {w wx w1 : World} {g : Nat} {P : Nat → Prop} {l : List Prt} {v : Value} (h : WL w g P l v wx) (k : K1 g wx w1) : WL w g (fun b => P b ∨ (wx.heap.size ≤ b ∧ b < w1.heap.size)) l v w1 := by
  obtain ⟨ps, F, hl, ho, hF, hP, hk, hg⟩ := h
  have hv : ∀ b, blk v b → ¬ b = g := fun b hb e => by have := (ho.blk b hb).1; omega
  have ho1 := ho.kept k (fun b hb e => by have := hF b hb; have e' : b = g := e; omega) hv
  have hs := hk.size
  refine ⟨ps, fun b => F b ∨ (wx.heap.size ≤ b ∧ b < w1.heap.size), hl, ho1.mono (fun b hb => .inl hb) (fun b hb hx => ?_) (fun b hb => ?_), fun b hb => ?_, fun b hb => hb.elim (fun hb => .inl (hP b hb)) .inr, hk.then k, hg⟩
  · rcases hx with hx | hx
    · exact (ho.blk b hb).2 hx
    · have := own_lt ho.own b hb; omega
  · rcases hb with hb | hb
    · exact ho1.lt b hb
    · exact hb.2
  · rcases hb with hb | hb
    · exact hF b hb
    · omega
theorem WL.weak {w wx : World} {g : Nat} {P P' : Nat → Prop} {l : List Prt} {v : Value} (h : WL w g P l v wx) (hP' : ∀ b, P' b → P b) : WL w g P' l v wx := by
  obtain ⟨ps, F, hl, ho, hF, hP, hk, hg⟩ := h
  exact ⟨ps, F, hl, ho, hF, fun b hb => hP b (hP' b hb), hk, hg⟩
theorem WL.at {w wx : World} {g : Nat} {P : Nat → Prop} {l : List Prt} {v : Value} (h : WL w g P l v wx) : WAt wx (fun b => w.heap.size ≤ b) v l := by
  obtain ⟨ps, F, rfl, ho, hF, hP, hk, hg⟩ := h
  exact ho.at.mono (fun b _ hb => hb.elim (hF b) (fun hb => (ho.blk b hb).1))
/-- put, at such a row. -/
theorem WL.put {w w1 : World} {g : Nat} {P : Nat → Prop} {l : List Prt} {v : Value} (h : WL w g P l v w1) {st : Rst} (hr : RdrAt w1 g st) (p : Prt) (o : Value) (ho : WAt w1 P o p.orw) (hl : l.length ≤ 100000) (ht : tmass l ≤ 1000000) (hp : p.text.length ≤ 1000000) :
    Calls Tryd.prog 87 #[v, PV p o] w1 fun x w2 => ∃ v', x = .returned v' ∧ RdrAt w2 g st ∧ WL w g P (putF l p) v' w2 ∧ ∃ S, Kept S w1 w2 ∧ ∀ b, P b ∨ b = g → ¬ S b := by
  obtain ⟨ps, F, rfl, how, hF, hP, hk, hg⟩ := h
  have hgv : ∀ b, blk v b → ¬ b = g := fun b hb e => by have := (how.blk b hb).1; omega
  refine (put_any w1 F w.heap.size v ps how hk.size (by simpa using hl) (fun x hx => Nat.le_trans (tmass_mem (List.mem_map_of_mem hx)) ht) p hp o (ho.mono (fun b _ hb => hP b hb))).mono ?_
  rintro x w2 ⟨v', ps', rfl, hps, how', kk⟩
  refine ⟨v', rfl, hr.kept kk (fun hb => hgv g hb rfl), ⟨ps', F, hps, how', hF, hP, hk.trans (kk.mono (S' := fun b => w.heap.size ≤ b) (fun b _ hb => (how.blk b hb).1)) (fun i hi hx => by omega), hg⟩, blk v, kk, ?_⟩
  rintro b (hb | rfl) hx
  · exact (how.blk b hx).2 (hP b hb)
  · exact hgv b hx rfl
/-- Where word stands. -/
def LRel (w : World) (g : Nat) (lv : Lv) (q : Bool) (N : Nat) (R0 : List Prt × Rst) (gk : Nat) (v : Value) (wx : World) : Prop :=
  ∃ (st : Rst) (l : List Prt), gk = st.s.length ∧ RdrAt wx g st ∧ WL w g (fun _ => False) l v wx ∧ wordW lv q l st = R0 ∧ l.length + st.s.length ≤ N ∧ tmass l + st.s.length ≤ N
theorem LRel.fin {w wx : World} {g n : Nat} {lv : Lv} {q : Bool} {R0 : List Prt × Rst} {st : Rst} {l : List Prt} {v : Value} {s : List UInt8} (hr : RdrAt wx g st) (hl : WL w g (fun _ => False) l v wx) (hw : wordW lv q l st = R0) (he : wordW lv q l st = (l, st)) (h0 : wordW lv q [] ⟨s, false⟩ = R0) :
    WordPost w g lv q ⟨s, false⟩ (.returned v) (wx.drewN n) := by
  refine ⟨v, rfl, ?_, ?_, hl.kept.then (K1.drewN g wx n)⟩
  · rw [h0, ← hw, he]; exact hr.drewN n
  · rw [h0, ← hw, he]; exact hl.at.kept (kept_drewN' wx n) (fun _ _ h => h)
theorem heap_cell' {w : World} {b : Nat} {c : Array Value} {T : TypeId} {fr : Nat × Nat} (h : w.heap[b]? = some (.cells c T fr)) (i : Nat) : w.cell? ⟨b, i, none⟩ = c[i]? := by
  simp [World.cell?, h]
/-- After a step that puts one part. -/
theorem LRel.step {w wx : World} {g : Nat} {lv : Lv} {q : Bool} {N : Nat} {R0 : List Prt × Rst} {st st1 : Rst} {l : List Prt} {v : Value} {P : Nat → Prop} {p : Prt} (hr : RdrAt wx g st1) (hl : WL w g P (putF l p) v wx)
    (hw : wordW lv q l st = R0) (hs : wordW lv q l st = wordW lv q (putF l p) st1) (h1 : st1.s.length + 1 ≤ st.s.length) (h2 : p.text.length + st1.s.length ≤ st.s.length) (hn : l.length + st.s.length ≤ N) (ht : tmass l + st.s.length ≤ N) : LRel w g lv q N R0 st1.s.length v wx := by
  have hm := putF_mass l p
  exact ⟨st1, putF l p, rfl, hr, hl.weak (fun _ h => h.elim), by rw [← hs, hw], by omega, by omega⟩
theorem hasq {w : World} {l p : List UInt8} {b : Bool} (hl : l.length ≤ 4000000) (hp : p.length ≤ 4000000) (hb : (l.take p.length == p) = b) :
    Calls Tryd.prog 55 #[.string (BA l), .string (BA p)] w fun e w' => e = .returned (.bool b) ∧ w' = w := (hasp_any w l p (by omega) (by omega) b hb).mono (fun _ _ h => ⟨h.1, h.2.symm⟩)
/-- An element of a word in memory. -/
theorem WAt.elem {w : World} {F : Nat → Prop} {a : Option Addr} {n c : Nat} {J : List Prt} (h : WAt w F (.slice a n c) J) : n = J.length ∧ ∀ (k : Nat) (p : Prt), J[k]? = some p →
    ∃ (b off : Nat) (oa : Option Addr) (on oc : Nat), a = some ⟨b, off, none⟩ ∧ w.cell? ⟨b, off + k * 4, none⟩ = some (.int .i64 p.kind) ∧ w.cell? ⟨b, off + k * 4 + 1, none⟩ = some (.string (BA p.text)) ∧ w.cell? ⟨b, off + k * 4 + 2, none⟩ = some (.slice oa on oc) ∧ w.cell? ⟨b, off + k * 4 + 3, none⟩ = some (.bool p.quoted) ∧ WAt w F (.slice oa on oc) p.orw := by
  obtain ⟨ps, rfl, hr, hb, ho⟩ := h.open
  have hr' := hr
  obtain ⟨_, a', c', e, hnc, hcm, _⟩ := hr'
  cases e
  refine ⟨by simp, fun k p hp => ?_⟩
  have hk : k < ps.length := by
    rw [List.getElem?_map] at hp
    rcases Nat.lt_or_ge k ps.length with h | h
    · exact h
    · rw [List.getElem?_eq_none h] at hp; cases hp
  obtain ⟨b, off, e, hc0, hc⟩ := Rd.elem (ys := ps) hr (fun _ _ => rfl) (by decide) k hk
  have hpk : ps[k].1 = p := by
    rw [List.getElem?_map, List.getElem?_eq_getElem hk] at hp
    exact Option.some.inj hp
  have hw := ho ps[k] (List.getElem_mem hk)
  obtain ⟨oa, on, oc, ho2⟩ := hw.slice
  rw [hpk, ho2] at hw
  refine ⟨b, off, oa, on, oc, e, by rw [hc0, ← hpk]; rfl, by rw [hc 1 (by decide), ← hpk]; rfl, by rw [hc 2 (by decide), ← ho2]; rfl, by rw [hc 3 (by decide), ← hpk]; rfl, hw⟩
/-- A literal word of one part. -/
theorem WAt.one (w : World) (p : Prt) (hp : p.orw = []) : WAt (w.alloc (.cells #[.int .i64 p.kind, .string (BA p.text), .slice none 0 0, .bool p.quoted] 46)) (fun b => w.heap.size ≤ b ∧ b < w.heap.size + 1) (.slice (some ⟨w.heap.size, 0, none⟩) 1 1) [p] := by
  refine .mk _ [(p, .slice none 0 0)] (Rd.lit w (PC (p, .slice none 0 0)) 46 4 w.heap.size 1 rfl rfl (by unfold maxLen; omega)) (fun b hb => ?_) (fun x hx => ?_)
  · have e : b = w.heap.size := blk_some hb
    subst e
    exact ⟨⟨Nat.le_refl _, Nat.lt_succ_self _⟩, by rw [World.size_alloc]; exact Nat.lt_succ_self _⟩
  · rw [List.mem_singleton.1 hx, hp]
    exact WAt.nil _ _
/-- Where the loop over the inner parts stands. -/
def IRel (w : World) (g : Nat) (st : Rst) (P : Nat → Prop) (J l : List Prt) (vi : Value) (gk : Nat) (v : Value) (s99 : Value) (wx : World) : Prop :=
  ∃ (k : Nat) (l' : List Prt), gk = J.length - k ∧ k ≤ J.length ∧ s99 = .int .i64 (k : Int) ∧ RdrAt wx g st ∧ WL w g P l' v wx ∧ WAt wx P vi J ∧ (J.drop k).foldl putF l' = J.foldl putF l ∧ l'.length ≤ l.length + k ∧ tmass l' + tmass (J.drop k) = tmass l + tmass J
theorem strip34_starts (u : List UInt8) : (if (u.take 1 == [34]) = true then u.drop [(34 : UInt8)].length else u) = strip34 u := by
  unfold strip34
  by_cases h : u.take 1 = [34]
  · simp [h]
  · rw [if_neg h, if_neg (by simpa using h)]
set_option maxHeartbeats 40000000 in
theorem word_bare (N : Nat) (hN : N ≤ 100000) (HW : Hid (∀ M, M < N → CWord M)) (q : Bool) (w : World) (g : Nat) (s : List UInt8) (hsN : s.length ≤ N) (h : RdrAt w g ⟨s, false⟩) (hE : WEnv w) :
    Calls Tryd.prog 53 #[.pointer (some ⟨g, 0, none⟩), .int .i64 0, .bool q] w (WordPost w g .bare q ⟨s, false⟩) := by
  have H := Lw.hid h
  have HE := Lw.hid hE
  have hgl := h.lt
  obtain ⟨R0, hR0⟩ : ∃ R0, wordW .bare q [] ⟨s, false⟩ = R0 := ⟨_, rfl⟩
  have HR0 := Lw.hid hR0
  have hstart : LRel w g .bare q N R0 s.length (.slice none 0 0) w := ⟨⟨s, false⟩, [], rfl, h, WL.nil w g hgl (K1.refl g w), hR0, by simpa using hsN, by show 0 + s.length ≤ N; omega⟩
  have HST := Lw.hid hstart
  clear h hE hR0 hstart
  go_enter Tryd.func53, Tryd.ntmps53
  go_wp2_with fail
  go_loopg [7] s.length (fun gk s7 wx => LRel w g .bare q N R0 gk s7 wx)
  case atStart => exact HST.out
  case round =>
    obtain ⟨⟨u, bad⟩, l, rfl, hr, hl, hw, hn, ht⟩ := hrel
    obtain ⟨⟨g0, g1⟩, gf0, gf1⟩ := hr.cells
    simp only at g0 g1 hn ht
    have HR := Lw.hid hr; have HL := Lw.hid hl; have HWD := Lw.hid hw; have HN := Lw.hid hn; have HT := Lw.hid ht
    have HEX : Hid (WEnv wr) := Lw.hid (HE.out.kept1 H.out hl.kept)
    have hcl : g < wr.heap.size := hr.lt
    clear hr hl hw HST
    cases u with
    | nil =>
      go_wp2_with fail
      go_quiet (fail)
      go_wp2_with fail
      go_ret
      exact LRel.fin HR.out HL.out HWD.out (wordW_nil _ _ _ _) HR0.out
    | cons c r =>
      cases bad with
      | true =>
        go_wp2_with fail
        go_quiet (fail)
        go_wp2_with fail
        go_ret
        exact LRel.fin HR.out HL.out HWD.out (wordW_bad _ _ _ _) HR0.out
      | false =>
        have hcr : r.length + 1 ≤ N := by simp at hn; omega
        have hlc : (c :: r).length ≤ 1000000 := by rw [List.length_cons]; omega
        have hlr : r.length ≤ 1000000 := by omega
        have hzc : (BA (c :: r)).size = r.length + 1 := BA_size _
        have gc0 := BA_get (l := c :: r) (k := 0) (c := c) rfl
        have hln : l.length ≤ 100000 := by simp at hn; omega
        have hlt : tmass l ≤ 1000000 := by simp at ht; omega
        have HLN := Lw.hid hln; have HLT := Lw.hid hlt
        clear hn ht hln hlt
        by_cases h92 : c = 92
        · have HSTEP : Hid (wordW .bare q l ⟨c :: r, false⟩ = wordW .bare q (putF l (pairR .bare r).1) ⟨(pairR .bare r).2, false⟩) := Lw.hid (by rw [h92]; exact wordW_pair _ _ _ _)
          have hs1 : ((c :: r).take 1 == [92]) = true := by rw [h92]; rfl
          have HS1 := Lw.hid hs1
          clear hs1 h92
          go_wp2_with fail
          go_quiet (fail)
          go_wp2_with fail
          refine (starts_any _ g (c :: r) [92] false (HR.out.drewN nq) hlc (by decide) true HS1.out).mono ?_
          rintro x w1 ⟨rfl, hr1, k1⟩
          have HR1 : Hid (RdrAt w1 g ⟨r, false⟩) := Lw.hid hr1
          have HK1 := Lw.hid ((K1.drewN g wr nq).then k1)
          clear hr1 k1
          go_wp2_with fail
          refine (pair_any .bare _ g r false HR1.out hlr (HEX.out.kept1 HR.out HK1.out).lex).mono ?_
          rintro x w2 ⟨rfl, hr2, k2⟩
          have HR2 := Lw.hid hr2
          have HL2 := Lw.hid (HL.out.call (HK1.out.then k2))
          clear hr2 k2
          go_wp2_with fail
          refine (HL2.out.put HR2.out (pairR .bare r).1 (.slice none 0 0) (WAt.nil _ _) HLN.out HLT.out (by have := pairR_mass .bare r; omega)).mono ?_
          rintro x w3 ⟨v3, rfl, hr3, hl3, _⟩
          have HREL := Lw.hid (LRel.step hr3 hl3 HWD.out HSTEP.out (by have := pairR_len .bare r; simp only [List.length_cons]; omega) (by have := pairR_mass .bare r; simp only [List.length_cons]; omega) HN.out HT.out)
          clear hr3 hl3
          go_wp2_with fail
          go_roundg (pairR .bare r).2.length
          case measure => have := pairR_len .bare r; simp only [List.length_cons]; omega
          case rel => exact HREL.out
        by_cases h36 : c = 36
        · have HSTEP : Hid (wordW .bare q l ⟨c :: r, false⟩ = wordW .bare q (putF l (dollarR (wordW .brc q []) q r).1) (dollarR (wordW .brc q []) q r).2) := Lw.hid (by rw [h36]; exact wordW_dollar _ _ _ _)
          have HS1 := Lw.hid (take_ne (r := c :: r) (p := [92]) (fun e => h92 (List.cons.inj (show (c :: r.take 0 : List UInt8) = [92] from e)).1))
          have hs2 : ((c :: r).take 1 == [36]) = true := by rw [h36]; rfl
          have HS2 := Lw.hid hs2
          clear hs2 h36
          go_wp2_with fail
          go_quiet (fail)
          go_wp2_with fail
          refine (starts_any _ g (c :: r) [92] false (HR.out.drewN nq) hlc (by decide) false HS1.out).mono ?_
          rintro x w1 ⟨rfl, hr1, k1⟩
          have HR1 : Hid (RdrAt w1 g ⟨c :: r, false⟩) := Lw.hid hr1
          have HK1 := Lw.hid ((K1.drewN g wr nq).then k1)
          clear hr1 k1
          go_wp2_with fail
          refine (starts_any _ g (c :: r) [36] false HR1.out hlc (by decide) true HS2.out).mono ?_
          rintro x w2 ⟨rfl, hr2, k2⟩
          have HR2 : Hid (RdrAt w2 g ⟨r, false⟩) := Lw.hid hr2
          have HK2 := Lw.hid k2
          clear hr2 k2
          go_wp2_with fail
          have HCW : Hid (CWord r.length) := Lw.hid (HW.out r.length hcr)
          refine (dollar_any r.length HCW q _ g r HR2.out (by omega) (Nat.le_refl _) (HEX.out.kept1 HR.out (HK1.out.then HK2.out))).mono ?_
          rintro x w3 ⟨ov, rfl, hr3, ha3, k3⟩
          have HR3 := Lw.hid hr3
          have hsz2 := (HK1.out.then HK2.out).size
          have HA3 := Lw.hid (ha3.mono (G := fun b => False ∨ (wr.heap.size ≤ b ∧ b < w3.heap.size)) (fun b hb hx => .inr ⟨by omega, hb⟩))
          have HL3 := Lw.hid (HL.out.call ((HK1.out.then HK2.out).then k3))
          have hdm : (dollarR (wordW .brc q []) q r).1.text.length + (dollarR (wordW .brc q []) q r).2.s.length ≤ r.length + 1 := dollarR_mass (fun st _ => wordW_len _ _ _ st)
          have hdl := dollarW_len q r
          have HDM := Lw.hid hdm; have HDL := Lw.hid hdl
          clear hr3 ha3 k3 hsz2 hdm hdl
          go_wp2_with fail
          refine (HL3.out.put HR3.out (dollarR (wordW .brc q []) q r).1 ov HA3.out HLN.out HLT.out (by have := HDM.out; omega)).mono ?_
          rintro x w4 ⟨v4, rfl, hr4, hl4, _⟩
          have HREL := Lw.hid (LRel.step hr4 hl4 HWD.out HSTEP.out (by have := HDL.out; simp only [List.length_cons]; omega) (by have := HDM.out; simp only [List.length_cons]; omega) HN.out HT.out)
          clear hr4 hl4
          go_wp2_with fail
          go_roundg (dollarR (wordW .brc q []) q r).2.s.length
          case measure => have := HDL.out; simp only [List.length_cons]; omega
          case rel => exact HREL.out
        by_cases h39 : c = 39
        · have HSTEP : Hid (wordW .bare q l ⟨c :: r, false⟩ = wordW .bare q (putF l (.mk 1 (cutR 39 r).1 [] true)) ⟨(cutR 39 r).2, false⟩) := Lw.hid (by rw [h39]; exact wordW_single _ _ _ (by decide))
          have HS1 := Lw.hid (take_ne (r := c :: r) (p := [92]) (fun e => h92 (List.cons.inj (show (c :: r.take 0 : List UInt8) = [92] from e)).1))
          have HS2 := Lw.hid (take_ne (r := c :: r) (p := [36]) (fun e => h36 (List.cons.inj (show (c :: r.take 0 : List UInt8) = [36] from e)).1))
          have hs3 : ((c :: r).take 1 == [39]) = true := by rw [h39]; rfl
          have HS3 := Lw.hid hs3
          clear hs3 h39
          go_wp2_with fail
          go_quiet (fail)
          go_wp2_with fail
          refine (starts_any _ g (c :: r) [92] false (HR.out.drewN nq) hlc (by decide) false HS1.out).mono ?_
          rintro x w1 ⟨rfl, hr1, k1⟩
          have HR1 : Hid (RdrAt w1 g ⟨c :: r, false⟩) := Lw.hid hr1
          have HK1 := Lw.hid ((K1.drewN g wr nq).then k1)
          clear hr1 k1
          go_wp2_with fail
          refine (starts_any _ g (c :: r) [36] false HR1.out hlc (by decide) false HS2.out).mono ?_
          rintro x w2 ⟨rfl, hr2, k2⟩
          have HR2 : Hid (RdrAt w2 g ⟨c :: r, false⟩) := Lw.hid hr2
          have HK2 := Lw.hid k2
          clear hr2 k2
          go_wp2_with fail
          refine (starts_any _ g (c :: r) [39] false HR2.out hlc (by decide) true HS3.out).mono ?_
          rintro x w3 ⟨rfl, hr3, k3⟩
          have HR3 : Hid (RdrAt w3 g ⟨r, false⟩) := Lw.hid hr3
          have HK3 := Lw.hid k3
          clear hr3 k3
          go_wp2_with fail
          refine (rcut_any _ g r false HR3.out hlr (HEX.out.kept1 HR.out ((HK1.out.then HK2.out).then HK3.out)).lex).mono ?_
          rintro x w4 ⟨rfl, hr4, k4⟩
          have HR4 := Lw.hid hr4
          have HL4 := Lw.hid (HL.out.call (((HK1.out.then HK2.out).then HK3.out).then k4))
          clear hr4 k4
          go_wp2_with fail
          refine (HL4.out.put HR4.out (.mk 1 (cutR 39 r).1 [] true) (.slice none 0 0) (WAt.nil _ _) HLN.out HLT.out (by have := cutR_mass 39 r; show (cutR 39 r).1.length ≤ _; omega)).mono ?_
          rintro x w5 ⟨v5, rfl, hr5, hl5, _⟩
          have HREL := Lw.hid (LRel.step hr5 hl5 HWD.out HSTEP.out (by have := cutR_len 39 r; simp only [List.length_cons]; omega) (by have := cutR_mass 39 r; show (cutR 39 r).1.length + _ ≤ _; simp only [List.length_cons]; omega) HN.out HT.out)
          clear hr5 hl5
          go_wp2_with fail
          go_roundg (cutR 39 r).2.length
          case measure => have := cutR_len 39 r; simp only [List.length_cons]; omega
          case rel => exact HREL.out
        by_cases h34 : c = 34
        · have HSTEP : Hid (wordW .bare q l ⟨c :: r, false⟩ = wordW .bare q ((quoted0 (wordW .dbl true [] ⟨r, false⟩).1).foldl putF l) ⟨strip34 (wordW .dbl true [] ⟨r, false⟩).2.s, (wordW .dbl true [] ⟨r, false⟩).2.bad⟩) := Lw.hid (by rw [h34]; exact wordW_double _ _ _ (by decide))
          have HS1 := Lw.hid (take_ne (r := c :: r) (p := [92]) (fun e => h92 (List.cons.inj (show (c :: r.take 0 : List UInt8) = [92] from e)).1))
          have HS2 := Lw.hid (take_ne (r := c :: r) (p := [36]) (fun e => h36 (List.cons.inj (show (c :: r.take 0 : List UInt8) = [36] from e)).1))
          have HS3 := Lw.hid (take_ne (r := c :: r) (p := [39]) (fun e => h39 (List.cons.inj (show (c :: r.take 0 : List UInt8) = [39] from e)).1))
          have hs4 : ((c :: r).take 1 == [34]) = true := by rw [h34]; rfl
          have HS4 := Lw.hid hs4
          clear hs4 h34
          have hmass := wordW_mass .dbl true [] ⟨r, false⟩
          obtain ⟨J0, ⟨u5, b5⟩, hI⟩ : ∃ J0 st, wordW .dbl true [] ⟨r, false⟩ = (J0, st) := ⟨_, _, rfl⟩
          rw [hI] at hmass HSTEP
          simp only [List.length_nil] at hmass
          have hqm := quoted0_mass J0
          have hfm := fold_mass (quoted0 J0) l
          have hst := strip34_len u5
          have ht0 : tmass ([] : List Prt) = 0 := rfl
          have HMASS : Hid (J0.length + u5.length ≤ r.length ∧ tmass J0 + u5.length ≤ r.length ∧ tmass (quoted0 J0) = tmass J0 ∧ (quoted0 J0).length ≤ J0.length + 1 ∧ (strip34 u5).length ≤ u5.length ∧ ((quoted0 J0).foldl putF l).length ≤ l.length + (quoted0 J0).length ∧ tmass ((quoted0 J0).foldl putF l) = tmass l + tmass (quoted0 J0)) := Lw.hid ⟨by omega, by omega, hqm.2, hqm.1, hst, hfm.1, hfm.2⟩
          have HLIM : Hid (l.length + (c :: r).length ≤ N ∧ tmass l + (c :: r).length ≤ N) := Lw.hid ⟨HN.out, HT.out⟩
          have HI := Lw.hid hI
          clear hmass hqm hfm hst ht0 hI
          go_wp2_with fail
          go_quiet (fail)
          go_wp2_with fail
          refine (starts_any _ g (c :: r) [92] false (HR.out.drewN nq) hlc (by decide) false HS1.out).mono ?_
          rintro x w1 ⟨rfl, hr1, k1⟩
          have HR1 : Hid (RdrAt w1 g ⟨c :: r, false⟩) := Lw.hid hr1
          have HK1 := Lw.hid ((K1.drewN g wr nq).then k1)
          clear hr1 k1
          go_wp2_with fail
          refine (starts_any _ g (c :: r) [36] false HR1.out hlc (by decide) false HS2.out).mono ?_
          rintro x w2 ⟨rfl, hr2, k2⟩
          have HR2 : Hid (RdrAt w2 g ⟨c :: r, false⟩) := Lw.hid hr2
          have HK2 := Lw.hid k2
          clear hr2 k2
          go_wp2_with fail
          refine (starts_any _ g (c :: r) [39] false HR2.out hlc (by decide) false HS3.out).mono ?_
          rintro x w3 ⟨rfl, hr3, k3⟩
          have HR3 : Hid (RdrAt w3 g ⟨c :: r, false⟩) := Lw.hid hr3
          have HK3 := Lw.hid k3
          clear hr3 k3
          go_wp2_with fail
          refine (starts_any _ g (c :: r) [34] false HR3.out hlc (by decide) true HS4.out).mono ?_
          rintro x w4 ⟨rfl, hr4, k4⟩
          have HR4 : Hid (RdrAt w4 g ⟨r, false⟩) := Lw.hid hr4
          have HK4 := Lw.hid k4
          clear hr4 k4
          go_wp2_with fail
          have HCW : Hid (CWord r.length) := Lw.hid (HW.out r.length hcr)
          have hwd := HCW.out .dbl true _ g r (Nat.le_refl _) HR4.out (HEX.out.kept1 HR.out (((HK1.out.then HK2.out).then HK3.out).then HK4.out))
          unfold WordPost at hwd
          rw [HI.out] at hwd
          refine hwd.mono ?_
          rintro x w5 ⟨vi, rfl, hr5, ha5, k5⟩
          clear hwd
          have HR5 := Lw.hid hr5
          have hsz4 := (((HK1.out.then HK2.out).then HK3.out).then HK4.out).size
          have hsz5 := k5.size
          have HA5 := Lw.hid (ha5.mono (G := fun b => False ∨ (wr.heap.size ≤ b ∧ b < w5.heap.size)) (fun b hb hx => .inr ⟨by omega, hb⟩))
          have HL5 := Lw.hid (HL.out.call ((((HK1.out.then HK2.out).then HK3.out).then HK4.out).then k5))
          have hle5 : wr.heap.size ≤ w5.heap.size := by omega
          obtain ⟨ia, m, ic, rfl⟩ := ha5.slice
          have HME := Lw.hid ha5.elem.1
          clear hr5 ha5 k5 hsz4 hsz5
          clear g0 g1 gf0 gf1
          obtain ⟨wo, rfl⟩ : ∃ wo : World, wo = wr := ⟨_, rfl⟩
          cases J0 with
          | nil =>
            have hm0 : m = 0 := HME.out
            subst hm0
            have HAL := Lw.hid (WAt.one w5 (.mk 1 [] [] true) rfl)
            have HAP : Hid (WAt (w5.alloc (.cells #[.int .i64 1, .string (BA []), .slice none 0 0, .bool true] 46)) (fun b => wo.heap.size ≤ b ∧ b < w5.heap.size + 1) (.slice (some ⟨w5.heap.size, 0, none⟩) 1 1) [.mk 1 [] [] true]) := Lw.hid (HAL.out.mono (fun b _ hb => ⟨by omega, hb.2⟩))
            have HLP : Hid (WL w g (fun b => wo.heap.size ≤ b ∧ b < w5.heap.size + 1) l u7 (w5.alloc (.cells #[.int .i64 1, .string (BA []), .slice none 0 0, .bool true] 46))) := Lw.hid ((HL5.out.call ((K1.refl g w5).alloc _)).weak (fun b hb => by rw [World.size_alloc]; by_cases h : b < w5.heap.size; exact .inl (.inr ⟨hb.1, h⟩); exact .inr ⟨by omega, hb.2⟩))
            have HRP : Hid (RdrAt (w5.alloc (.cells #[.int .i64 1, .string (BA []), .slice none 0 0, .bool true] 46)) g ⟨u5, b5⟩) := Lw.hid (HR5.out.kept ((Kept.refl (fun _ => False) w5).alloc _) (fun h => h))
            go_wp2_with fail
            go_loopg [7, 99] ([Prt.mk 1 [] [] true]).length (fun gk s7 s99 wx => IRel w g ⟨u5, b5⟩ (fun b => wo.heap.size ≤ b ∧ b < w5.heap.size + 1) [Prt.mk 1 [] [] true] l (.slice (some ⟨w5.heap.size, 0, none⟩) 1 1) gk s7 s99 wx)
            case atStart => exact ⟨0, l, rfl, Nat.zero_le _, rfl, HRP.out, HLP.out, HAP.out, rfl, Nat.le_refl _, rfl⟩
            case round =>
              obtain ⟨k, l', rfl, hk, rfl, hri, hli, hai, hfold, hll, htt⟩ := hrel
              have HRI := Lw.hid hri; have HLI := Lw.hid hli; have HAI := Lw.hid hai; have HFO := Lw.hid hfold; have HLL := Lw.hid hll; have HTT := Lw.hid htt
              have hm : 1 = ([Prt.mk 1 [] [] true]).length := rfl
              have HM := Lw.hid hm
              clear hri hli hai hfold hll htt
              by_cases hlt : k < ([Prt.mk 1 [] [] true]).length
              · obtain ⟨p, hp⟩ : ∃ p, ([Prt.mk 1 [] [] true])[k]? = some p := ⟨_, List.getElem?_eq_getElem hlt⟩
                have hd : ([Prt.mk 1 [] [] true]).drop k = p :: ([Prt.mk 1 [] [] true]).drop (k + 1) := by
                  rw [List.getElem?_eq_getElem hlt] at hp
                  rw [List.drop_eq_getElem_cons hlt, Option.some.inj hp]
                have hpm : p ∈ ([Prt.mk 1 [] [] true]) := List.mem_of_getElem? hp
                obtain ⟨bi, off, oa, on, oc, hia, e0, e1, e2, e3, hao⟩ := HAI.out.elem.2 k p hp
                obtain ⟨rfl, rfl⟩ : bi = w5.heap.size ∧ off = 0 := by cases hia; exact ⟨rfl, rfl⟩
                simp only [Nat.zero_add] at e0 e1 e2 e3
                have HAO := Lw.hid hao; have HD := Lw.hid hd
                have hpt : p.text.length ≤ 1000000 := by have := tmass_mem hpm; have h1 := HMASS.out; have h7 : tmass ([Prt.mk 1 [] [] true]) = tmass (quoted0 []) := rfl; omega
                have HPT := Lw.hid hpt
                have hltm : k < 1 := by rw [hm]; exact hlt
                have hbl : w5.heap.size < wr.heap.size := World.block_lt_of_cell? wr _ e0
                clear hp hd hpm hao hpt hm
                go_wp2_with fail
                refine (WL.put (((HLI.out.call ((K1.refl g wr).alloc _)).weak (fun b hb => .inl hb)) : WL w g (fun b => wo.heap.size ≤ b ∧ b < w5.heap.size + 1) l' u7 _) (HRI.out.kept ((Kept.refl (fun _ => False) wr).alloc _) (fun h => h)) p (.slice oa on oc) (HAO.out.kept ((Kept.refl (fun _ => False) wr).alloc _) (fun _ _ h => h)) (by have h1 := HMASS.out; have h2 := HLIM.out; have h3 := HLL.out; simp only [List.length_cons] at h2; have h5 := hk; have h6 : ([Prt.mk 1 [] [] true]).length = (quoted0 []).length := rfl; omega) (by have h1 := HMASS.out; have h2 := HLIM.out; have h3 := HTT.out; simp only [List.length_cons] at h2; have h7 : tmass ([Prt.mk 1 [] [] true]) = tmass (quoted0 []) := rfl; omega) HPT.out).mono ?_
                rintro x w7 ⟨v7, rfl, hr7, hl7, S, hS, hSP⟩
                have HR7 := Lw.hid hr7; have HL7 := Lw.hid hl7
                have HA7 := Lw.hid ((HAI.out.kept ((Kept.refl (fun _ => False) wr).alloc _) (fun _ _ h => h)).kept hS (fun b hb => hSP b (.inl hb)))
                clear hr7 hl7 hS hSP
                go_wp2_with fail
                go_roundg (([Prt.mk 1 [] [] true]).length - (k + 1))
                case measure => omega
                case rel => exact ⟨k + 1, putF l' p, rfl, hlt, by go_num, HR7.out, HL7.out, HA7.out, by rw [← HFO.out, HD.out, List.foldl_cons], by have h1 := HLL.out; have h2 := (putF_mass l' p).1; omega, by have h1 := HTT.out; have h2 := (putF_mass l' p).2; rw [HD.out] at h1; have h3 : tmass (p :: ([Prt.mk 1 [] [] true]).drop (k + 1)) = p.text.length + tmass (([Prt.mk 1 [] [] true]).drop (k + 1)) := rfl; omega⟩
              · have hke : k = ([Prt.mk 1 [] [] true]).length := by omega
                have hkm : k = 1 := by omega
                have HFE : Hid (l' = (quoted0 []).foldl putF l) := Lw.hid (by
                  have := HFO.out
                  rw [hke, List.drop_length] at this
                  exact this)
                clear hke hm
                go_wp2_with fail
                refine (starts_any _ g u5 [34] b5 HRI.out (by have h1 := HMASS.out; omega) (by decide) _ rfl).mono ?_
                rintro x w8 ⟨rfl, hr8, k8⟩
                have hr8' : RdrAt w8 g ⟨strip34 u5, b5⟩ := by rw [← strip34_starts]; exact hr8
                have HR8 := Lw.hid hr8'
                have HL8 := Lw.hid ((HLI.out.call k8).weak (P' := fun _ => False) (fun _ h => h.elim))
                clear hr8 hr8' k8
                go_wp2_with fail
                go_roundg (strip34 u5).length
                case measure => have h1 := HMASS.out; simp only [List.length_cons]; omega
                case rel => exact ⟨⟨strip34 u5, b5⟩, l', rfl, HR8.out, HL8.out, by rw [HFE.out, ← HWD.out, HSTEP.out], by rw [HFE.out]; have h1 := HMASS.out; have h2 := HLIM.out; simp only [List.length_cons] at h2; simp only; omega, by rw [HFE.out]; have h1 := HMASS.out; have h2 := HLIM.out; simp only [List.length_cons] at h2; simp only; omega⟩
          | cons j0 J0 =>
            have hm0 : ((m : Int) == 0) = false := by
              have h1 := HME.out
              simp only [List.length_cons] at h1
              apply beq_eq_false_iff_ne.2
              omega
            have hm9 : m ≤ 1000000 := by
              have h1 := HMASS.out
              have h2 := HME.out
              simp only [List.length_cons] at h1 h2
              omega
            go_wp2_with fail
            go_loopg [7, 99] ((j0 :: J0)).length (fun gk s7 s99 wx => IRel w g ⟨u5, b5⟩ (fun b => False ∨ (wo.heap.size ≤ b ∧ b < w5.heap.size)) (j0 :: J0) l (.slice ia m ic) gk s7 s99 wx)
            case atStart => exact ⟨0, l, rfl, Nat.zero_le _, rfl, HR5.out, HL5.out, HA5.out, rfl, Nat.le_refl _, rfl⟩
            case round =>
              obtain ⟨k, l', rfl, hk, rfl, hri, hli, hai, hfold, hll, htt⟩ := hrel
              have HRI := Lw.hid hri; have HLI := Lw.hid hli; have HAI := Lw.hid hai; have HFO := Lw.hid hfold; have HLL := Lw.hid hll; have HTT := Lw.hid htt
              have hm : m = ((j0 :: J0)).length := HME.out
              have HM := Lw.hid hm
              clear hri hli hai hfold hll htt
              by_cases hlt : k < ((j0 :: J0)).length
              · obtain ⟨p, hp⟩ : ∃ p, ((j0 :: J0))[k]? = some p := ⟨_, List.getElem?_eq_getElem hlt⟩
                have hd : ((j0 :: J0)).drop k = p :: ((j0 :: J0)).drop (k + 1) := by
                  rw [List.getElem?_eq_getElem hlt] at hp
                  rw [List.drop_eq_getElem_cons hlt, Option.some.inj hp]
                have hpm : p ∈ ((j0 :: J0)) := List.mem_of_getElem? hp
                obtain ⟨bi, off, oa, on, oc, hia, e0, e1, e2, e3, hao⟩ := HAI.out.elem.2 k p hp
                subst hia
                have HAO := Lw.hid hao; have HD := Lw.hid hd
                have hpt : p.text.length ≤ 1000000 := by have := tmass_mem hpm; have h1 := HMASS.out; have h7 : tmass ((j0 :: J0)) = tmass (quoted0 (j0 :: J0)) := rfl; omega
                have HPT := Lw.hid hpt
                have hltm : k < m := by rw [hm]; exact hlt
                have hbl : bi < wr.heap.size := World.block_lt_of_cell? wr _ e0
                clear hp hd hpm hao hpt hm
                go_wp2_with fail
                refine (WL.put (((HLI.out.call ((K1.refl g wr).alloc _)).weak (fun b hb => .inl hb)) : WL w g (fun b => False ∨ (wo.heap.size ≤ b ∧ b < w5.heap.size)) l' u7 _) (HRI.out.kept ((Kept.refl (fun _ => False) wr).alloc _) (fun h => h)) p (.slice oa on oc) (HAO.out.kept ((Kept.refl (fun _ => False) wr).alloc _) (fun _ _ h => h)) (by have h1 := HMASS.out; have h2 := HLIM.out; have h3 := HLL.out; simp only [List.length_cons] at h2; have h5 := hk; have h6 : ((j0 :: J0)).length = (quoted0 (j0 :: J0)).length := rfl; omega) (by have h1 := HMASS.out; have h2 := HLIM.out; have h3 := HTT.out; simp only [List.length_cons] at h2; have h7 : tmass ((j0 :: J0)) = tmass (quoted0 (j0 :: J0)) := rfl; omega) HPT.out).mono ?_
                rintro x w7 ⟨v7, rfl, hr7, hl7, S, hS, hSP⟩
                have HR7 := Lw.hid hr7; have HL7 := Lw.hid hl7
                have HA7 := Lw.hid ((HAI.out.kept ((Kept.refl (fun _ => False) wr).alloc _) (fun _ _ h => h)).kept hS (fun b hb => hSP b (.inl hb)))
                clear hr7 hl7 hS hSP
                go_wp2_with fail
                go_roundg (((j0 :: J0)).length - (k + 1))
                case measure => omega
                case rel => exact ⟨k + 1, putF l' p, rfl, hlt, by go_num, HR7.out, HL7.out, HA7.out, by rw [← HFO.out, HD.out, List.foldl_cons], by have h1 := HLL.out; have h2 := (putF_mass l' p).1; omega, by have h1 := HTT.out; have h2 := (putF_mass l' p).2; rw [HD.out] at h1; have h3 : tmass (p :: ((j0 :: J0)).drop (k + 1)) = p.text.length + tmass (((j0 :: J0)).drop (k + 1)) := rfl; omega⟩
              · have hke : k = ((j0 :: J0)).length := by omega
                have hkm : k = m := by omega
                have HFE : Hid (l' = (quoted0 (j0 :: J0)).foldl putF l) := Lw.hid (by
                  have := HFO.out
                  rw [hke, List.drop_length] at this
                  exact this)
                clear hke hm
                go_wp2_with fail
                refine (starts_any _ g u5 [34] b5 HRI.out (by have h1 := HMASS.out; omega) (by decide) _ rfl).mono ?_
                rintro x w8 ⟨rfl, hr8, k8⟩
                have hr8' : RdrAt w8 g ⟨strip34 u5, b5⟩ := by rw [← strip34_starts]; exact hr8
                have HR8 := Lw.hid hr8'
                have HL8 := Lw.hid ((HLI.out.call k8).weak (P' := fun _ => False) (fun _ h => h.elim))
                clear hr8 hr8' k8
                go_wp2_with fail
                go_roundg (strip34 u5).length
                case measure => have h1 := HMASS.out; simp only [List.length_cons]; omega
                case rel => exact ⟨⟨strip34 u5, b5⟩, l', rfl, HR8.out, HL8.out, by rw [HFE.out, ← HWD.out, HSTEP.out], by rw [HFE.out]; have h1 := HMASS.out; have h2 := HLIM.out; simp only [List.length_cons] at h2; simp only; omega, by rw [HFE.out]; have h1 := HMASS.out; have h2 := HLIM.out; simp only [List.length_cons] at h2; simp only; omega⟩
        have HSTEP : Hid (wordW .bare q l ⟨c :: r, false⟩ = wordW .bare q (putF l (.mk 1 [c] [] q)) ⟨r, false⟩) := Lw.hid (wordW_one _ _ _ (fun e => by cases e) h92 h36 (fun e => h39 e.1) (fun e => h34 e.1))
        have HS1 := Lw.hid (take_ne (r := c :: r) (p := [92]) (fun e => h92 (List.cons.inj (show (c :: r.take 0 : List UInt8) = [92] from e)).1))
        have HS2 := Lw.hid (take_ne (r := c :: r) (p := [36]) (fun e => h36 (List.cons.inj (show (c :: r.take 0 : List UInt8) = [36] from e)).1))
        have HS3 := Lw.hid (take_ne (r := c :: r) (p := [39]) (fun e => h39 (List.cons.inj (show (c :: r.take 0 : List UInt8) = [39] from e)).1))
        have HS4 := Lw.hid (take_ne (r := c :: r) (p := [34]) (fun e => h34 (List.cons.inj (show (c :: r.take 0 : List UInt8) = [34] from e)).1))
        have eH : (BA (c :: r)).extract 0 1 = BA [c] := BA_head (c :: r) 1
        have eT : (BA (c :: r)).extract 1 (r.length + 1) = BA r := BA_tail (c :: r) 1 (r.length + 1) rfl
        go_wp2_with fail
        go_quiet (fail)
        go_wp2_with fail
        refine (starts_any _ g (c :: r) [92] false (HR.out.drewN nq) hlc (by decide) false HS1.out).mono ?_
        rintro x w1 ⟨rfl, hr1, k1⟩
        have HR1 : Hid (RdrAt w1 g ⟨c :: r, false⟩) := Lw.hid hr1
        have HK1 := Lw.hid ((K1.drewN g wr nq).then k1)
        clear hr1 k1
        go_wp2_with fail
        refine (starts_any _ g (c :: r) [36] false HR1.out hlc (by decide) false HS2.out).mono ?_
        rintro x w2 ⟨rfl, hr2, k2⟩
        have HR2 : Hid (RdrAt w2 g ⟨c :: r, false⟩) := Lw.hid hr2
        have HK2 := Lw.hid k2
        clear hr2 k2
        go_wp2_with fail
        refine (starts_any _ g (c :: r) [39] false HR2.out hlc (by decide) false HS3.out).mono ?_
        rintro x w3 ⟨rfl, hr3, k3⟩
        have HR3 : Hid (RdrAt w3 g ⟨c :: r, false⟩) := Lw.hid hr3
        have HK3 := Lw.hid k3
        clear hr3 k3
        go_wp2_with fail
        refine (starts_any _ g (c :: r) [34] false HR3.out hlc (by decide) false HS4.out).mono ?_
        rintro x w4 ⟨rfl, hr4, k4⟩
        have HR4 : Hid (RdrAt w4 g ⟨c :: r, false⟩) := Lw.hid hr4
        have HK4 := Lw.hid k4
        clear hr4 k4
        clear g0 g1 gf0 gf1
        obtain ⟨⟨g0, g1⟩, gf0, gf1⟩ := HR4.out.cells
        have HL8 := Lw.hid (HL.out.call (((HK1.out.then HK2.out).then HK3.out).then HK4.out))
        go_wp2_with fail
        refine (HL8.out.put HR4.out (.mk 1 [c] [] q) (.slice none 0 0) (WAt.nil _ _) HLN.out HLT.out (by show 1 ≤ _; decide)).mono ?_
        rintro x w9 ⟨v9, rfl, hr9, hl9, _⟩
        have HR9 := Lw.hid hr9; have HL9 := Lw.hid hl9
        clear hr9 hl9 g0 g1 gf0 gf1
        obtain ⟨⟨g0, g1⟩, gf0, gf1⟩ := HR9.out.cells
        go_wp2_with fail
        go_roundg r.length
        case measure => simp
        case rel => exact LRel.step (st1 := ⟨r, false⟩) (HR9.out.left r) (HL9.out.call (K1.set (K1.refl g w9) _)) HWD.out HSTEP.out (by simp) (by show 1 + r.length ≤ (c :: r).length; simp; omega) HN.out HT.out
set_option maxHeartbeats 40000000 in
theorem word_dbl (N : Nat) (hN : N ≤ 100000) (HW : Hid (∀ M, M < N → CWord M)) (q : Bool) (w : World) (g : Nat) (s : List UInt8) (hsN : s.length ≤ N) (h : RdrAt w g ⟨s, false⟩) (hE : WEnv w) :
    Calls Tryd.prog 53 #[.pointer (some ⟨g, 0, none⟩), .int .i64 1, .bool q] w (WordPost w g .dbl q ⟨s, false⟩) := by
  have H := Lw.hid h
  have HE := Lw.hid hE
  have hgl := h.lt
  obtain ⟨R0, hR0⟩ : ∃ R0, wordW .dbl q [] ⟨s, false⟩ = R0 := ⟨_, rfl⟩
  have HR0 := Lw.hid hR0
  have hstart : LRel w g .dbl q N R0 s.length (.slice none 0 0) w := ⟨⟨s, false⟩, [], rfl, h, WL.nil w g hgl (K1.refl g w), hR0, by simpa using hsN, by show 0 + s.length ≤ N; omega⟩
  have HST := Lw.hid hstart
  clear h hE hR0 hstart
  go_enter Tryd.func53, Tryd.ntmps53
  go_wp2_with fail
  go_loopg [7] s.length (fun gk s7 wx => LRel w g .dbl q N R0 gk s7 wx)
  case atStart => exact HST.out
  case round =>
    obtain ⟨⟨u, bad⟩, l, rfl, hr, hl, hw, hn, ht⟩ := hrel
    obtain ⟨⟨g0, g1⟩, gf0, gf1⟩ := hr.cells
    simp only at g0 g1 hn ht
    have HR := Lw.hid hr; have HL := Lw.hid hl; have HWD := Lw.hid hw; have HN := Lw.hid hn; have HT := Lw.hid ht
    have HEX : Hid (WEnv wr) := Lw.hid (HE.out.kept1 H.out hl.kept)
    have hcl : g < wr.heap.size := hr.lt
    clear hr hl hw HST
    obtain ⟨te, fe, hend⟩ := HEX.out.ends
    have ce : wr.cell? ⟨1, 1, none⟩ = some (.string (BA [34])) := by have := heap_cell' hend 1; exact this
    clear hend
    cases u with
    | nil =>
      go_wp2_with fail
      go_quiet (fail)
      go_wp2_with fail
      go_ret
      exact LRel.fin HR.out HL.out HWD.out (wordW_nil _ _ _ _) HR0.out
    | cons c r =>
      cases bad with
      | true =>
        go_wp2_with fail
        go_quiet (fail)
        go_wp2_with fail
        go_ret
        exact LRel.fin HR.out HL.out HWD.out (wordW_bad _ _ _ _) HR0.out
      | false =>
        have hcr : r.length + 1 ≤ N := by simp at hn; omega
        have hlc : (c :: r).length ≤ 1000000 := by rw [List.length_cons]; omega
        have hlr : r.length ≤ 1000000 := by omega
        have hzc : (BA (c :: r)).size = r.length + 1 := BA_size _
        have gc0 := BA_get (l := c :: r) (k := 0) (c := c) rfl
        have hln : l.length ≤ 100000 := by simp at hn; omega
        have hlt : tmass l ≤ 1000000 := by simp at ht; omega
        have HLN := Lw.hid hln; have HLT := Lw.hid hlt
        clear hn ht hln hlt
        by_cases he : c = 34
        · have HPX : ∀ w, Hid (Calls Tryd.prog 55 #[.string (BA (c :: r)), .string (BA [34])] w fun e w' => e = .returned (.bool true) ∧ w' = w) := fun w => Lw.hid (hasq (by omega) (by decide) (by rw [he]; rfl))
          have HFIN : Hid (wordW .dbl q l ⟨c :: r, false⟩ = (l, ⟨c :: r, false⟩)) := Lw.hid (wordW_end _ _ _ _ (by rw [he]; rfl))
          have HPX := Lw.hid (fun w => (HPX w).out)
          clear he
          go_wp2_with fail
          go_quiet (first | (go_at_call 55; exact Calls.quiet_of_same (HPX.out _)) | (go_at_call 55; exact quiet_add_same (HPX.out _)))
          go_wp2_with fail
          go_ret
          exact LRel.fin HR.out HL.out HWD.out HFIN.out HR0.out
        have HPX : ∀ w, Hid (Calls Tryd.prog 55 #[.string (BA (c :: r)), .string (BA [34])] w fun e w' => e = .returned (.bool false) ∧ w' = w) := fun w => Lw.hid (hasq (by omega) (by decide) (take_ne (r := c :: r) (p := [34]) (fun e => he (List.cons.inj (show (c :: r.take 0 : List UInt8) = [34] from e)).1)))
        have HPX := Lw.hid (fun w => (HPX w).out)
        by_cases h92 : c = 92
        · have HSTEP : Hid (wordW .dbl q l ⟨c :: r, false⟩ = wordW .dbl q (putF l (pairR .dbl r).1) ⟨(pairR .dbl r).2, false⟩) := Lw.hid (by rw [h92]; exact wordW_pair _ _ _ _)
          have hs1 : ((c :: r).take 1 == [92]) = true := by rw [h92]; rfl
          have HS1 := Lw.hid hs1
          clear hs1 h92
          go_wp2_with fail
          go_quiet (first | (go_at_call 55; exact Calls.quiet_of_same (HPX.out _)) | (go_at_call 55; exact quiet_add_same (HPX.out _)))
          go_wp2_with fail
          refine (starts_any _ g (c :: r) [92] false (HR.out.drewN nq) hlc (by decide) true HS1.out).mono ?_
          rintro x w1 ⟨rfl, hr1, k1⟩
          have HR1 : Hid (RdrAt w1 g ⟨r, false⟩) := Lw.hid hr1
          have HK1 := Lw.hid ((K1.drewN g wr nq).then k1)
          clear hr1 k1
          go_wp2_with fail
          refine (pair_any .dbl _ g r false HR1.out hlr (HEX.out.kept1 HR.out HK1.out).lex).mono ?_
          rintro x w2 ⟨rfl, hr2, k2⟩
          have HR2 := Lw.hid hr2
          have HL2 := Lw.hid (HL.out.call (HK1.out.then k2))
          clear hr2 k2
          go_wp2_with fail
          refine (HL2.out.put HR2.out (pairR .dbl r).1 (.slice none 0 0) (WAt.nil _ _) HLN.out HLT.out (by have := pairR_mass .dbl r; omega)).mono ?_
          rintro x w3 ⟨v3, rfl, hr3, hl3, _⟩
          have HREL := Lw.hid (LRel.step hr3 hl3 HWD.out HSTEP.out (by have := pairR_len .dbl r; simp only [List.length_cons]; omega) (by have := pairR_mass .dbl r; simp only [List.length_cons]; omega) HN.out HT.out)
          clear hr3 hl3
          go_wp2_with fail
          go_roundg (pairR .dbl r).2.length
          case measure => have := pairR_len .dbl r; simp only [List.length_cons]; omega
          case rel => exact HREL.out
        by_cases h36 : c = 36
        · have HSTEP : Hid (wordW .dbl q l ⟨c :: r, false⟩ = wordW .dbl q (putF l (dollarR (wordW .brc q []) q r).1) (dollarR (wordW .brc q []) q r).2) := Lw.hid (by rw [h36]; exact wordW_dollar _ _ _ _)
          have HS1 := Lw.hid (take_ne (r := c :: r) (p := [92]) (fun e => h92 (List.cons.inj (show (c :: r.take 0 : List UInt8) = [92] from e)).1))
          have hs2 : ((c :: r).take 1 == [36]) = true := by rw [h36]; rfl
          have HS2 := Lw.hid hs2
          clear hs2 h36
          go_wp2_with fail
          go_quiet (first | (go_at_call 55; exact Calls.quiet_of_same (HPX.out _)) | (go_at_call 55; exact quiet_add_same (HPX.out _)))
          go_wp2_with fail
          refine (starts_any _ g (c :: r) [92] false (HR.out.drewN nq) hlc (by decide) false HS1.out).mono ?_
          rintro x w1 ⟨rfl, hr1, k1⟩
          have HR1 : Hid (RdrAt w1 g ⟨c :: r, false⟩) := Lw.hid hr1
          have HK1 := Lw.hid ((K1.drewN g wr nq).then k1)
          clear hr1 k1
          go_wp2_with fail
          refine (starts_any _ g (c :: r) [36] false HR1.out hlc (by decide) true HS2.out).mono ?_
          rintro x w2 ⟨rfl, hr2, k2⟩
          have HR2 : Hid (RdrAt w2 g ⟨r, false⟩) := Lw.hid hr2
          have HK2 := Lw.hid k2
          clear hr2 k2
          go_wp2_with fail
          have HCW : Hid (CWord r.length) := Lw.hid (HW.out r.length hcr)
          refine (dollar_any r.length HCW q _ g r HR2.out (by omega) (Nat.le_refl _) (HEX.out.kept1 HR.out (HK1.out.then HK2.out))).mono ?_
          rintro x w3 ⟨ov, rfl, hr3, ha3, k3⟩
          have HR3 := Lw.hid hr3
          have hsz2 := (HK1.out.then HK2.out).size
          have HA3 := Lw.hid (ha3.mono (G := fun b => False ∨ (wr.heap.size ≤ b ∧ b < w3.heap.size)) (fun b hb hx => .inr ⟨by omega, hb⟩))
          have HL3 := Lw.hid (HL.out.call ((HK1.out.then HK2.out).then k3))
          have hdm : (dollarR (wordW .brc q []) q r).1.text.length + (dollarR (wordW .brc q []) q r).2.s.length ≤ r.length + 1 := dollarR_mass (fun st _ => wordW_len _ _ _ st)
          have hdl := dollarW_len q r
          have HDM := Lw.hid hdm; have HDL := Lw.hid hdl
          clear hr3 ha3 k3 hsz2 hdm hdl
          go_wp2_with fail
          refine (HL3.out.put HR3.out (dollarR (wordW .brc q []) q r).1 ov HA3.out HLN.out HLT.out (by have := HDM.out; omega)).mono ?_
          rintro x w4 ⟨v4, rfl, hr4, hl4, _⟩
          have HREL := Lw.hid (LRel.step hr4 hl4 HWD.out HSTEP.out (by have := HDL.out; simp only [List.length_cons]; omega) (by have := HDM.out; simp only [List.length_cons]; omega) HN.out HT.out)
          clear hr4 hl4
          go_wp2_with fail
          go_roundg (dollarR (wordW .brc q []) q r).2.s.length
          case measure => have := HDL.out; simp only [List.length_cons]; omega
          case rel => exact HREL.out
        have HSTEP : Hid (wordW .dbl q l ⟨c :: r, false⟩ = wordW .dbl q (putF l (.mk 1 [c] [] q)) ⟨r, false⟩) := Lw.hid (wordW_one _ _ _ (fun e => he (Option.some.inj e).symm) h92 h36 (fun e => e.2 rfl) (fun e => e.2 rfl))
        have HS1 := Lw.hid (take_ne (r := c :: r) (p := [92]) (fun e => h92 (List.cons.inj (show (c :: r.take 0 : List UInt8) = [92] from e)).1))
        have HS2 := Lw.hid (take_ne (r := c :: r) (p := [36]) (fun e => h36 (List.cons.inj (show (c :: r.take 0 : List UInt8) = [36] from e)).1))
        have eH : (BA (c :: r)).extract 0 1 = BA [c] := BA_head (c :: r) 1
        have eT : (BA (c :: r)).extract 1 (r.length + 1) = BA r := BA_tail (c :: r) 1 (r.length + 1) rfl
        go_wp2_with fail
        go_quiet (first | (go_at_call 55; exact Calls.quiet_of_same (HPX.out _)) | (go_at_call 55; exact quiet_add_same (HPX.out _)))
        go_wp2_with fail
        refine (starts_any _ g (c :: r) [92] false (HR.out.drewN nq) hlc (by decide) false HS1.out).mono ?_
        rintro x w1 ⟨rfl, hr1, k1⟩
        have HR1 : Hid (RdrAt w1 g ⟨c :: r, false⟩) := Lw.hid hr1
        have HK1 := Lw.hid ((K1.drewN g wr nq).then k1)
        clear hr1 k1
        go_wp2_with fail
        refine (starts_any _ g (c :: r) [36] false HR1.out hlc (by decide) false HS2.out).mono ?_
        rintro x w2 ⟨rfl, hr2, k2⟩
        have HR2 : Hid (RdrAt w2 g ⟨c :: r, false⟩) := Lw.hid hr2
        have HK2 := Lw.hid k2
        clear hr2 k2
        clear g0 g1 gf0 gf1
        obtain ⟨⟨g0, g1⟩, gf0, gf1⟩ := HR2.out.cells
        have HL8 := Lw.hid (HL.out.call (HK1.out.then HK2.out))
        go_wp2_with fail
        refine (HL8.out.put HR2.out (.mk 1 [c] [] q) (.slice none 0 0) (WAt.nil _ _) HLN.out HLT.out (by show 1 ≤ _; decide)).mono ?_
        rintro x w9 ⟨v9, rfl, hr9, hl9, _⟩
        have HR9 := Lw.hid hr9; have HL9 := Lw.hid hl9
        clear hr9 hl9 g0 g1 gf0 gf1
        obtain ⟨⟨g0, g1⟩, gf0, gf1⟩ := HR9.out.cells
        go_wp2_with fail
        go_roundg r.length
        case measure => simp
        case rel => exact LRel.step (st1 := ⟨r, false⟩) (HR9.out.left r) (HL9.out.call (K1.set (K1.refl g w9) _)) HWD.out HSTEP.out (by simp) (by show 1 + r.length ≤ (c :: r).length; simp; omega) HN.out HT.out
set_option maxHeartbeats 40000000 in
theorem word_brc (N : Nat) (hN : N ≤ 100000) (HW : Hid (∀ M, M < N → CWord M)) (q : Bool) (w : World) (g : Nat) (s : List UInt8) (hsN : s.length ≤ N) (h : RdrAt w g ⟨s, false⟩) (hE : WEnv w) :
    Calls Tryd.prog 53 #[.pointer (some ⟨g, 0, none⟩), .int .i64 2, .bool q] w (WordPost w g .brc q ⟨s, false⟩) := by
  have H := Lw.hid h
  have HE := Lw.hid hE
  have hgl := h.lt
  obtain ⟨R0, hR0⟩ : ∃ R0, wordW .brc q [] ⟨s, false⟩ = R0 := ⟨_, rfl⟩
  have HR0 := Lw.hid hR0
  have hstart : LRel w g .brc q N R0 s.length (.slice none 0 0) w := ⟨⟨s, false⟩, [], rfl, h, WL.nil w g hgl (K1.refl g w), hR0, by simpa using hsN, by show 0 + s.length ≤ N; omega⟩
  have HST := Lw.hid hstart
  clear h hE hR0 hstart
  go_enter Tryd.func53, Tryd.ntmps53
  go_wp2_with fail
  go_loopg [7] s.length (fun gk s7 wx => LRel w g .brc q N R0 gk s7 wx)
  case atStart => exact HST.out
  case round =>
    obtain ⟨⟨u, bad⟩, l, rfl, hr, hl, hw, hn, ht⟩ := hrel
    obtain ⟨⟨g0, g1⟩, gf0, gf1⟩ := hr.cells
    simp only at g0 g1 hn ht
    have HR := Lw.hid hr; have HL := Lw.hid hl; have HWD := Lw.hid hw; have HN := Lw.hid hn; have HT := Lw.hid ht
    have HEX : Hid (WEnv wr) := Lw.hid (HE.out.kept1 H.out hl.kept)
    have hcl : g < wr.heap.size := hr.lt
    clear hr hl hw HST
    obtain ⟨te, fe, hend⟩ := HEX.out.ends
    have ce : wr.cell? ⟨1, 2, none⟩ = some (.string (BA [125])) := by have := heap_cell' hend 2; exact this
    clear hend
    cases u with
    | nil =>
      go_wp2_with fail
      go_quiet (fail)
      go_wp2_with fail
      go_ret
      exact LRel.fin HR.out HL.out HWD.out (wordW_nil _ _ _ _) HR0.out
    | cons c r =>
      cases bad with
      | true =>
        go_wp2_with fail
        go_quiet (fail)
        go_wp2_with fail
        go_ret
        exact LRel.fin HR.out HL.out HWD.out (wordW_bad _ _ _ _) HR0.out
      | false =>
        have hcr : r.length + 1 ≤ N := by simp at hn; omega
        have hlc : (c :: r).length ≤ 1000000 := by rw [List.length_cons]; omega
        have hlr : r.length ≤ 1000000 := by omega
        have hzc : (BA (c :: r)).size = r.length + 1 := BA_size _
        have gc0 := BA_get (l := c :: r) (k := 0) (c := c) rfl
        have hln : l.length ≤ 100000 := by simp at hn; omega
        have hlt : tmass l ≤ 1000000 := by simp at ht; omega
        have HLN := Lw.hid hln; have HLT := Lw.hid hlt
        clear hn ht hln hlt
        by_cases he : c = 125
        · have HPX : ∀ w, Hid (Calls Tryd.prog 55 #[.string (BA (c :: r)), .string (BA [125])] w fun e w' => e = .returned (.bool true) ∧ w' = w) := fun w => Lw.hid (hasq (by omega) (by decide) (by rw [he]; rfl))
          have HFIN : Hid (wordW .brc q l ⟨c :: r, false⟩ = (l, ⟨c :: r, false⟩)) := Lw.hid (wordW_end _ _ _ _ (by rw [he]; rfl))
          have HPX := Lw.hid (fun w => (HPX w).out)
          clear he
          go_wp2_with fail
          go_quiet (first | (go_at_call 55; exact Calls.quiet_of_same (HPX.out _)) | (go_at_call 55; exact quiet_add_same (HPX.out _)))
          go_wp2_with fail
          go_ret
          exact LRel.fin HR.out HL.out HWD.out HFIN.out HR0.out
        have HPX : ∀ w, Hid (Calls Tryd.prog 55 #[.string (BA (c :: r)), .string (BA [125])] w fun e w' => e = .returned (.bool false) ∧ w' = w) := fun w => Lw.hid (hasq (by omega) (by decide) (take_ne (r := c :: r) (p := [125]) (fun e => he (List.cons.inj (show (c :: r.take 0 : List UInt8) = [125] from e)).1)))
        have HPX := Lw.hid (fun w => (HPX w).out)
        by_cases h92 : c = 92
        · have HSTEP : Hid (wordW .brc q l ⟨c :: r, false⟩ = wordW .brc q (putF l (pairR .brc r).1) ⟨(pairR .brc r).2, false⟩) := Lw.hid (by rw [h92]; exact wordW_pair _ _ _ _)
          have hs1 : ((c :: r).take 1 == [92]) = true := by rw [h92]; rfl
          have HS1 := Lw.hid hs1
          clear hs1 h92
          go_wp2_with fail
          go_quiet (first | (go_at_call 55; exact Calls.quiet_of_same (HPX.out _)) | (go_at_call 55; exact quiet_add_same (HPX.out _)))
          go_wp2_with fail
          refine (starts_any _ g (c :: r) [92] false (HR.out.drewN nq) hlc (by decide) true HS1.out).mono ?_
          rintro x w1 ⟨rfl, hr1, k1⟩
          have HR1 : Hid (RdrAt w1 g ⟨r, false⟩) := Lw.hid hr1
          have HK1 := Lw.hid ((K1.drewN g wr nq).then k1)
          clear hr1 k1
          go_wp2_with fail
          refine (pair_any .brc _ g r false HR1.out hlr (HEX.out.kept1 HR.out HK1.out).lex).mono ?_
          rintro x w2 ⟨rfl, hr2, k2⟩
          have HR2 := Lw.hid hr2
          have HL2 := Lw.hid (HL.out.call (HK1.out.then k2))
          clear hr2 k2
          go_wp2_with fail
          refine (HL2.out.put HR2.out (pairR .brc r).1 (.slice none 0 0) (WAt.nil _ _) HLN.out HLT.out (by have := pairR_mass .brc r; omega)).mono ?_
          rintro x w3 ⟨v3, rfl, hr3, hl3, _⟩
          have HREL := Lw.hid (LRel.step hr3 hl3 HWD.out HSTEP.out (by have := pairR_len .brc r; simp only [List.length_cons]; omega) (by have := pairR_mass .brc r; simp only [List.length_cons]; omega) HN.out HT.out)
          clear hr3 hl3
          go_wp2_with fail
          go_roundg (pairR .brc r).2.length
          case measure => have := pairR_len .brc r; simp only [List.length_cons]; omega
          case rel => exact HREL.out
        by_cases h36 : c = 36
        · have HSTEP : Hid (wordW .brc q l ⟨c :: r, false⟩ = wordW .brc q (putF l (dollarR (wordW .brc q []) q r).1) (dollarR (wordW .brc q []) q r).2) := Lw.hid (by rw [h36]; exact wordW_dollar _ _ _ _)
          have HS1 := Lw.hid (take_ne (r := c :: r) (p := [92]) (fun e => h92 (List.cons.inj (show (c :: r.take 0 : List UInt8) = [92] from e)).1))
          have hs2 : ((c :: r).take 1 == [36]) = true := by rw [h36]; rfl
          have HS2 := Lw.hid hs2
          clear hs2 h36
          go_wp2_with fail
          go_quiet (first | (go_at_call 55; exact Calls.quiet_of_same (HPX.out _)) | (go_at_call 55; exact quiet_add_same (HPX.out _)))
          go_wp2_with fail
          refine (starts_any _ g (c :: r) [92] false (HR.out.drewN nq) hlc (by decide) false HS1.out).mono ?_
          rintro x w1 ⟨rfl, hr1, k1⟩
          have HR1 : Hid (RdrAt w1 g ⟨c :: r, false⟩) := Lw.hid hr1
          have HK1 := Lw.hid ((K1.drewN g wr nq).then k1)
          clear hr1 k1
          go_wp2_with fail
          refine (starts_any _ g (c :: r) [36] false HR1.out hlc (by decide) true HS2.out).mono ?_
          rintro x w2 ⟨rfl, hr2, k2⟩
          have HR2 : Hid (RdrAt w2 g ⟨r, false⟩) := Lw.hid hr2
          have HK2 := Lw.hid k2
          clear hr2 k2
          go_wp2_with fail
          have HCW : Hid (CWord r.length) := Lw.hid (HW.out r.length hcr)
          refine (dollar_any r.length HCW q _ g r HR2.out (by omega) (Nat.le_refl _) (HEX.out.kept1 HR.out (HK1.out.then HK2.out))).mono ?_
          rintro x w3 ⟨ov, rfl, hr3, ha3, k3⟩
          have HR3 := Lw.hid hr3
          have hsz2 := (HK1.out.then HK2.out).size
          have HA3 := Lw.hid (ha3.mono (G := fun b => False ∨ (wr.heap.size ≤ b ∧ b < w3.heap.size)) (fun b hb hx => .inr ⟨by omega, hb⟩))
          have HL3 := Lw.hid (HL.out.call ((HK1.out.then HK2.out).then k3))
          have hdm : (dollarR (wordW .brc q []) q r).1.text.length + (dollarR (wordW .brc q []) q r).2.s.length ≤ r.length + 1 := dollarR_mass (fun st _ => wordW_len _ _ _ st)
          have hdl := dollarW_len q r
          have HDM := Lw.hid hdm; have HDL := Lw.hid hdl
          clear hr3 ha3 k3 hsz2 hdm hdl
          go_wp2_with fail
          refine (HL3.out.put HR3.out (dollarR (wordW .brc q []) q r).1 ov HA3.out HLN.out HLT.out (by have := HDM.out; omega)).mono ?_
          rintro x w4 ⟨v4, rfl, hr4, hl4, _⟩
          have HREL := Lw.hid (LRel.step hr4 hl4 HWD.out HSTEP.out (by have := HDL.out; simp only [List.length_cons]; omega) (by have := HDM.out; simp only [List.length_cons]; omega) HN.out HT.out)
          clear hr4 hl4
          go_wp2_with fail
          go_roundg (dollarR (wordW .brc q []) q r).2.s.length
          case measure => have := HDL.out; simp only [List.length_cons]; omega
          case rel => exact HREL.out
        by_cases h39 : c = 39
        · have HSTEP : Hid (wordW .brc q l ⟨c :: r, false⟩ = wordW .brc q (putF l (.mk 1 (cutR 39 r).1 [] true)) ⟨(cutR 39 r).2, false⟩) := Lw.hid (by rw [h39]; exact wordW_single _ _ _ (by decide))
          have HS1 := Lw.hid (take_ne (r := c :: r) (p := [92]) (fun e => h92 (List.cons.inj (show (c :: r.take 0 : List UInt8) = [92] from e)).1))
          have HS2 := Lw.hid (take_ne (r := c :: r) (p := [36]) (fun e => h36 (List.cons.inj (show (c :: r.take 0 : List UInt8) = [36] from e)).1))
          have hs3 : ((c :: r).take 1 == [39]) = true := by rw [h39]; rfl
          have HS3 := Lw.hid hs3
          clear hs3 h39
          go_wp2_with fail
          go_quiet (first | (go_at_call 55; exact Calls.quiet_of_same (HPX.out _)) | (go_at_call 55; exact quiet_add_same (HPX.out _)))
          go_wp2_with fail
          refine (starts_any _ g (c :: r) [92] false (HR.out.drewN nq) hlc (by decide) false HS1.out).mono ?_
          rintro x w1 ⟨rfl, hr1, k1⟩
          have HR1 : Hid (RdrAt w1 g ⟨c :: r, false⟩) := Lw.hid hr1
          have HK1 := Lw.hid ((K1.drewN g wr nq).then k1)
          clear hr1 k1
          go_wp2_with fail
          refine (starts_any _ g (c :: r) [36] false HR1.out hlc (by decide) false HS2.out).mono ?_
          rintro x w2 ⟨rfl, hr2, k2⟩
          have HR2 : Hid (RdrAt w2 g ⟨c :: r, false⟩) := Lw.hid hr2
          have HK2 := Lw.hid k2
          clear hr2 k2
          go_wp2_with fail
          refine (starts_any _ g (c :: r) [39] false HR2.out hlc (by decide) true HS3.out).mono ?_
          rintro x w3 ⟨rfl, hr3, k3⟩
          have HR3 : Hid (RdrAt w3 g ⟨r, false⟩) := Lw.hid hr3
          have HK3 := Lw.hid k3
          clear hr3 k3
          go_wp2_with fail
          refine (rcut_any _ g r false HR3.out hlr (HEX.out.kept1 HR.out ((HK1.out.then HK2.out).then HK3.out)).lex).mono ?_
          rintro x w4 ⟨rfl, hr4, k4⟩
          have HR4 := Lw.hid hr4
          have HL4 := Lw.hid (HL.out.call (((HK1.out.then HK2.out).then HK3.out).then k4))
          clear hr4 k4
          go_wp2_with fail
          refine (HL4.out.put HR4.out (.mk 1 (cutR 39 r).1 [] true) (.slice none 0 0) (WAt.nil _ _) HLN.out HLT.out (by have := cutR_mass 39 r; show (cutR 39 r).1.length ≤ _; omega)).mono ?_
          rintro x w5 ⟨v5, rfl, hr5, hl5, _⟩
          have HREL := Lw.hid (LRel.step hr5 hl5 HWD.out HSTEP.out (by have := cutR_len 39 r; simp only [List.length_cons]; omega) (by have := cutR_mass 39 r; show (cutR 39 r).1.length + _ ≤ _; simp only [List.length_cons]; omega) HN.out HT.out)
          clear hr5 hl5
          go_wp2_with fail
          go_roundg (cutR 39 r).2.length
          case measure => have := cutR_len 39 r; simp only [List.length_cons]; omega
          case rel => exact HREL.out
        by_cases h34 : c = 34
        · have HSTEP : Hid (wordW .brc q l ⟨c :: r, false⟩ = wordW .brc q ((quoted0 (wordW .dbl true [] ⟨r, false⟩).1).foldl putF l) ⟨strip34 (wordW .dbl true [] ⟨r, false⟩).2.s, (wordW .dbl true [] ⟨r, false⟩).2.bad⟩) := Lw.hid (by rw [h34]; exact wordW_double _ _ _ (by decide))
          have HS1 := Lw.hid (take_ne (r := c :: r) (p := [92]) (fun e => h92 (List.cons.inj (show (c :: r.take 0 : List UInt8) = [92] from e)).1))
          have HS2 := Lw.hid (take_ne (r := c :: r) (p := [36]) (fun e => h36 (List.cons.inj (show (c :: r.take 0 : List UInt8) = [36] from e)).1))
          have HS3 := Lw.hid (take_ne (r := c :: r) (p := [39]) (fun e => h39 (List.cons.inj (show (c :: r.take 0 : List UInt8) = [39] from e)).1))
          have hs4 : ((c :: r).take 1 == [34]) = true := by rw [h34]; rfl
          have HS4 := Lw.hid hs4
          clear hs4 h34
          have hmass := wordW_mass .dbl true [] ⟨r, false⟩
          obtain ⟨J0, ⟨u5, b5⟩, hI⟩ : ∃ J0 st, wordW .dbl true [] ⟨r, false⟩ = (J0, st) := ⟨_, _, rfl⟩
          rw [hI] at hmass HSTEP
          simp only [List.length_nil] at hmass
          have hqm := quoted0_mass J0
          have hfm := fold_mass (quoted0 J0) l
          have hst := strip34_len u5
          have ht0 : tmass ([] : List Prt) = 0 := rfl
          have HMASS : Hid (J0.length + u5.length ≤ r.length ∧ tmass J0 + u5.length ≤ r.length ∧ tmass (quoted0 J0) = tmass J0 ∧ (quoted0 J0).length ≤ J0.length + 1 ∧ (strip34 u5).length ≤ u5.length ∧ ((quoted0 J0).foldl putF l).length ≤ l.length + (quoted0 J0).length ∧ tmass ((quoted0 J0).foldl putF l) = tmass l + tmass (quoted0 J0)) := Lw.hid ⟨by omega, by omega, hqm.2, hqm.1, hst, hfm.1, hfm.2⟩
          have HLIM : Hid (l.length + (c :: r).length ≤ N ∧ tmass l + (c :: r).length ≤ N) := Lw.hid ⟨HN.out, HT.out⟩
          have HI := Lw.hid hI
          clear hmass hqm hfm hst ht0 hI
          go_wp2_with fail
          go_quiet (first | (go_at_call 55; exact Calls.quiet_of_same (HPX.out _)) | (go_at_call 55; exact quiet_add_same (HPX.out _)))
          go_wp2_with fail
          refine (starts_any _ g (c :: r) [92] false (HR.out.drewN nq) hlc (by decide) false HS1.out).mono ?_
          rintro x w1 ⟨rfl, hr1, k1⟩
          have HR1 : Hid (RdrAt w1 g ⟨c :: r, false⟩) := Lw.hid hr1
          have HK1 := Lw.hid ((K1.drewN g wr nq).then k1)
          clear hr1 k1
          go_wp2_with fail
          refine (starts_any _ g (c :: r) [36] false HR1.out hlc (by decide) false HS2.out).mono ?_
          rintro x w2 ⟨rfl, hr2, k2⟩
          have HR2 : Hid (RdrAt w2 g ⟨c :: r, false⟩) := Lw.hid hr2
          have HK2 := Lw.hid k2
          clear hr2 k2
          go_wp2_with fail
          refine (starts_any _ g (c :: r) [39] false HR2.out hlc (by decide) false HS3.out).mono ?_
          rintro x w3 ⟨rfl, hr3, k3⟩
          have HR3 : Hid (RdrAt w3 g ⟨c :: r, false⟩) := Lw.hid hr3
          have HK3 := Lw.hid k3
          clear hr3 k3
          go_wp2_with fail
          refine (starts_any _ g (c :: r) [34] false HR3.out hlc (by decide) true HS4.out).mono ?_
          rintro x w4 ⟨rfl, hr4, k4⟩
          have HR4 : Hid (RdrAt w4 g ⟨r, false⟩) := Lw.hid hr4
          have HK4 := Lw.hid k4
          clear hr4 k4
          go_wp2_with fail
          have HCW : Hid (CWord r.length) := Lw.hid (HW.out r.length hcr)
          have hwd := HCW.out .dbl true _ g r (Nat.le_refl _) HR4.out (HEX.out.kept1 HR.out (((HK1.out.then HK2.out).then HK3.out).then HK4.out))
          unfold WordPost at hwd
          rw [HI.out] at hwd
          refine hwd.mono ?_
          rintro x w5 ⟨vi, rfl, hr5, ha5, k5⟩
          clear hwd
          have HR5 := Lw.hid hr5
          have hsz4 := (((HK1.out.then HK2.out).then HK3.out).then HK4.out).size
          have hsz5 := k5.size
          have HA5 := Lw.hid (ha5.mono (G := fun b => False ∨ (wr.heap.size ≤ b ∧ b < w5.heap.size)) (fun b hb hx => .inr ⟨by omega, hb⟩))
          have HL5 := Lw.hid (HL.out.call ((((HK1.out.then HK2.out).then HK3.out).then HK4.out).then k5))
          have hle5 : wr.heap.size ≤ w5.heap.size := by omega
          obtain ⟨ia, m, ic, rfl⟩ := ha5.slice
          have HME := Lw.hid ha5.elem.1
          clear hr5 ha5 k5 hsz4 hsz5
          clear g0 g1 gf0 gf1
          obtain ⟨wo, rfl⟩ : ∃ wo : World, wo = wr := ⟨_, rfl⟩
          cases J0 with
          | nil =>
            have hm0 : m = 0 := HME.out
            subst hm0
            have HAL := Lw.hid (WAt.one w5 (.mk 1 [] [] true) rfl)
            have HAP : Hid (WAt (w5.alloc (.cells #[.int .i64 1, .string (BA []), .slice none 0 0, .bool true] 46)) (fun b => wo.heap.size ≤ b ∧ b < w5.heap.size + 1) (.slice (some ⟨w5.heap.size, 0, none⟩) 1 1) [.mk 1 [] [] true]) := Lw.hid (HAL.out.mono (fun b _ hb => ⟨by omega, hb.2⟩))
            have HLP : Hid (WL w g (fun b => wo.heap.size ≤ b ∧ b < w5.heap.size + 1) l u7 (w5.alloc (.cells #[.int .i64 1, .string (BA []), .slice none 0 0, .bool true] 46))) := Lw.hid ((HL5.out.call ((K1.refl g w5).alloc _)).weak (fun b hb => by rw [World.size_alloc]; by_cases h : b < w5.heap.size; exact .inl (.inr ⟨hb.1, h⟩); exact .inr ⟨by omega, hb.2⟩))
            have HRP : Hid (RdrAt (w5.alloc (.cells #[.int .i64 1, .string (BA []), .slice none 0 0, .bool true] 46)) g ⟨u5, b5⟩) := Lw.hid (HR5.out.kept ((Kept.refl (fun _ => False) w5).alloc _) (fun h => h))
            go_wp2_with fail
            go_loopg [7, 99] ([Prt.mk 1 [] [] true]).length (fun gk s7 s99 wx => IRel w g ⟨u5, b5⟩ (fun b => wo.heap.size ≤ b ∧ b < w5.heap.size + 1) [Prt.mk 1 [] [] true] l (.slice (some ⟨w5.heap.size, 0, none⟩) 1 1) gk s7 s99 wx)
            case atStart => exact ⟨0, l, rfl, Nat.zero_le _, rfl, HRP.out, HLP.out, HAP.out, rfl, Nat.le_refl _, rfl⟩
            case round =>
              obtain ⟨k, l', rfl, hk, rfl, hri, hli, hai, hfold, hll, htt⟩ := hrel
              have HRI := Lw.hid hri; have HLI := Lw.hid hli; have HAI := Lw.hid hai; have HFO := Lw.hid hfold; have HLL := Lw.hid hll; have HTT := Lw.hid htt
              have hm : 1 = ([Prt.mk 1 [] [] true]).length := rfl
              have HM := Lw.hid hm
              clear hri hli hai hfold hll htt
              by_cases hlt : k < ([Prt.mk 1 [] [] true]).length
              · obtain ⟨p, hp⟩ : ∃ p, ([Prt.mk 1 [] [] true])[k]? = some p := ⟨_, List.getElem?_eq_getElem hlt⟩
                have hd : ([Prt.mk 1 [] [] true]).drop k = p :: ([Prt.mk 1 [] [] true]).drop (k + 1) := by
                  rw [List.getElem?_eq_getElem hlt] at hp
                  rw [List.drop_eq_getElem_cons hlt, Option.some.inj hp]
                have hpm : p ∈ ([Prt.mk 1 [] [] true]) := List.mem_of_getElem? hp
                obtain ⟨bi, off, oa, on, oc, hia, e0, e1, e2, e3, hao⟩ := HAI.out.elem.2 k p hp
                obtain ⟨rfl, rfl⟩ : bi = w5.heap.size ∧ off = 0 := by cases hia; exact ⟨rfl, rfl⟩
                simp only [Nat.zero_add] at e0 e1 e2 e3
                have HAO := Lw.hid hao; have HD := Lw.hid hd
                have hpt : p.text.length ≤ 1000000 := by have := tmass_mem hpm; have h1 := HMASS.out; have h7 : tmass ([Prt.mk 1 [] [] true]) = tmass (quoted0 []) := rfl; omega
                have HPT := Lw.hid hpt
                have hltm : k < 1 := by rw [hm]; exact hlt
                have hbl : w5.heap.size < wr.heap.size := World.block_lt_of_cell? wr _ e0
                clear hp hd hpm hao hpt hm
                go_wp2_with fail
                refine (WL.put (((HLI.out.call ((K1.refl g wr).alloc _)).weak (fun b hb => .inl hb)) : WL w g (fun b => wo.heap.size ≤ b ∧ b < w5.heap.size + 1) l' u7 _) (HRI.out.kept ((Kept.refl (fun _ => False) wr).alloc _) (fun h => h)) p (.slice oa on oc) (HAO.out.kept ((Kept.refl (fun _ => False) wr).alloc _) (fun _ _ h => h)) (by have h1 := HMASS.out; have h2 := HLIM.out; have h3 := HLL.out; simp only [List.length_cons] at h2; have h5 := hk; have h6 : ([Prt.mk 1 [] [] true]).length = (quoted0 []).length := rfl; omega) (by have h1 := HMASS.out; have h2 := HLIM.out; have h3 := HTT.out; simp only [List.length_cons] at h2; have h7 : tmass ([Prt.mk 1 [] [] true]) = tmass (quoted0 []) := rfl; omega) HPT.out).mono ?_
                rintro x w7 ⟨v7, rfl, hr7, hl7, S, hS, hSP⟩
                have HR7 := Lw.hid hr7; have HL7 := Lw.hid hl7
                have HA7 := Lw.hid ((HAI.out.kept ((Kept.refl (fun _ => False) wr).alloc _) (fun _ _ h => h)).kept hS (fun b hb => hSP b (.inl hb)))
                clear hr7 hl7 hS hSP
                go_wp2_with fail
                go_roundg (([Prt.mk 1 [] [] true]).length - (k + 1))
                case measure => omega
                case rel => exact ⟨k + 1, putF l' p, rfl, hlt, by go_num, HR7.out, HL7.out, HA7.out, by rw [← HFO.out, HD.out, List.foldl_cons], by have h1 := HLL.out; have h2 := (putF_mass l' p).1; omega, by have h1 := HTT.out; have h2 := (putF_mass l' p).2; rw [HD.out] at h1; have h3 : tmass (p :: ([Prt.mk 1 [] [] true]).drop (k + 1)) = p.text.length + tmass (([Prt.mk 1 [] [] true]).drop (k + 1)) := rfl; omega⟩
              · have hke : k = ([Prt.mk 1 [] [] true]).length := by omega
                have hkm : k = 1 := by omega
                have HFE : Hid (l' = (quoted0 []).foldl putF l) := Lw.hid (by
                  have := HFO.out
                  rw [hke, List.drop_length] at this
                  exact this)
                clear hke hm
                go_wp2_with fail
                refine (starts_any _ g u5 [34] b5 HRI.out (by have h1 := HMASS.out; omega) (by decide) _ rfl).mono ?_
                rintro x w8 ⟨rfl, hr8, k8⟩
                have hr8' : RdrAt w8 g ⟨strip34 u5, b5⟩ := by rw [← strip34_starts]; exact hr8
                have HR8 := Lw.hid hr8'
                have HL8 := Lw.hid ((HLI.out.call k8).weak (P' := fun _ => False) (fun _ h => h.elim))
                clear hr8 hr8' k8
                go_wp2_with fail
                go_roundg (strip34 u5).length
                case measure => have h1 := HMASS.out; simp only [List.length_cons]; omega
                case rel => exact ⟨⟨strip34 u5, b5⟩, l', rfl, HR8.out, HL8.out, by rw [HFE.out, ← HWD.out, HSTEP.out], by rw [HFE.out]; have h1 := HMASS.out; have h2 := HLIM.out; simp only [List.length_cons] at h2; simp only; omega, by rw [HFE.out]; have h1 := HMASS.out; have h2 := HLIM.out; simp only [List.length_cons] at h2; simp only; omega⟩
          | cons j0 J0 =>
            have hm0 : ((m : Int) == 0) = false := by
              have h1 := HME.out
              simp only [List.length_cons] at h1
              apply beq_eq_false_iff_ne.2
              omega
            have hm9 : m ≤ 1000000 := by
              have h1 := HMASS.out
              have h2 := HME.out
              simp only [List.length_cons] at h1 h2
              omega
            go_wp2_with fail
            go_loopg [7, 99] ((j0 :: J0)).length (fun gk s7 s99 wx => IRel w g ⟨u5, b5⟩ (fun b => False ∨ (wo.heap.size ≤ b ∧ b < w5.heap.size)) (j0 :: J0) l (.slice ia m ic) gk s7 s99 wx)
            case atStart => exact ⟨0, l, rfl, Nat.zero_le _, rfl, HR5.out, HL5.out, HA5.out, rfl, Nat.le_refl _, rfl⟩
            case round =>
              obtain ⟨k, l', rfl, hk, rfl, hri, hli, hai, hfold, hll, htt⟩ := hrel
              have HRI := Lw.hid hri; have HLI := Lw.hid hli; have HAI := Lw.hid hai; have HFO := Lw.hid hfold; have HLL := Lw.hid hll; have HTT := Lw.hid htt
              have hm : m = ((j0 :: J0)).length := HME.out
              have HM := Lw.hid hm
              clear hri hli hai hfold hll htt
              by_cases hlt : k < ((j0 :: J0)).length
              · obtain ⟨p, hp⟩ : ∃ p, ((j0 :: J0))[k]? = some p := ⟨_, List.getElem?_eq_getElem hlt⟩
                have hd : ((j0 :: J0)).drop k = p :: ((j0 :: J0)).drop (k + 1) := by
                  rw [List.getElem?_eq_getElem hlt] at hp
                  rw [List.drop_eq_getElem_cons hlt, Option.some.inj hp]
                have hpm : p ∈ ((j0 :: J0)) := List.mem_of_getElem? hp
                obtain ⟨bi, off, oa, on, oc, hia, e0, e1, e2, e3, hao⟩ := HAI.out.elem.2 k p hp
                subst hia
                have HAO := Lw.hid hao; have HD := Lw.hid hd
                have hpt : p.text.length ≤ 1000000 := by have := tmass_mem hpm; have h1 := HMASS.out; have h7 : tmass ((j0 :: J0)) = tmass (quoted0 (j0 :: J0)) := rfl; omega
                have HPT := Lw.hid hpt
                have hltm : k < m := by rw [hm]; exact hlt
                have hbl : bi < wr.heap.size := World.block_lt_of_cell? wr _ e0
                clear hp hd hpm hao hpt hm
                go_wp2_with fail
                refine (WL.put (((HLI.out.call ((K1.refl g wr).alloc _)).weak (fun b hb => .inl hb)) : WL w g (fun b => False ∨ (wo.heap.size ≤ b ∧ b < w5.heap.size)) l' u7 _) (HRI.out.kept ((Kept.refl (fun _ => False) wr).alloc _) (fun h => h)) p (.slice oa on oc) (HAO.out.kept ((Kept.refl (fun _ => False) wr).alloc _) (fun _ _ h => h)) (by have h1 := HMASS.out; have h2 := HLIM.out; have h3 := HLL.out; simp only [List.length_cons] at h2; have h5 := hk; have h6 : ((j0 :: J0)).length = (quoted0 (j0 :: J0)).length := rfl; omega) (by have h1 := HMASS.out; have h2 := HLIM.out; have h3 := HTT.out; simp only [List.length_cons] at h2; have h7 : tmass ((j0 :: J0)) = tmass (quoted0 (j0 :: J0)) := rfl; omega) HPT.out).mono ?_
                rintro x w7 ⟨v7, rfl, hr7, hl7, S, hS, hSP⟩
                have HR7 := Lw.hid hr7; have HL7 := Lw.hid hl7
                have HA7 := Lw.hid ((HAI.out.kept ((Kept.refl (fun _ => False) wr).alloc _) (fun _ _ h => h)).kept hS (fun b hb => hSP b (.inl hb)))
                clear hr7 hl7 hS hSP
                go_wp2_with fail
                go_roundg (((j0 :: J0)).length - (k + 1))
                case measure => omega
                case rel => exact ⟨k + 1, putF l' p, rfl, hlt, by go_num, HR7.out, HL7.out, HA7.out, by rw [← HFO.out, HD.out, List.foldl_cons], by have h1 := HLL.out; have h2 := (putF_mass l' p).1; omega, by have h1 := HTT.out; have h2 := (putF_mass l' p).2; rw [HD.out] at h1; have h3 : tmass (p :: ((j0 :: J0)).drop (k + 1)) = p.text.length + tmass (((j0 :: J0)).drop (k + 1)) := rfl; omega⟩
              · have hke : k = ((j0 :: J0)).length := by omega
                have hkm : k = m := by omega
                have HFE : Hid (l' = (quoted0 (j0 :: J0)).foldl putF l) := Lw.hid (by
                  have := HFO.out
                  rw [hke, List.drop_length] at this
                  exact this)
                clear hke hm
                go_wp2_with fail
                refine (starts_any _ g u5 [34] b5 HRI.out (by have h1 := HMASS.out; omega) (by decide) _ rfl).mono ?_
                rintro x w8 ⟨rfl, hr8, k8⟩
                have hr8' : RdrAt w8 g ⟨strip34 u5, b5⟩ := by rw [← strip34_starts]; exact hr8
                have HR8 := Lw.hid hr8'
                have HL8 := Lw.hid ((HLI.out.call k8).weak (P' := fun _ => False) (fun _ h => h.elim))
                clear hr8 hr8' k8
                go_wp2_with fail
                go_roundg (strip34 u5).length
                case measure => have h1 := HMASS.out; simp only [List.length_cons]; omega
                case rel => exact ⟨⟨strip34 u5, b5⟩, l', rfl, HR8.out, HL8.out, by rw [HFE.out, ← HWD.out, HSTEP.out], by rw [HFE.out]; have h1 := HMASS.out; have h2 := HLIM.out; simp only [List.length_cons] at h2; simp only; omega, by rw [HFE.out]; have h1 := HMASS.out; have h2 := HLIM.out; simp only [List.length_cons] at h2; simp only; omega⟩
        have HSTEP : Hid (wordW .brc q l ⟨c :: r, false⟩ = wordW .brc q (putF l (.mk 1 [c] [] q)) ⟨r, false⟩) := Lw.hid (wordW_one _ _ _ (fun e => he (Option.some.inj e).symm) h92 h36 (fun e => h39 e.1) (fun e => h34 e.1))
        have HS1 := Lw.hid (take_ne (r := c :: r) (p := [92]) (fun e => h92 (List.cons.inj (show (c :: r.take 0 : List UInt8) = [92] from e)).1))
        have HS2 := Lw.hid (take_ne (r := c :: r) (p := [36]) (fun e => h36 (List.cons.inj (show (c :: r.take 0 : List UInt8) = [36] from e)).1))
        have HS3 := Lw.hid (take_ne (r := c :: r) (p := [39]) (fun e => h39 (List.cons.inj (show (c :: r.take 0 : List UInt8) = [39] from e)).1))
        have HS4 := Lw.hid (take_ne (r := c :: r) (p := [34]) (fun e => h34 (List.cons.inj (show (c :: r.take 0 : List UInt8) = [34] from e)).1))
        have eH : (BA (c :: r)).extract 0 1 = BA [c] := BA_head (c :: r) 1
        have eT : (BA (c :: r)).extract 1 (r.length + 1) = BA r := BA_tail (c :: r) 1 (r.length + 1) rfl
        go_wp2_with fail
        go_quiet (first | (go_at_call 55; exact Calls.quiet_of_same (HPX.out _)) | (go_at_call 55; exact quiet_add_same (HPX.out _)))
        go_wp2_with fail
        refine (starts_any _ g (c :: r) [92] false (HR.out.drewN nq) hlc (by decide) false HS1.out).mono ?_
        rintro x w1 ⟨rfl, hr1, k1⟩
        have HR1 : Hid (RdrAt w1 g ⟨c :: r, false⟩) := Lw.hid hr1
        have HK1 := Lw.hid ((K1.drewN g wr nq).then k1)
        clear hr1 k1
        go_wp2_with fail
        refine (starts_any _ g (c :: r) [36] false HR1.out hlc (by decide) false HS2.out).mono ?_
        rintro x w2 ⟨rfl, hr2, k2⟩
        have HR2 : Hid (RdrAt w2 g ⟨c :: r, false⟩) := Lw.hid hr2
        have HK2 := Lw.hid k2
        clear hr2 k2
        go_wp2_with fail
        refine (starts_any _ g (c :: r) [39] false HR2.out hlc (by decide) false HS3.out).mono ?_
        rintro x w3 ⟨rfl, hr3, k3⟩
        have HR3 : Hid (RdrAt w3 g ⟨c :: r, false⟩) := Lw.hid hr3
        have HK3 := Lw.hid k3
        clear hr3 k3
        go_wp2_with fail
        refine (starts_any _ g (c :: r) [34] false HR3.out hlc (by decide) false HS4.out).mono ?_
        rintro x w4 ⟨rfl, hr4, k4⟩
        have HR4 : Hid (RdrAt w4 g ⟨c :: r, false⟩) := Lw.hid hr4
        have HK4 := Lw.hid k4
        clear hr4 k4
        clear g0 g1 gf0 gf1
        obtain ⟨⟨g0, g1⟩, gf0, gf1⟩ := HR4.out.cells
        have HL8 := Lw.hid (HL.out.call (((HK1.out.then HK2.out).then HK3.out).then HK4.out))
        go_wp2_with fail
        refine (HL8.out.put HR4.out (.mk 1 [c] [] q) (.slice none 0 0) (WAt.nil _ _) HLN.out HLT.out (by show 1 ≤ _; decide)).mono ?_
        rintro x w9 ⟨v9, rfl, hr9, hl9, _⟩
        have HR9 := Lw.hid hr9; have HL9 := Lw.hid hl9
        clear hr9 hl9 g0 g1 gf0 gf1
        obtain ⟨⟨g0, g1⟩, gf0, gf1⟩ := HR9.out.cells
        go_wp2_with fail
        go_roundg r.length
        case measure => simp
        case rel => exact LRel.step (st1 := ⟨r, false⟩) (HR9.out.left r) (HL9.out.call (K1.set (K1.refl g w9) _)) HWD.out HSTEP.out (by simp) (by show 1 + r.length ≤ (c :: r).length; simp; omega) HN.out HT.out
/-- word. -/
theorem word_all (N : Nat) : N ≤ 100000 → CWord N := by
  induction N using Nat.strongRecOn with
  | ind N ih =>
    intro hN lv q w g s hs h hE
    have HW : Hid (∀ M, M < N → CWord M) := Lw.hid (fun M hM => ih M hM (by omega))
    cases lv
    · exact word_bare N hN HW q w g s hs h hE
    · exact word_dbl N hN HW q w g s hs h hE
    · exact word_brc N hN HW q w g s hs h hE
end Go.Proofs.YtifcgeanippepaaDoor
