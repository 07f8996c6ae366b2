/- WordTells: the document's parts in memory: a row of one's own. -/
import Derived.Test.YtifcgeanippepaaDoorWord3M
import Derived.Test.YtifcgeanippepaaDoorM25
import Derived.Test.YtifcgeanippepaaDoorTelleM
import Derived.Test.YtifcgeanippepaaDoorSoftTailM
import Derived.Lib.MinMax
namespace Go.Proofs.YtifcgeanippepaaDoor
open Go Go.RowKit Go.Lw
set_option maxRecDepth 100000
set_option linter.unusedVariables false
set_option linter.unusedSimpArgs false
attribute [local go_sem] BA_toList
theorem EPz : ElemT Tryd.prog 58 103 4 56 := ElemT.of (z := .agg #[.int .i64 0, .string ⟨#[]⟩, .slice none 0 0, .bool false]) Tryd.underlying58 (by kernel_rfl) rfl (by decide)
/-- A row of parts that is one's own; the words in it lie in blocks of F, none of which is the row's. -/
structure WOwnZ (w : World) (F : Nat → Prop) (lo : Nat) (v : Value) (ps : List (Prt × Value)) : Prop where
  own : w.ownsRow 0 103 4 v ps.length (ps.flatMap PC)
  blk : ∀ b, Go.Lw.blk v b → lo ≤ b ∧ ¬ F b
  lt : ∀ b, F b → b < w.heap.size
  ors : ∀ x ∈ ps, WAt w F x.2 x.1.orw
theorem WOwnZ.kept {w w' : World} {S F : Nat → Prop} {lo : Nat} {v : Value} {ps : List (Prt × Value)} (h : WOwnZ w F lo v ps) (k : Kept S w w') (hF : ∀ b, F b → ¬ S b) (hv : ∀ b, Go.Lw.blk v b → ¬ S b) : WOwnZ w' F lo v ps :=
  ⟨own_kept k h.own hv, h.blk, fun b hb => Nat.lt_of_lt_of_le (h.lt b hb) k.size, fun x hx => (h.ors x hx).kept k hF⟩
/-- More blocks, none of which is the row's. -/
theorem WOwnZ.mono {w : World} {F G : Nat → Prop} {lo : Nat} {v : Value} {ps : List (Prt × Value)} (h : WOwnZ w F lo v ps) (hF : ∀ b, F b → G b) (hv : ∀ b, Go.Lw.blk v b → ¬ G b) (hG : ∀ b, G b → b < w.heap.size) : WOwnZ w G lo v ps :=
  ⟨h.own, fun b hb => ⟨(h.blk b hb).1, hv b hb⟩, hG, fun x hx => (h.ors x hx).mono (fun b _ hb => hF b hb)⟩
theorem WOwnZ.nil (w : World) (lo : Nat) : WOwnZ w (fun _ => False) lo (.slice none 0 0) [] :=
  ⟨World.ownsRow_nil _ _ _ _, fun b hb => (by cases hb), fun b hb => hb.elim, fun x hx => (by cases hx)⟩
/-- A row of one's own reads as a word. -/
theorem WOwnZ.at {w : World} {F : Nat → Prop} {lo : Nat} {v : Value} {ps : List (Prt × Value)} (h : WOwnZ w F lo v ps) : WAt w (fun b => F b ∨ Go.Lw.blk v b) v (ps.map Prod.fst) :=
  .mk v ps (Rd.own h.own) (fun b hb => ⟨.inr hb, own_lt h.own b hb⟩) (fun x hx => (h.ors x hx).mono (fun b _ hb => .inl hb))
end Go.Proofs.YtifcgeanippepaaDoor
/- WordTells: the document's put. -/
namespace Go.Proofs.YtifcgeanippepaaDoor
open Go Go.RowKit Go.Lw
set_option maxRecDepth 100000
set_option linter.unusedVariables false
set_option linter.unusedSimpArgs false
attribute [local go_sem] BA_toList
/-- What put leaves behind. -/
def PutPostZ (w : World) (F : Nat → Prop) (lo : Nat) (v : Value) (l : List Prt) (p : Prt) (x : Ending) (w' : World) : Prop :=
  ∃ v' ps', x = .returned v' ∧ ps'.map Prod.fst = putF l p ∧ WOwnZ w' F lo v' ps' ∧ Kept (blk v) w w'
theorem putz_add {w w' : World} {F : Nat → Prop} {lo : Nat} {v v' : Value} {ps : List (Prt × Value)} {p : Prt} {o : Value} (h : WOwnZ w F lo v ps) (ho : WAt w F o p.orw) (hlo : lo ≤ w.heap.size)
    (hp : putF (ps.map Prod.fst) p = ps.map Prod.fst ++ [p]) (how : w'.ownsRow 0 103 4 v' (ps.length + 1) (ps.flatMap PC ++ PC (p, o))) {wx : World} (hk : Kept (fun _ => False) w wx) (hg : wx.grownBy w' v.ownBlock) (hf : Fresh wx v v') :
    PutPostZ w F lo v (ps.map Prod.fst) p (.returned v') w' := by
  have hkk : Kept (blk v) w w' := (hk.mono (fun _ _ h => h.elim)).grown hg (fun k hk _ => hk)
  have hF : ∀ b, F b → ¬ blk v b := fun b hb hv => (h.blk b hv).2 hb
  refine ⟨v', ps ++ [(p, o)], rfl, by rw [List.map_append, hp]; rfl, ⟨by rw [List.length_append, List.flatMap_append]; simpa using how, fun b hb => ?_, fun b hb => Nat.lt_of_lt_of_le (h.lt b hb) hkk.size, fun x hx => ?_⟩, hkk⟩
  · rcases hf b hb with h' | h'
    · exact h.blk b h'
    · have := hk.size
      exact ⟨by omega, fun hb' => by have := h.lt b hb'; omega⟩
  · rcases List.mem_append.1 hx with hx | hx
    · exact (h.ors x hx).kept hkk hF
    · rw [List.mem_singleton.1 hx]
      exact ho.kept hkk hF
theorem putz_merge {w wx : World} {F : Nat → Prop} {lo b0 m cap : Nat} {qs : List (Prt × Value)} {x : Prt × Value} (h : WOwnZ w F lo (.slice (some ⟨b0, 0, none⟩) (m + 1) cap) (qs ++ [x])) (hm : qs.length = m) (hk : Kept (fun _ => False) w wx)
    (y : Prt × Value) (u : Value) (hy : (PC x).set 1 u = PC y) (h2 : y.2 = x.2) (h3 : y.1.orw = x.1.orw) {p : Prt} (hp : putF ((qs ++ [x]).map Prod.fst) p = (qs ++ [y]).map Prod.fst) :
    PutPostZ w F lo (.slice (some ⟨b0, 0, none⟩) (m + 1) cap) ((qs ++ [x]).map Prod.fst) p (.returned (.slice (some ⟨b0, 0, none⟩) (m + 1) cap)) (wx.setCell ⟨b0, m * 4 + 1, none⟩ u) := by
  have hlx : (qs ++ [x]).length = m + 1 := by simp [hm]
  have hly : (qs ++ [y]).length = m + 1 := by simp [hm]
  have hkk : Kept (blk (.slice (some ⟨b0, 0, none⟩) (m + 1) cap)) w (wx.setCell ⟨b0, m * 4 + 1, none⟩ u) := Kept.set (S := blk (.slice (some ⟨b0, 0, none⟩) (m + 1) cap)) (hk.mono (fun _ _ h => h.elim)) b0 _ (fun _ => rfl) u
  have hF : ∀ b, F b → ¬ blk (.slice (some ⟨b0, 0, none⟩) (m + 1) cap) b := fun b hb hv => (h.blk b hv).2 hb
  have how := own_kept hk h.own (fun _ _ h => h)
  rw [hlx] at how
  have hst := (how.stored (m * 4 + 1) u).1
  rw [← hm, pc_set qs x y u hy, hm] at hst
  refine ⟨_, qs ++ [y], rfl, hp.symm, ⟨by rw [hly]; exact hst, h.blk, fun b hb => Nat.lt_of_lt_of_le (h.lt b hb) hkk.size, fun z hz => ?_⟩, hkk⟩
  rcases List.mem_append.1 hz with hz | hz
  · exact (h.ors z (List.mem_append_left _ hz)).kept hkk hF
  · rw [List.mem_singleton.1 hz, h2, h3]
    exact (h.ors x (by simp)).kept hkk hF
set_option maxHeartbeats 4000000 in
theorem putz_none (w : World) (F : Nat → Prop) (lo : Nat) (v : Value) (h : WOwnZ w F lo v []) (hlo : lo ≤ w.heap.size) (k : Int) (t : List UInt8) (orw : List Prt) (q : Bool) (oa : Option Addr) (on oc : Nat) (ho : WAt w F (.slice oa on oc) orw) :
    Calls Tryd.prog 117 #[v, .agg #[.int .i64 k, .string (BA t), .slice oa on oc, .bool q]] w (PutPostZ w F lo v [] (.mk k t orw q)) := by
  obtain ⟨ad, cap, rfl, _, _, _⟩ := own_slice h.own
  have H := Lw.hid h
  have HO := Lw.hid ho
  rw [show ([] : List (Prt × Value)).length = 0 from rfl]
  clear h ho
  go_enter Tryd.func117, Tryd.ntmps117
  go_wp2_with fail
  go_quiet (fail)
  go_wp2_with (at_builtin; refine wpList_app rfl _ _ _ rfl EPz _ 0 [] rfl (World.ownsRow.alloc (w := (w.alloc (.cells #[.int .i64 k, .string (BA t), .slice oa on oc, .bool q] 103)).drewN nq) (H.out.own.alloc _) _) _ 1 [.int .i64 k, .string (BA t), .slice oa on oc, .bool q] rfl (Rd.lit _ [.int .i64 k, .string (BA t), .slice oa on oc, .bool q] _ 4 _ 1 (by simp) rfl (by unfold maxLen; omega)) (pc_one' (.mk k t orw q, .slice oa on oc) rfl) (by unfold maxLen; omega) (by omega) ?_; intro ad9 cap9 w9 ho9 hg9 hf9)
  go_ret
  exact putz_add (p := .mk k t orw q) H.out HO.out hlo rfl ho9 ((((Kept.refl (fun _ => False) w).alloc _).trans (kept_drewN' _ nq) (fun _ _ h => h)).alloc _) hg9 hf9
set_option maxHeartbeats 16000000 in
theorem putz_snoc (w : World) (F : Nat → Prop) (lo : Nat) (v : Value) (qs : List (Prt × Value)) (xk : Int) (xt : List UInt8) (xo : List Prt) (xq : Bool) (xa : Option Addr) (xn xc : Nat)
    (h : WOwnZ w F lo v (qs ++ [(Prt.mk xk xt xo xq, Value.slice xa xn xc)])) (hlo : lo ≤ w.heap.size) (hn9 : qs.length ≤ 100000) (hx9 : xt.length ≤ 1000000) (k : Int) (t : List UInt8) (ht9 : t.length ≤ 1000000) (orw : List Prt) (q : Bool) (oa : Option Addr) (on oc : Nat) (ho : WAt w F (.slice oa on oc) orw) :
    Calls Tryd.prog 117 #[v, .agg #[.int .i64 k, .string (BA t), .slice oa on oc, .bool q]] w (PutPostZ w F lo v ((qs ++ [(Prt.mk xk xt xo xq, Value.slice xa xn xc)]).map Prod.fst) (.mk k t orw q)) := by
  obtain ⟨ad0, cap, rfl, _, _, hsome⟩ := own_slice h.own
  obtain ⟨b0, rfl⟩ := hsome (by simp)
  have hb0 : b0 < w.heap.size := own_lt h.own b0 rfl
  clear hsome
  have H := Lw.hid h
  have HO := Lw.hid ho
  obtain ⟨m, hm⟩ : ∃ m, qs.length = m := ⟨_, rfl⟩
  have HM := Lw.hid hm
  have hlen : (qs ++ [(Prt.mk xk xt xo xq, Value.slice xa xn xc)]).length = m + 1 := by simp [hm]
  have HLEN := Lw.hid hlen
  have each : ∀ j, j < 4 → w.cell? ⟨b0, m * 4 + j, none⟩ = (PC (Prt.mk xk xt xo xq, Value.slice xa xn xc))[j]? := fun j hj => by
    rw [h.own.cellAt _ (by rw [hlen]; omega), ← hm, pc_last _ _ _ hj]
  have c0 : w.cell? ⟨b0, m * 4, none⟩ = some (.int .i64 xk) := each 0 (by decide)
  have c1 : w.cell? ⟨b0, m * 4 + 1, none⟩ = some (.string (BA xt)) := each 1 (by decide)
  have c3 : w.cell? ⟨b0, m * 4 + 3, none⟩ = some (.bool xq) := each 3 (by decide)
  have f1 : w.frozen? ⟨b0, m * 4 + 1, none⟩ = false := h.own.frozenAt _
  rw [hlen]
  rw [hm] at hn9
  have how := h.own
  rw [hlen] at how
  have HOW := Lw.hid how
  have h' := H.out
  rw [hlen] at h'
  have H := Lw.hid h'
  clear h'
  have HP := Lw.hid (putF_snoc (qs.map Prod.fst) (.mk xk xt xo xq) (.mk k t orw q))
  have HMAP : Hid ((qs ++ [(Prt.mk xk xt xo xq, Value.slice xa xn xc)]).map Prod.fst = qs.map Prod.fst ++ [.mk xk xt xo xq]) := Lw.hid (by simp)
  have hgeq : decide ((m : Int) ≥ 0) = true := by simp
  clear h ho each hm hlen how
  by_cases hk : k = 1
  · have bk : (k == 1) = true := by rw [hk]; rfl
    by_cases hx : xk = 1
    · have bx : (xk == 1) = true := by rw [hx]; rfl
      by_cases hq : xq = q
      · have bq : (xq == q) = true := by rw [hq]; simp
        have hcat := BA_append xt t
        have hz1 := BA_size xt
        have hz2 := BA_size t
        obtain ⟨n1, hn1⟩ : ∃ n1, xt.length = n1 := ⟨_, rfl⟩
        obtain ⟨n2, hn2⟩ : ∃ n2, t.length = n2 := ⟨_, rfl⟩
        rw [hn1] at hz1 hx9
        rw [hn2] at hz2 ht9
        clear hn1 hn2
        have HPY : Hid (putF ((qs ++ [(Prt.mk xk xt xo xq, Value.slice xa xn xc)]).map Prod.fst) (.mk k t orw q) = (qs ++ [(Prt.mk xk (xt ++ t) xo xq, Value.slice xa xn xc)]).map Prod.fst) := Lw.hid (by rw [HMAP.out, HP.out, if_pos ⟨hk, hx, hq⟩]; simp [Prt.kind, Prt.text, Prt.orw, Prt.quoted])
        clear hk hx hq
        go_enter Tryd.func117, Tryd.ntmps117
        go_wp2_with fail
        go_quiet (fail)
        go_wp2_with fail
        go_region
        go_wp2_with fail
        go_ret
        exact putz_merge H.out HM.out (((Kept.refl (fun _ => False) w).alloc _).trans (kept_drewN' _ _) (fun _ _ h => h)) (Prt.mk xk (xt ++ t) xo xq, Value.slice xa xn xc) _ rfl rfl rfl HPY.out
      · have bq : (xq == q) = false := by simpa using hq
        have HPN : Hid (putF ((qs ++ [(Prt.mk xk xt xo xq, Value.slice xa xn xc)]).map Prod.fst) (.mk k t orw q) = (qs ++ [(Prt.mk xk xt xo xq, Value.slice xa xn xc)]).map Prod.fst ++ [.mk k t orw q]) := Lw.hid (by rw [HMAP.out, HP.out, if_neg (fun x => hq x.2.2)])
        clear hk hx hq
        go_enter Tryd.func117, Tryd.ntmps117
        go_wp2_with fail
        go_quiet (fail)
        go_wp2_with (at_builtin; refine wpList_app rfl _ _ _ rfl EPz _ (m + 1) ((qs ++ [(Prt.mk xk xt xo xq, Value.slice xa xn xc)]).flatMap PC) rfl (World.ownsRow.alloc (w := (w.alloc (.cells #[.int .i64 k, .string (BA t), .slice oa on oc, .bool q] 103)).drewN nq) (HOW.out.alloc _) _) _ 1 [.int .i64 k, .string (BA t), .slice oa on oc, .bool q] rfl (Rd.lit _ [.int .i64 k, .string (BA t), .slice oa on oc, .bool q] _ 4 _ 1 (by simp) rfl (by unfold maxLen; omega)) (pc_one' (.mk k t orw q, .slice oa on oc) rfl) (by unfold maxLen; omega) (by omega) ?_; intro ad9 cap9 w9 ho9 hg9 hf9)
        go_ret
        exact putz_add (p := .mk k t orw q) H.out HO.out hlo HPN.out (by rw [HLEN.out]; exact ho9) ((((Kept.refl (fun _ => False) w).alloc _).trans (kept_drewN' _ nq) (fun _ _ h => h)).alloc _) hg9 hf9
    · have bx : (xk == 1) = false := by simpa using hx
      have HPN : Hid (putF ((qs ++ [(Prt.mk xk xt xo xq, Value.slice xa xn xc)]).map Prod.fst) (.mk k t orw q) = (qs ++ [(Prt.mk xk xt xo xq, Value.slice xa xn xc)]).map Prod.fst ++ [.mk k t orw q]) := Lw.hid (by rw [HMAP.out, HP.out, if_neg (fun x => hx x.2.1)])
      clear hk hx
      go_enter Tryd.func117, Tryd.ntmps117
      go_wp2_with fail
      go_quiet (fail)
      go_wp2_with (at_builtin; refine wpList_app rfl _ _ _ rfl EPz _ (m + 1) ((qs ++ [(Prt.mk xk xt xo xq, Value.slice xa xn xc)]).flatMap PC) rfl (World.ownsRow.alloc (w := (w.alloc (.cells #[.int .i64 k, .string (BA t), .slice oa on oc, .bool q] 103)).drewN nq) (HOW.out.alloc _) _) _ 1 [.int .i64 k, .string (BA t), .slice oa on oc, .bool q] rfl (Rd.lit _ [.int .i64 k, .string (BA t), .slice oa on oc, .bool q] _ 4 _ 1 (by simp) rfl (by unfold maxLen; omega)) (pc_one' (.mk k t orw q, .slice oa on oc) rfl) (by unfold maxLen; omega) (by omega) ?_; intro ad9 cap9 w9 ho9 hg9 hf9)
      go_ret
      exact putz_add (p := .mk k t orw q) H.out HO.out hlo HPN.out (by rw [HLEN.out]; exact ho9) ((((Kept.refl (fun _ => False) w).alloc _).trans (kept_drewN' _ nq) (fun _ _ h => h)).alloc _) hg9 hf9
  · have bk : (k == 1) = false := by simpa using hk
    have HPN : Hid (putF ((qs ++ [(Prt.mk xk xt xo xq, Value.slice xa xn xc)]).map Prod.fst) (.mk k t orw q) = (qs ++ [(Prt.mk xk xt xo xq, Value.slice xa xn xc)]).map Prod.fst ++ [.mk k t orw q]) := Lw.hid (by rw [HMAP.out, HP.out, if_neg (fun x => hk x.1)])
    clear hk
    go_enter Tryd.func117, Tryd.ntmps117
    go_wp2_with fail
    go_quiet (fail)
    go_wp2_with (at_builtin; refine wpList_app rfl _ _ _ rfl EPz _ (m + 1) ((qs ++ [(Prt.mk xk xt xo xq, Value.slice xa xn xc)]).flatMap PC) rfl (World.ownsRow.alloc (w := (w.alloc (.cells #[.int .i64 k, .string (BA t), .slice oa on oc, .bool q] 103)).drewN nq) (HOW.out.alloc _) _) _ 1 [.int .i64 k, .string (BA t), .slice oa on oc, .bool q] rfl (Rd.lit _ [.int .i64 k, .string (BA t), .slice oa on oc, .bool q] _ 4 _ 1 (by simp) rfl (by unfold maxLen; omega)) (pc_one' (.mk k t orw q, .slice oa on oc) rfl) (by unfold maxLen; omega) (by omega) ?_; intro ad9 cap9 w9 ho9 hg9 hf9)
    go_ret
    exact putz_add (p := .mk k t orw q) H.out HO.out hlo HPN.out (by rw [HLEN.out]; exact ho9) ((((Kept.refl (fun _ => False) w).alloc _).trans (kept_drewN' _ nq) (fun _ _ h => h)).alloc _) hg9 hf9
/-- put. -/
theorem putz_any (w : World) (F : Nat → Prop) (lo : Nat) (v : Value) (ps : List (Prt × Value)) (h : WOwnZ w F lo v ps) (hlo : lo ≤ w.heap.size) (hn9 : ps.length ≤ 100000) (hx9 : ∀ x ∈ ps, x.1.text.length ≤ 1000000) (p : Prt) (ht9 : p.text.length ≤ 1000000) (o : Value) (ho : WAt w F o p.orw) :
    Calls Tryd.prog 117 #[v, PV p o] w (PutPostZ w F lo v (ps.map Prod.fst) p) := by
  obtain ⟨oa, on, oc, rfl⟩ := ho.slice
  obtain ⟨k, t, orw, q⟩ := p
  rcases List.eq_nil_or_concat ps with rfl | ⟨qs, x, rfl⟩
  · exact putz_none w F lo v h hlo k t orw q oa on oc ho
  · rw [List.concat_eq_append] at *
    obtain ⟨⟨xk, xt, xo, xq⟩, xv⟩ := x
    obtain ⟨xa, xn, xc, e⟩ := (h.ors (Prt.mk xk xt xo xq, xv) (by simp)).slice
    obtain rfl : xv = .slice xa xn xc := e
    exact putz_snoc w F lo v qs xk xt xo xq xa xn xc h hlo (by simp at hn9; omega) (hx9 (Prt.mk xk xt xo xq, Value.slice xa xn xc) (by simp)) k t ht9 orw q oa on oc ho
end Go.Proofs.YtifcgeanippepaaDoor
/- WordTells: few parts of a word; a word as the document has it. -/
namespace Go.Proofs.YtifcgeanippepaaDoor
open Go Go.RowKit Go.Lw
set_option maxRecDepth 100000
set_option linter.unusedVariables false
set_option linter.unusedSimpArgs false
attribute [local go_sem] BA_toList
/-- The first part alone as it is told of (words in it: 'f'). -/
def few1 (f : List Prt → List Prt) (p : Prt) : Prt := .mk p.kind (p.text.take 60) (f p.orw) p.quoted
def orF : Nat → List Prt → List Prt
  | 0, _ => []
  | d + 1, w => fewF d w
theorem fewF_eq (d : Nat) (w : List Prt) : fewF d w = (w.take 8).map (few1 (orF d)) := by
  cases d <;> rfl
theorem fewF_snoc {d : Nat} {l : List Prt} {k : Nat} {p : Prt} (h : l[k]? = some p) (hk : k < 8) : fewF d (l.take (k + 1)) = fewF d (l.take k) ++ [few1 (orF d) p] := by
  have hl : k < l.length := by
    rcases Nat.lt_or_ge k l.length with h' | h'
    · exact h'
    · rw [List.getElem?_eq_none h'] at h; cases h
  have e1 : (l.take (k + 1)).take 8 = l.take (k + 1) := List.take_of_length_le (by rw [List.length_take]; omega)
  have e2 : (l.take k).take 8 = l.take k := List.take_of_length_le (by rw [List.length_take]; omega)
  rw [fewF_eq, fewF_eq, e1, e2, List.take_add_one, h]
  simp
theorem fewF_more {d : Nat} {l : List Prt} {k : Nat} (hk : 8 ≤ k) : fewF d (l.take (k + 1)) = fewF d (l.take k) := by
  rw [fewF_eq, fewF_eq, List.take_take, List.take_take, Nat.min_eq_left (by omega), Nat.min_eq_left (by omega)]
theorem few_short (d : Nat) (l : List Prt) : (fewF d l).length ≤ 8 := by
  rw [fewF_eq, List.length_map, List.length_take]; omega
/-- The row v is one's own, made since w, and reads l; what lies in the blocks of P is not the row's. -/
def WF (w : World) (P : Nat → Prop) (l : List Prt) (v : Value) (wx : World) : Prop :=
  ∃ (ps : List (Prt × Value)) (F : Nat → Prop), ps.map Prod.fst = l ∧ WOwn wx F w.heap.size v ps ∧ (∀ b, F b → w.heap.size ≤ b) ∧ (∀ b, P b → F b) ∧ Kept (fun _ => False) w wx
theorem WF.nil (w : World) : WF w (fun _ => False) [] (.slice none 0 0) w :=
  ⟨[], fun _ => False, rfl, WOwn.nil w _, fun _ h => h.elim, fun _ h => h, Kept.refl _ _⟩
theorem WF.call {w wx w1 : World} {P : Nat → Prop} {l : List Prt} {v : Value} (h : WF w P l v wx) (k : Kept (fun _ => False) wx w1) : WF w (fun b => wx.heap.size ≤ b ∧ b < w1.heap.size) l v w1 := by
  obtain ⟨ps, F, hl, ho, hF, hP, hk⟩ := h
  have ho1 := ho.kept k (fun b hb e => e) (fun _ _ e => e)
  have hs := k.size
  have hs0 := hk.size
  refine ⟨ps, fun b => F b ∨ (wx.heap.size ≤ b ∧ b < w1.heap.size), hl, ho1.mono (fun b hb => .inl hb) (fun b hb hx => ?_) (fun b hb => ?_), fun b hb => ?_, fun b hb => .inr hb, hk.trans k (fun _ _ h => h)⟩
  · rcases hx with hx | hx
    · exact (ho.blk b hb).2 hx
    · have := own_lt ho.own b hb; omega
  · rcases hb with hb | hb
    · exact ho1.lt b hb
    · exact hb.2
  · rcases hb with hb | hb
    · exact hF b hb
    · omega
theorem WF.at {w wx : World} {P : Nat → Prop} {l : List Prt} {v : Value} (h : WF w P l v wx) : WAt wx (fun b => w.heap.size ≤ b) v l ∧ Kept (fun _ => False) w wx := by
  obtain ⟨ps, F, rfl, ho, hF, hP, hk⟩ := h
  exact ⟨ho.at.mono (fun b _ hb => hb.elim (hF b) (fun hb => (ho.blk b hb).1)), hk⟩
theorem WF.own {w wx : World} {P : Nat → Prop} {l : List Prt} {v : Value} (h : WF w P l v wx) : ∃ xs, wx.ownsRow 0 46 4 v l.length xs ∧ (∀ (w9 : World) (v' : Value) (p : Prt) (ov : Value) (w8 : World), WAt wx P ov p.orw → w9.ownsRow 0 46 4 v' (l.length + 1) (xs ++ PC (p, ov)) → Kept (fun _ => False) wx w8 → w8.grownBy w9 v.ownBlock → Fresh w8 v v' → WF w (fun _ => False) (l ++ [p]) v' w9) := by
  obtain ⟨ps, F, rfl, ho, hF, hP, hk⟩ := h
  refine ⟨ps.flatMap PC, by rw [List.length_map]; exact ho.own, fun w9 v' p ov w8 hw how hk8 hg hf => ?_⟩
  rw [List.length_map] at how
  have hkk : Kept (blk v) wx w9 := (hk8.mono (fun _ _ h => h.elim)).grown hg (fun k hk _ => hk)
  have hFn : ∀ b, F b → ¬ blk v b := fun b hb hv => (ho.blk b hv).2 hb
  have hs := hk.size
  have hs8 := hk8.size
  refine ⟨ps ++ [(p, ov)], F, by simp, ⟨by rw [List.length_append, List.flatMap_append]; simpa using how, fun b hb => ?_, fun b hb => Nat.lt_of_lt_of_le (ho.lt b hb) hkk.size, fun x hx => ?_⟩, hF, fun _ h => h.elim, hk.trans hkk (fun b hb hv => by have := (ho.blk b hv).1; omega)⟩
  · rcases hf b hb with h' | h'
    · exact ho.blk b h'
    · exact ⟨by omega, fun hb' => by have := ho.lt b hb'; omega⟩
  · rcases List.mem_append.1 hx with hx | hx
    · exact (ho.ors x hx).kept hkk hFn
    · rw [List.mem_singleton.1 hx]
      exact (hw.mono (fun b _ hb => hP b hb)).kept hkk hFn
/-- The row v is one's own, made since w, and reads l; what lies in the blocks of P is not the row's. -/
def WO (w : World) (P : Nat → Prop) (l : List Prt) (v : Value) (wx : World) : Prop :=
  ∃ (ps : List (Prt × Value)) (F : Nat → Prop), ps.map Prod.fst = l ∧ WOwnZ wx F w.heap.size v ps ∧ (∀ b, F b → w.heap.size ≤ b) ∧ (∀ b, P b → F b) ∧ Kept (fun _ => False) w wx
theorem WO.nil (w : World) : WO w (fun _ => False) [] (.slice none 0 0) w :=
  ⟨[], fun _ => False, rfl, WOwnZ.nil w _, fun _ h => h.elim, fun _ h => h, Kept.refl _ _⟩
theorem WO.call {w wx w1 : World} {P : Nat → Prop} {l : List Prt} {v : Value} (h : WO w P l v wx) (k : Kept (fun _ => False) wx w1) : WO w (fun b => wx.heap.size ≤ b ∧ b < w1.heap.size) l v w1 := by
  obtain ⟨ps, F, hl, ho, hF, hP, hk⟩ := h
  have ho1 := ho.kept k (fun b hb e => e) (fun _ _ e => e)
  have hs := k.size
  have hs0 := hk.size
  refine ⟨ps, fun b => F b ∨ (wx.heap.size ≤ b ∧ b < w1.heap.size), hl, ho1.mono (fun b hb => .inl hb) (fun b hb hx => ?_) (fun b hb => ?_), fun b hb => ?_, fun b hb => .inr hb, hk.trans k (fun _ _ h => h)⟩
  · rcases hx with hx | hx
    · exact (ho.blk b hb).2 hx
    · have := own_lt ho.own b hb; omega
  · rcases hb with hb | hb
    · exact ho1.lt b hb
    · exact hb.2
  · rcases hb with hb | hb
    · exact hF b hb
    · omega
theorem WO.at {w wx : World} {P : Nat → Prop} {l : List Prt} {v : Value} (h : WO w P l v wx) : WAt wx (fun b => w.heap.size ≤ b) v l ∧ Kept (fun _ => False) w wx := by
  obtain ⟨ps, F, rfl, ho, hF, hP, hk⟩ := h
  exact ⟨ho.at.mono (fun b _ hb => hb.elim (hF b) (fun hb => (ho.blk b hb).1)), hk⟩
theorem WO.own {w wx : World} {P : Nat → Prop} {l : List Prt} {v : Value} (h : WO w P l v wx) : ∃ xs, wx.ownsRow 0 103 4 v l.length xs ∧ (∀ (w9 : World) (v' : Value) (p : Prt) (ov : Value) (w8 : World), WAt wx P ov p.orw → w9.ownsRow 0 103 4 v' (l.length + 1) (xs ++ PC (p, ov)) → Kept (fun _ => False) wx w8 → w8.grownBy w9 v.ownBlock → Fresh w8 v v' → WO w (fun _ => False) (l ++ [p]) v' w9) := by
  obtain ⟨ps, F, rfl, ho, hF, hP, hk⟩ := h
  refine ⟨ps.flatMap PC, by rw [List.length_map]; exact ho.own, fun w9 v' p ov w8 hw how hk8 hg hf => ?_⟩
  rw [List.length_map] at how
  have hkk : Kept (blk v) wx w9 := (hk8.mono (fun _ _ h => h.elim)).grown hg (fun k hk _ => hk)
  have hFn : ∀ b, F b → ¬ blk v b := fun b hb hv => (ho.blk b hv).2 hb
  have hs := hk.size
  have hs8 := hk8.size
  refine ⟨ps ++ [(p, ov)], F, by simp, ⟨by rw [List.length_append, List.flatMap_append]; simpa using how, fun b hb => ?_, fun b hb => Nat.lt_of_lt_of_le (ho.lt b hb) hkk.size, fun x hx => ?_⟩, hF, fun _ h => h.elim, hk.trans hkk (fun b hb hv => by have := (ho.blk b hv).1; omega)⟩
  · rcases hf b hb with h' | h'
    · exact ho.blk b h'
    · exact ⟨by omega, fun hb' => by have := ho.lt b hb'; omega⟩
  · rcases List.mem_append.1 hx with hx | hx
    · exact (ho.ors x hx).kept hkk hFn
    · rw [List.mem_singleton.1 hx]
      exact (hw.mono (fun b _ hb => hP b hb)).kept hkk hFn
/-- A part's block. -/
def PAf (w : World) (b : Nat) (k : Int) (t : List UInt8) (o : Value) (q : Bool) : Prop := w.heap[b]? = some (.cells #[.int .i64 k, .string (BA t), o, .bool q] 46 (0, 0))
theorem PAf.cells {w : World} {b : Nat} {k : Int} {t : List UInt8} {o : Value} {q : Bool} (h : PAf w b k t o q) :
    (w.cell? ⟨b, 0, none⟩ = some (.int .i64 k) ∧ w.cell? ⟨b, 1, none⟩ = some (.string (BA t)) ∧ w.cell? ⟨b, 2, none⟩ = some o ∧ w.cell? ⟨b, 3, none⟩ = some (.bool q)) ∧
    (w.frozen? ⟨b, 0, none⟩ = false ∧ w.frozen? ⟨b, 1, none⟩ = false ∧ w.frozen? ⟨b, 2, none⟩ = false ∧ w.frozen? ⟨b, 3, none⟩ = false) :=
  ⟨⟨heap_cell h 0, heap_cell h 1, heap_cell h 2, heap_cell h 3⟩, heap_free h 0, heap_free h 1, heap_free h 2, heap_free h 3⟩
def stQ (w0 : World) : Stable := ⟨fun v w => ∃ b, v = .pointer (some ⟨b, 0, none⟩) ∧ w.heap[b]? = some (.cells #[.int .i64 0, .string ⟨#[]⟩, .slice none 0 0, .bool false] 46 (0, 0)) ∧ w0.heap.size ≤ b, fun v w w' k ⟨b, h1, h2, h3⟩ => ⟨b, h1, k.heap h2 (fun h => h), h3⟩⟩
/-- The contract of Few. -/
def CFewZ (d : Nat) : Prop := ∀ (w : World) (v : Value) (l : List Prt), WIn w v l → TxOk l →
  Calls Tryd.prog 28 #[v, .int .i64 (d : Int)] w fun x w' => ∃ v', x = .returned v' ∧ WAt w' (fun b => w.heap.size ≤ b) v' (fewF d l) ∧ Kept (fun _ => False) w w'
theorem few_app {w w3 : World} {P : Nat → Prop} {L : List Prt} {v : Value} {m : Nat} {xs : List Value} (hm : L.length = m) (h : w3.ownsRow 0 46 4 v L.length xs) : w3.ownsRow 0 46 4 v m xs := hm ▸ h
end Go.Proofs.YtifcgeanippepaaDoor
