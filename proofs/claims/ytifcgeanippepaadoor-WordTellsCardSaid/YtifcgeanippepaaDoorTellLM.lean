/- WordTells: the document's reader's row of parts, while word runs. -/
import Derived.Test.YtifcgeanippepaaDoorTell9M
namespace Go.Proofs.YtifcgeanippepaaDoor
open Go Go.RowKit Go.Lw
set_option maxRecDepth 100000
set_option linter.unusedVariables false
set_option linter.unusedSimpArgs false
attribute [local go_sem] BA_toList
/-- The row v is one's own, made since w, and reads l; what lies in the blocks of P is not the row's. -/
def WLZ (w : World) (g : Nat) (P : Nat → Prop) (l : List Prt) (v : Value) (wx : World) : Prop :=
  ∃ (ps : List (Prt × Value)) (F : Nat → Prop), ps.map Prod.fst = l ∧ WOwnZ wx F w.heap.size v ps ∧ (∀ b, F b → w.heap.size ≤ b) ∧ (∀ b, P b → F b) ∧ K1 g w wx ∧ g < w.heap.size
theorem WLZ.kept {w wx : World} {g : Nat} {P : Nat → Prop} {l : List Prt} {v : Value} (h : WLZ w g P l v wx) : K1 g w wx := by
  obtain ⟨_, _, _, _, _, _, k, _⟩ := h; exact k
theorem WLZ.nil (w : World) (g : Nat) (hg : g < w.heap.size) {wx : World} (hk : K1 g w wx) : WLZ w g (fun _ => False) [] (.slice none 0 0) wx :=
  ⟨[], fun _ => False, rfl, WOwnZ.nil wx _, fun _ h => h.elim, fun _ h => h, hk, hg⟩
theorem WLZ.call {w wx w1 : World} {g : Nat} {P : Nat → Prop} {l : List Prt} {v : Value} (h : WLZ w g P l v wx) (k : K1 g wx w1) : WLZ w g (fun b => P b ∨ (wx.heap.size ≤ b ∧ b < w1.heap.size)) l v w1 := by
  obtain ⟨ps, F, hl, ho, hF, hP, hk, hg⟩ := h
  have hv : ∀ b, blk v b → ¬ b = g := fun b hb e => by have := (ho.blk b hb).1; omega
  have ho1 := ho.kept k (fun b hb e => by have := hF b hb; have e' : b = g := e; omega) hv
  have hs := hk.size
  refine ⟨ps, fun b => F b ∨ (wx.heap.size ≤ b ∧ b < w1.heap.size), hl, ho1.mono (fun b hb => .inl hb) (fun b hb hx => ?_) (fun b hb => ?_), fun b hb => ?_, fun b hb => hb.elim (fun hb => .inl (hP b hb)) .inr, hk.then k, hg⟩
  · rcases hx with hx | hx
    · exact (ho.blk b hb).2 hx
    · have := own_lt ho.own b hb; omega
  · rcases hb with hb | hb
    · exact ho1.lt b hb
    · exact hb.2
  · rcases hb with hb | hb
    · exact hF b hb
    · omega
theorem WLZ.weak {w wx : World} {g : Nat} {P P' : Nat → Prop} {l : List Prt} {v : Value} (h : WLZ w g P l v wx) (hP' : ∀ b, P' b → P b) : WLZ w g P' l v wx := by
  obtain ⟨ps, F, hl, ho, hF, hP, hk, hg⟩ := h
  exact ⟨ps, F, hl, ho, hF, fun b hb => hP b (hP' b hb), hk, hg⟩
theorem WLZ.at {w wx : World} {g : Nat} {P : Nat → Prop} {l : List Prt} {v : Value} (h : WLZ w g P l v wx) : WAt wx (fun b => w.heap.size ≤ b) v l := by
  obtain ⟨ps, F, rfl, ho, hF, hP, hk, hg⟩ := h
  exact ho.at.mono (fun b _ hb => hb.elim (hF b) (fun hb => (ho.blk b hb).1))
/-- put, at such a row. -/
theorem WLZ.put {w w1 : World} {g : Nat} {P : Nat → Prop} {l : List Prt} {v : Value} (h : WLZ w g P l v w1) {S : List UInt8} {a : Nat} {bd : Bool} (hr : RdZ w1 g S a bd) (p : Prt) (o : Value) (ho : WAt w1 P o p.orw) (hl : l.length ≤ 100000) (ht : tmass l ≤ 1000000) (hp : p.text.length ≤ 1000000) :
    Calls Tryd.prog 117 #[v, PV p o] w1 fun x w2 => ∃ v', x = .returned v' ∧ RdZ w2 g S a bd ∧ WLZ w g P (putF l p) v' w2 ∧ ∃ S, Kept S w1 w2 ∧ ∀ b, P b ∨ b = g → ¬ S b := by
  obtain ⟨ps, F, rfl, how, hF, hP, hk, hg⟩ := h
  have hgv : ∀ b, blk v b → ¬ b = g := fun b hb e => by have := (how.blk b hb).1; omega
  refine (putz_any w1 F w.heap.size v ps how hk.size (by simpa using hl) (fun x hx => Nat.le_trans (tmass_mem (List.mem_map_of_mem hx)) ht) p hp o (ho.mono (fun b _ hb => hP b hb))).mono ?_
  rintro x w2 ⟨v', ps', rfl, hps, how', kk⟩
  refine ⟨v', rfl, hr.kept kk (fun hb => hgv g hb rfl), ⟨ps', F, hps, how', hF, hP, hk.trans (kk.mono (S' := fun b => w.heap.size ≤ b) (fun b _ hb => (how.blk b hb).1)) (fun i hi hx => by omega), hg⟩, blk v, kk, ?_⟩
  rintro b (hb | rfl) hx
  · exact (how.blk b hx).2 (hP b hb)
  · exact hgv b hx rfl
/-- Where word stands: the place c, the parts l; has a brace been none? -/
def LZ (w : World) (g : Nat) (S : List UInt8) (a : Nat) (lv : Lv) (q : Bool) (gk : Nat) (v : Value) (wx : World) : Prop :=
  ∃ (c : Nat) (l : List Prt) (bad : Bool), gk = (if bad then 0 else S.length - c) ∧ RdZ wx g S c bad ∧ WLZ w g (fun _ => False) l v wx ∧
    (bad = true → (readG refR lv q [] ⟨S.drop a, false⟩).2.bad = true) ∧ (bad = false → readG refR lv q l ⟨S.drop c, false⟩ = readG refR lv q [] ⟨S.drop a, false⟩ ∧ a ≤ c ∧ l.length + a ≤ c ∧ tmass l + a ≤ c) ∧
    c + a ≤ 2 * S.length + 1 ∧ l.length + a ≤ S.length ∧ tmass l + a ≤ S.length ∧ (l = [] → v = .slice none 0 0)
theorem LZ.fin {w wx : World} {g a c n : Nat} {S : List UInt8} {lv : Lv} {q : Bool} {v : Value} {l : List Prt} {bad : Bool} (hr : RdZ wx g S c bad) (hl : WLZ w g (fun _ => False) l v wx)
    (h1 : bad = true → (readG refR lv q [] ⟨S.drop a, false⟩).2.bad = true) (h2 : bad = false → readG refR lv q l ⟨S.drop c, false⟩ = readG refR lv q [] ⟨S.drop a, false⟩ ∧ a ≤ c ∧ l.length + a ≤ c ∧ tmass l + a ≤ c) (he : bad = false → readG refR lv q l ⟨S.drop c, false⟩ = (l, ⟨S.drop c, false⟩))
    (h3 : c + a ≤ 2 * S.length + 1) (h4 : l.length + a ≤ S.length) (h5 : tmass l + a ≤ S.length) (h6 : l = [] → v = .slice none 0 0) : WordZ w g S a lv q (.returned v) (wx.drewN n) := by
  refine ⟨v, l, c, bad, rfl, hr.drewN n, hl.at.kept (kept_drewN' wx n) (fun _ _ h => h), hl.kept.then (K1.drewN g wx n), ?_, fun hb => ?_, h3, h4, h5, h6⟩
  · cases bad with
    | true => exact h1 rfl
    | false => rw [← (h2 rfl).1, he rfl]
  · rw [← (h2 hb).1, he hb]
    exact ⟨rfl, rfl, (h2 hb).2⟩
theorem putF_ne (l : List Prt) (p : Prt) : putF l p ≠ [] := by
  intro e
  rcases List.eq_nil_or_concat l with rfl | ⟨l0, x, rfl⟩
  · cases e
  · rw [List.concat_eq_append, putF_snoc] at e
    split at e <;> simp at e
theorem foldp_ne : ∀ (J l : List Prt), J ≠ [] → J.foldl putF l ≠ []
  | [], l, h => absurd rfl h
  | [p], l, _ => putF_ne l p
  | p :: q :: J, l, _ => foldp_ne (q :: J) (putF l p) (by simp)
/-- After a step that puts one part. -/
theorem LZ.step {w wx : World} {g a c c' : Nat} {S : List UInt8} {lv : Lv} {q : Bool} {v : Value} {l : List Prt} {p : Prt} {P : Nat → Prop} (hr : RdZ wx g S c' false) (hl : WLZ w g P (putF l p) v wx)
    (h2 : readG refR lv q l ⟨S.drop c, false⟩ = readG refR lv q [] ⟨S.drop a, false⟩ ∧ a ≤ c ∧ l.length + a ≤ c ∧ tmass l + a ≤ c)
    (hs : readG refR lv q l ⟨S.drop c, false⟩ = readG refR lv q (putF l p) ⟨S.drop c', false⟩) (hlt : c < S.length) (hc : c < c') (hN : c' ≤ S.length + 1) (hp : p.text.length + c ≤ c') (hp2 : p.text.length + c ≤ S.length) :
    LZ w g S a lv q (S.length - c') v wx := by
  have hm := putF_mass l p
  obtain ⟨e, h3, h4, h5⟩ := h2
  exact ⟨c', putF l p, false, rfl, hr, hl.weak (fun _ h => h.elim), (fun e => by cases e), (fun _ => ⟨by rw [← hs, e], by omega, by omega, by omega⟩), by omega, by omega, by omega, fun e => absurd e (putF_ne l p)⟩
/-- After a step that puts one part and finds that a brace is none. -/
theorem LZ.bad {w wx : World} {g a c c' : Nat} {S : List UInt8} {lv : Lv} {q : Bool} {v : Value} {l : List Prt} {p : Prt} {P : Nat → Prop} (hr : RdZ wx g S c' true) (hl : WLZ w g P (putF l p) v wx)
    (h2 : readG refR lv q l ⟨S.drop c, false⟩ = readG refR lv q [] ⟨S.drop a, false⟩ ∧ a ≤ c ∧ l.length + a ≤ c ∧ tmass l + a ≤ c)
    (hs : (readG refR lv q l ⟨S.drop c, false⟩).2.bad = true) (hlt : c < S.length) (hN : c' + a ≤ 2 * S.length + 1) (hp2 : p.text.length + c ≤ S.length) :
    LZ w g S a lv q 0 v wx := by
  have hm := putF_mass l p
  obtain ⟨e, h3, h4, h5⟩ := h2
  exact ⟨c', putF l p, true, rfl, hr, hl.weak (fun _ h => h.elim), (fun _ => by rw [← e]; exact hs), (fun e => by cases e), hN, by omega, by omega, fun e => absurd e (putF_ne l p)⟩
/-- After a double quote's parts. -/
theorem LZ.many {w wx : World} {g a c c' : Nat} {S : List UInt8} {lv : Lv} {q : Bool} {v : Value} {l J : List Prt} {P : Nat → Prop} (hr : RdZ wx g S c' false) (hl : WLZ w g P ((quoted0 J).foldl putF l) v wx)
    (h2 : readG refR lv q l ⟨S.drop c, false⟩ = readG refR lv q [] ⟨S.drop a, false⟩ ∧ a ≤ c ∧ l.length + a ≤ c ∧ tmass l + a ≤ c)
    (hs : readG refR lv q l ⟨S.drop c, false⟩ = readG refR lv q ((quoted0 J).foldl putF l) ⟨S.drop c', false⟩) (hlt : c < S.length) (hc : c < c') (hN : c' + a ≤ 2 * S.length + 1) (hj : J.length + (c + 1) ≤ c') (hj2 : tmass J + (c + 1) ≤ c') (hp : J.length + (c + 1) ≤ S.length) (hp2 : tmass J + (c + 1) ≤ S.length) :
    LZ w g S a lv q (S.length - c') v wx := by
  have hm := fold_mass (quoted0 J) l
  have hq := quoted0_mass J
  obtain ⟨e, h3, h4, h5⟩ := h2
  have hl1 : ((quoted0 J).foldl putF l).length ≤ l.length + (J.length + 1) := by omega
  exact ⟨c', _, false, rfl, hr, hl.weak (fun _ h => h.elim), (fun e => by cases e), (fun _ => ⟨by rw [← hs, e], by omega, by omega, by omega⟩), by omega, by omega, by omega, fun e => absurd e (foldp_ne _ _ (by unfold quoted0; cases J <;> simp))⟩
theorem LZ.manyBad {w wx : World} {g a c c' : Nat} {S : List UInt8} {lv : Lv} {q : Bool} {v : Value} {l J : List Prt} {P : Nat → Prop} (hr : RdZ wx g S c' true) (hl : WLZ w g P ((quoted0 J).foldl putF l) v wx)
    (h2 : readG refR lv q l ⟨S.drop c, false⟩ = readG refR lv q [] ⟨S.drop a, false⟩ ∧ a ≤ c ∧ l.length + a ≤ c ∧ tmass l + a ≤ c)
    (hs : (readG refR lv q l ⟨S.drop c, false⟩).2.bad = true) (hlt : c < S.length) (hN : c' + a ≤ 2 * S.length + 1) (hp : J.length + (c + 1) ≤ S.length) (hp2 : tmass J + (c + 1) ≤ S.length) :
    LZ w g S a lv q 0 v wx := by
  have hm := fold_mass (quoted0 J) l
  have hq := quoted0_mass J
  obtain ⟨e, h3, h4, h5⟩ := h2
  exact ⟨c', _, true, rfl, hr, hl.weak (fun _ h => h.elim), (fun _ => by rw [← e]; exact hs), (fun e => by cases e), hN, by omega, by omega, fun e => absurd e (foldp_ne _ _ (by unfold quoted0; cases J <;> simp))⟩
/-- Where reading stops. -/
theorem wordG_stop (R : Rdr) : ∀ (n : Nat) (lv : Lv) (q : Bool) (acc : List Prt) (st : Rst), st.s.length < n → (wordG R n lv q acc st).2.bad = false → (wordG R n lv q acc st).2.s = [] ∨ ∃ c r, (wordG R n lv q acc st).2.s = c :: r ∧ lv.ends = some c
  | 0, _, _, _, st, h, _ => by omega
  | n + 1, lv, q, acc, ⟨[], bad⟩, _, _ => .inl rfl
  | n + 1, lv, q, acc, ⟨c :: r, bad⟩, h, hb => by
    have hr : r.length < n := by simp at h; omega
    unfold wordG at hb ⊢
    simp only at hb ⊢
    split at hb
    · rename_i hc
      rw [if_pos hc]
      rcases hc with hc | hc
      · subst hc; cases hb
      · exact .inr ⟨c, r, rfl, hc⟩
    · rename_i hc
      rw [if_neg hc]
      split at hb
      · rename_i h1
        rw [if_pos h1]
        exact wordG_stop R n _ _ _ _ (by have := R.prLen lv q r; simp only; omega) hb
      · rename_i h1
        rw [if_neg h1]
        split at hb
        · rename_i h2
          rw [if_pos h2]
          exact wordG_stop R n _ _ _ _ (by have := dollarG_len (R := R) (q := q) (r := r) (W := wordG R n .brc q []) (fun st _ => wordG_len R n _ _ _ st); omega) hb
        · rename_i h2
          rw [if_neg h2]
          split at hb
          · rename_i h3
            rw [if_pos h3]
            exact wordG_stop R n _ _ _ _ (by have := cutR_len 39 r; simp only; omega) hb
          · rename_i h3
            rw [if_neg h3]
            split at hb
            · rename_i h4
              rw [if_pos h4]
              exact wordG_stop R n _ _ _ _ (by have h1 := strip34_len (wordG R n .dbl true [] ⟨r, false⟩).2.s; have h2 := wordG_len R n .dbl true [] ⟨r, false⟩; simp only at h1 h2 ⊢; omega) hb
            · rename_i h4
              rw [if_neg h4]
              exact wordG_stop R n _ _ _ _ hr hb
theorem readG_dbl34 {R : Rdr} {q : Bool} {s : List UInt8} {S : List UInt8} {c : Nat} (hb : (readG R .dbl q [] ⟨s, false⟩).2.bad = false) (hc : S.drop c = (readG R .dbl q [] ⟨s, false⟩).2.s) : strip34 (readG R .dbl q [] ⟨s, false⟩).2.s = S.drop (c + 1) := by
  rw [← List.drop_drop, hc]
  rcases wordG_stop R _ .dbl q [] ⟨s, false⟩ (Nat.lt_succ_self _) hb with h | ⟨c, r, h, he⟩
  · have h' : (readG R .dbl q [] ⟨s, false⟩).2.s = [] := h
    rw [h']; rfl
  · have h' : (readG R .dbl q [] ⟨s, false⟩).2.s = c :: r := h
    have : c = 34 := (Option.some.inj he).symm
    rw [h', this]
    simp [strip34]
/-- The slice value of nothing. -/
def NilV (v : Value) : Prop := v = .slice none 0 0
/-- Where the loop over the inner parts stands. -/
def IZ (w : World) (g : Nat) (S : List UInt8) (c : Nat) (bad : Bool) (P : Nat → Prop) (J l : List Prt) (vi : Value) (gk : Nat) (v s11 : Value) (wx : World) : Prop :=
  ∃ (k : Nat) (l' : List Prt), gk = J.length - k ∧ k ≤ J.length ∧ s11 = .int .i64 (k : Int) ∧ RdZ wx g S c bad ∧ WLZ w g P l' v wx ∧ WAt wx P vi J ∧ (J.drop k).foldl putF l' = J.foldl putF l ∧ l'.length ≤ l.length + k ∧ tmass l' + tmass (J.drop k) = tmass l + tmass J
end Go.Proofs.YtifcgeanippepaaDoor
