/- PatternNames: the names' range, and Matches' over it. -/
import Derived.Test.YtkfoinphkjmlmaaShort
import Derived.Test.YtkfoinphkjmlmaaIterM
import Derived.Test.YtkfoinphkjmlmaaMatchW
import Derived.Sort.LoopGhostIn
namespace Go.Proofs.Ytkfoinphkjmlmaa
open Go Go.RowKit Go.Lw
set_option maxRecDepth 100000
set_option linter.unusedVariables false
set_option linter.unusedSimpArgs false
attribute [local go_sem] Oper.semAt_some
attribute [local go_sem] BA_toList
abbrev sE (s : List UInt8) : Array Value := #[.string (BA s)]
def cutL (l : List (List UInt8)) : List (List UInt8) := l.map fun s => s.take 24
/-- The names, in a box; how many were asked for, in another. -/
structure NmAt (w : World) (BN CA : Nat) (nv : Value) (l : List (List UInt8)) : Prop where
  box : w.heap[BN]? = some (.cells #[nv] 22 (0, 0))
  rd : Rd w 1 nv l.length (l.map fun s => Value.string (BA s))
  ne : BN ≠ CA
  fr : l ≠ [] → ∀ k, blk nv k → k < w.heap.size ∧ k ≠ CA
  few : l.length ≤ 20
  sh : ∀ s ∈ l, s.length ≤ 9223372036854775807
def NmR (BN : Nat) (nv : Value) (l : List (List UInt8)) (k : Nat) : Prop := k = BN ∨ (l ≠ [] ∧ blk nv k)
def AsK (CA : Nat) (n : Nat) (W : World) : Prop := W.heap[CA]? = some (.cells #[.int .i64 (n : Int)] 3 (0, 0))
theorem NmAt.keeps {w w' : World} {BN CA : Nat} {nv : Value} {l : List (List UInt8)} {R : Nat → Prop} (h : NmAt w BN CA nv l) (hk : Keeps R w w') (hR : ∀ k, NmR BN nv l k → R k) : NmAt w' BN CA nv l :=
  ⟨hk.heap h.box (hR _ (.inl rfl)), by
    by_cases hl : l = []
    · subst hl
      obtain ⟨h1, a, c, h2, h3, h4, _⟩ := h.rd
      exact ⟨h1, a, c, h2, h3, h4, fun j u hj => by simp at hj⟩
    · exact h.rd.of_cells fun g off j u hg hc => hk.cell hc (hR _ (.inr ⟨hl, hg⟩)), h.ne, fun hl k hb => ⟨Nat.lt_of_lt_of_le (h.fr hl k hb).1 hk.1, (h.fr hl k hb).2⟩, h.few, h.sh⟩
theorem cut_take {l : List (List UInt8)} {k : Nat} {s : List UInt8} (h : l[k]? = some s) : (cutL l).take (k + 1) = (cutL l).take k ++ [s.take 24] := by
  have hk := (List.getElem?_eq_some_iff.1 h)
  obtain ⟨h1, h2⟩ := hk
  unfold cutL
  rw [take_snoc _ k (by rw [List.length_map]; exact h1), List.getElem_map, h2]
theorem strs_at {w : World} {ad : Option Addr} {n m cap : Nat} {l : List (List UInt8)} (h : Rd w 1 (.slice ad n cap) m (l.map fun s => Value.string (BA s))) {k : Nat} {s : List UInt8} (hs : l[k]? = some s) :
    ∃ g off, ad = some ⟨g, off, none⟩ ∧ w.cell? ⟨g, off + k, none⟩ = some (.string (BA s)) := by
  obtain ⟨_, a', c', e', _, _, hcell⟩ := h
  cases e'
  exact hcell k (.string (BA s)) (by rw [List.getElem?_map, hs]; rfl)
set_option maxHeartbeats 4000000 in
theorem all_iter (w : World) (BN CA : Nat) (nv : Value) (l : List (List UInt8)) (hn : NmAt w BN CA nv l) (ha : AsK CA 0 w) :
    IterM Try.prog 6 #[.pointer (some ⟨BN, 0, none⟩), .pointer (some ⟨CA, 0, none⟩)] sE (NmR BN nv l) (fun k => k = CA) (AsK CA l.length) (fun pre => AsK CA pre.length) (cutL l) w := by
  intro y J Jx X W hW hX hM hJ hJx hY h0
  have HN := Lw.hid (hn.keeps hW (fun k h => .inl h))
  have hA0 : AsK CA 0 W := hW.heap ha (.inr rfl)
  have hXC : X CA := hM CA rfl
  obtain ⟨_, ad, cap, rfl, hc1, hc2, _⟩ := id hn.rd
  have HY := Lw.hid hY; have HJ := Lw.hid hJ; have HX := Lw.hid hX; have H0 := Lw.hid h0; have HXC := Lw.hid hXC; have HA0 := Lw.hid hA0
  obtain ⟨n, hln⟩ : ∃ n, l.length = n := ⟨_, rfl⟩
  have HLN := Lw.hid hln
  have hn20 : n ≤ 20 := by rw [← hln]; exact hn.few
  rw [hln] at hc1 HN
  clear hY hJ hJx h0 hX hM hW hn ha hA0 hXC hln
  refine (callsIn_wide (n := 0)).1 (callsIn_of_wp Try.func6 rfl trivial ?_)
  simp only [Try.ntmps6, List.size_toArray, List.length_cons, List.length_nil, Nat.reduceAdd, Nat.reduceSub, Array.replicate_succ, Array.replicate_zero, List.push_toArray, List.append_toArray, List.nil_append, List.cons_append]
  have c0 : W.cell? ⟨BN, 0, none⟩ = some (.slice ad n cap) := heap_cell HN.out.box 0
  gi_wp2_with fail
  gi_loopg [8] n (fun gk s8 wr => ∃ k : Nat, gk = n - k ∧ k ≤ n ∧ s8 = .int .i64 (k : Int) ∧ J X ((cutL l).take k) wr ∧ Keeps (NmR BN (.slice ad n cap) l) W wr ∧ (∀ i, X i → i < wr.heap.size) ∧ AsK CA k wr)
  case atStart => exact ⟨0, rfl, Nat.zero_le _, rfl, H0.out, Keeps.refl _ _, HX.out, HA0.out⟩
  case round =>
    obtain ⟨k, rfl, hk, rfl, hjs, hkp, hXr, hak⟩ := hrel
    have HJS := Lw.hid hjs; have HKP := Lw.hid hkp; have HXR := Lw.hid hXr; have HAK := Lw.hid hak
    have HNr := Lw.hid (HN.out.keeps hkp (fun _ h => h))
    clear hjs hkp hXr c0
    by_cases hlt : k < n
    · obtain ⟨s, hs⟩ : ∃ s, l[k]? = some s := ⟨_, List.getElem?_eq_getElem (by rw [HLN.out]; exact hlt)⟩
      have HS := Lw.hid hs
      have hs9 := HNr.out.sh s (List.mem_of_getElem? hs)
      obtain ⟨g, off, rfl, q0⟩ := strs_at HNr.out.rd hs
      have hgC : g ≠ CA := (HNr.out.fr (by rintro rfl; simp at hs) g rfl).2
      have a0 := heap_cell hak 0; have f0 := heap_free hak 0
      have i0 : (0 : Int) ≤ (k : Int) := by omega
      have i1 : (k : Int) < (n : Int) := by omega
      have hkn : k + 1 ≤ n := hlt
      clear hs hak
      gi_wp2_with fail
      obtain ⟨w5, hw5⟩ : ∃ w5, wr.setCell ⟨CA, 0, none⟩ (.int .i64 ((k : Int) + 1)) = w5 := ⟨_, rfl⟩
      have K5 : Hid (Kept (fun i => i = CA) wr w5) := Lw.hid (by rw [← hw5]; exact (Kept.refl (fun i => i = CA) wr).set _ _ (fun _ => rfl) _)
      have HA5 : Hid (AsK CA (k + 1) w5) := Lw.hid (by rw [← hw5]; exact Boxed.set _ HAK.out)
      rw [hw5]
      clear hw5 a0 f0 q0
      refine ⟨trivial, rfl, (callsIn_wide.2 (short_any w5 [] s (by decide) hs9)).mono ?_⟩
      rintro e w6 ⟨p', hp', rfl, k6⟩
      have K6 := Lw.hid (K5.out.trans (S := fun i => i = CA) k6 (fun _ _ h => h.elim))
      have HA6 := Lw.hid (k6.heap HA5.out (fun h => h))
      have HJ6 := Lw.hid (HJ.out _ X _ _ _ HJS.out (K6.out.mono (fun i _ e => by subst e; exact HXC.out)) (fun _ h => .inl h))
      have HX6 : Hid (∀ i, X i → i < w6.heap.size) := Lw.hid (fun i hi => Nat.lt_of_lt_of_le (HXR.out i hi) K6.out.size)
      have HKP6 : Hid (Keeps (NmR BN (.slice (some ⟨g, off, none⟩) n cap) l) W w6) := Lw.hid (HKP.out.trans (K6.out.keeps (fun i _ hr e => by
        subst e
        rcases hr with h | h
        · exact HN.out.ne h.symm
        · exact hgC (blk_some h.2).symm)))
      clear k6 K5 HA5
      have HTK := Lw.hid (cut_take HS.out)
      obtain ⟨fn, tmps, assign, body, hy, hR⟩ := HY.out X ((cutL l).take k) (s.take 24) w6 HJ6.out HX6.out (by rw [← HTK.out]; exact List.take_prefix _ _)
      gi_wp2_with fail
      refine ⟨rfl, (roundAny hR).mono ?_⟩
      rintro e W3 (⟨rfl, hj3, hk3⟩ | ⟨rfl, hx3, hk3⟩)
      · have HJ3 := Lw.hid hj3; have HK3 := Lw.hid hk3
        clear hj3 hk3
        gi_wp2_with fail
        gi_roundg (n - (k + 1))
        case measure => omega
        case rel => exact ⟨k + 1, rfl, hkn, by go_num, by rw [HTK.out]; exact HJ3.out, HKP6.out.trans (HK3.out.mono (fun i h => .inl h)), fun i hi => Nat.lt_of_lt_of_le (HX6.out i hi) HK3.out.1, HK3.out.heap HA6.out (.inr HXC.out)⟩
      · gi_wp2_with fail
        refine bodyPost_ret (results_none rfl _ _ _) rfl ?_
        refine ⟨⟨_, rfl⟩, .inr ⟨X, _, fun i hi => Nat.lt_of_lt_of_le (HX6.out i hi) hk3.1, fun _ h => h, by rw [← HTK.out]; exact List.take_prefix _ _, by simp, hx3, ?_⟩⟩
        have e1 : ((cutL l).take k ++ [s.take 24]).length = k + 1 := by
          rw [← HTK.out, List.length_take, Nat.min_eq_left]
          unfold cutL; rw [List.length_map, HLN.out]; exact hkn
        rw [e1]
        exact hk3.heap HA6.out (.inr HXC.out)
    · obtain rfl : k = n := by omega
      gi_wp2_with fail
      go_end0
      refine ⟨⟨_, rfl⟩, .inl ⟨X, HXR.out, fun _ h => h, ?_, by rw [HLN.out]; exact HAK.out⟩⟩
      have := HJS.out
      rwa [List.take_of_length_le (by unfold cutL; rw [List.length_map, HLN.out]; exact Nat.le_refl _)] at this
structure MtAt (w : World) (BF BP BN CA : Nat) (p : List UInt8) (nv : Value) (l : List (List UInt8)) : Prop where
  all : w.heap[BF]? = some (.cells #[.func (.func 6) #[] #[.pointer (some ⟨BN, 0, none⟩), .pointer (some ⟨CA, 0, none⟩)]] 27 (0, 0))
  pat : w.heap[BP]? = some (.cells #[.string (BA p)] 9 (0, 0))
  nm : NmAt w BN CA nv l
  ne : BF ≠ CA ∧ BP ≠ CA
def MtR (BF BP BN : Nat) (nv : Value) (l : List (List UInt8)) (k : Nat) : Prop := k = BF ∨ k = BP ∨ NmR BN nv l k
theorem MtAt.keeps {w w' : World} {BF BP BN CA : Nat} {p : List UInt8} {nv : Value} {l : List (List UInt8)} {R : Nat → Prop} (h : MtAt w BF BP BN CA p nv l) (k : Keeps R w w') (hR : ∀ i, MtR BF BP BN nv l i → R i) : MtAt w' BF BP BN CA p nv l :=
  ⟨k.heap h.all (hR _ (.inl rfl)), k.heap h.pat (hR _ (.inr (.inl rfl))), h.nm.keeps k (fun i hi => hR _ (.inr (.inr hi))), h.ne⟩
theorem NmAt.lt {w : World} {BN CA : Nat} {nv : Value} {l : List (List UInt8)} (h : NmAt w BN CA nv l) : ∀ k, NmR BN nv l k → k < w.heap.size := fun k hk => by
  rcases hk with rfl | hk
  · exact (Array.getElem?_eq_some_iff.1 h.box).1
  · exact (h.fr hk.1 k hk.2).1
theorem MtAt.lt {w : World} {BF BP BN CA : Nat} {p : List UInt8} {nv : Value} {l : List (List UInt8)} (h : MtAt w BF BP BN CA p nv l) : ∀ k, MtR BF BP BN nv l k → k < w.heap.size := fun k hk => by
  rcases hk with rfl | rfl | hk
  · exact (Array.getElem?_eq_some_iff.1 h.all).1
  · exact (Array.getElem?_eq_some_iff.1 h.pat).1
  · exact h.nm.lt k hk
theorem NmAt.nca {w : World} {BN CA : Nat} {nv : Value} {l : List (List UInt8)} (h : NmAt w BN CA nv l) : ∀ k, NmR BN nv l k → k ≠ CA := fun k hk => by
  rcases hk with rfl | hk
  · exact h.ne
  · exact (h.fr hk.1 k hk.2).2
theorem MtAt.nca {w : World} {BF BP BN CA : Nat} {p : List UInt8} {nv : Value} {l : List (List UInt8)} (h : MtAt w BF BP BN CA p nv l) : ∀ k, MtR BF BP BN nv l k → k ≠ CA := fun k hk => by
  rcases hk with rfl | rfl | hk
  · exact h.ne.1
  · exact h.ne.2
  · exact h.nm.nca k hk
/-- Left behind some: how many names were asked for. -/
def MtX (CA : Nat) (p : List UInt8) (l : List (List UInt8)) (pre' : List (List UInt8)) (W : World) : Prop :=
  ∃ pre, pre <+: cutL l ∧ pre.filter (matchF p) = pre' ∧ (∃ q x, pre = q ++ [x] ∧ matchF p x = true) ∧ AsK CA pre.length W
theorem snocT {p : List UInt8 → Bool} {pre : List (List UInt8)} {x : List UInt8} (h : p x = true) : (pre ++ [x]).filter p = pre.filter p ++ [x] := by simp [h]
theorem snocF {p : List UInt8 → Bool} {pre : List (List UInt8)} {x : List UInt8} (h : p x = false) : (pre ++ [x]).filter p = pre.filter p := by simp [h]
theorem filterP {p : List UInt8 → Bool} {a b : List (List UInt8)} (h : a <+: b) : a.filter p <+: b.filter p := by
  obtain ⟨t, rfl⟩ := h
  rw [List.filter_append]; exact List.prefix_append _ _
theorem cut_few {l : List (List UInt8)} {x : List UInt8} (h : x ∈ cutL l) : x.length ≤ 24 := by
  unfold cutL at h
  obtain ⟨s, _, rfl⟩ := List.mem_map.1 h
  exact List.length_take_le _ _
set_option maxHeartbeats 8000000 in
theorem match_iter (w : World) (BF BP BN CA : Nat) (p : List UInt8) (nv : Value) (l : List (List UInt8)) (hm : MtAt w BF BP BN CA p nv l) (ha : AsK CA 0 w) (hp24 : p.length ≤ 24) :
    IterM Try.prog 14 #[.pointer (some ⟨BF, 0, none⟩), .pointer (some ⟨BP, 0, none⟩)] sE (MtR BF BP BN nv l) (fun k => k = CA) (AsK CA l.length) (MtX CA p l) ((cutL l).filter (matchF p)) w := by
  intro y J Jx X W hW hX hMX hJ hJx hY h0
  have HM := Lw.hid (hm.keeps hW (fun k h => .inl h))
  have hlt : ∀ k, MtR BF BP BN nv l k → k < W.heap.size := HM.out.lt
  have hA0 : AsK CA 0 W := hW.heap ha (.inr rfl)
  have hCW : CA < W.heap.size := (Array.getElem?_eq_some_iff.1 hA0).1
  have HXC : Hid (X CA) := Lw.hid (hMX CA rfl)
  have HY := Lw.hid hY; have HJ := Lw.hid hJ; have HJX := Lw.hid hJx; have H0 := Lw.hid h0; have HX := Lw.hid hX; have HLT := Lw.hid hlt; have HA0 := Lw.hid hA0
  clear hm hY hJ hJx h0 hW hX hlt ha hA0 hMX
  refine calls_of_wp_marks Try.func14 rfl ?_
  simp only [Try.ntmps14, List.size_toArray, List.length_cons, List.length_nil, Nat.reduceAdd, Nat.reduceSub, Array.replicate_succ, Array.replicate_zero, List.push_toArray, List.append_toArray, List.nil_append, List.cons_append]
  have cA : (W.alloc (.cells #[.func (.yield y) #[] #[]] 26)).cell? ⟨BF, 0, none⟩ = some (.func (.func 6) #[] #[.pointer (some ⟨BN, 0, none⟩), .pointer (some ⟨CA, 0, none⟩)]) := ((Kept.refl (fun _ => False) W).alloc _).cell (heap_cell HM.out.all 0) (fun h => h)
  go_wp2_with fail
  have hz : (W.alloc (.cells #[.func (.yield y) #[] #[]] 26)).heap.size = W.heap.size + 1 := by simp
  have KW : Hid (Kept (fun _ => False) W (W.alloc (.cells #[.func (.yield y) #[] #[]] 26))) := Lw.hid ((Kept.refl _ W).alloc _)
  have hY1 : (W.alloc (.cells #[.func (.yield y) #[] #[]] 26)).heap[W.heap.size]? = some (.cells #[.func (.yield y) #[] #[]] 26 (0, 0)) := heap_alloc W _
  obtain ⟨W1, hW1⟩ : ∃ W1, W.alloc (.cells #[.func (.yield y) #[] #[]] 26) = W1 := ⟨_, rfl⟩
  rw [hW1] at hz KW hY1 ⊢
  clear hW1 cA
  have HM1 := Lw.hid (HM.out.keeps (KW.out.keeps (R := fun _ => True) (fun _ _ _ h => h)) (fun _ _ => trivial))
  refine wp_rangeM (gf := 6) (lb := #[.pointer (some ⟨BN, 0, none⟩), .pointer (some ⟨CA, 0, none⟩)]) rfl (Go.Proofs.enters_of Try.func6 (by kernel_rfl) rfl)
    (all_iter W1 BN CA nv l HM1.out.nm (KW.out.heap HA0.out (fun h => h))) (fun k hk => by subst hk; omega) (fun V V' h k => k.heap h rfl) (fun s V V' h k => k.heap h rfl) (fun k hk => HM1.out.nm.lt k hk) (fun _ => rfl)
    (fun X' pre V => J (fun k => X k ∨ k = W.heap.size ∨ X' k) (pre.filter (matchF p)) V ∧ V.heap[W.heap.size]? = some (.cells #[.func (.yield y) #[] #[]] 26 (0, 0)) ∧ (∀ k, X' k → k = CA ∨ W.heap.size + 1 ≤ k) ∧ Keeps (MtR BF BP BN nv l) W V)
    (fun c X' pre V => c = .ret ∧ Jx (fun k => X k ∨ k = W.heap.size ∨ X' k) (pre.filter (matchF p)) V ∧ (∃ q x, pre = q ++ [x] ∧ matchF p x = true) ∧ (∀ k, X' k → k = CA ∨ W.heap.size + 1 ≤ k) ∧ W.heap.size < V.heap.size)
    ?_ ?_ ?_ (fun X' q V => q.2.2 = { tmps := #[.func (.yield y) #[] #[], .pointer (some ⟨BF, 0, none⟩), .pointer (some ⟨BP, 0, none⟩), .pointer (some ⟨W.heap.size, 0, none⟩), .string (BA q.2.1), .func (.func 6) #[] #[.pointer (some ⟨BN, 0, none⟩), .pointer (some ⟨CA, 0, none⟩)], .string (BA q.2.1), undef, undef, undef, undef, undef, undef, undef, undef, undef], defers := [] })
    (fun _ _ _ _ _ h _ _ => h) ?assign ?body ?done ?stop
  · rintro X1 X2 s V V' ⟨h1, h2, h3, h4⟩ hk hx
    have hzV := (Array.getElem?_eq_some_iff.1 h2).1
    refine ⟨HJ.out _ _ _ _ _ h1 (hk.mono (fun i _ h => .inr (.inr h))) (fun i hi => ?_), hk.heap h2 (fun h => by have := h3 _ h; omega), fun i hi => ?_, h4.trans (hk.keeps (fun i hi hr hx => by
      rcases h3 i hx with h | h
      · exact HM.out.nca i hr h
      · have := HLT.out i hr; omega))⟩
    · rcases hi with h | h | h
      · exact .inl (.inl h)
      · exact .inl (.inr (.inl h))
      · exact (hx i h).imp (fun h => .inr (.inr h)) id
    · rcases hx i hi with h | h
      · exact h3 i h
      · exact .inr (by omega)
  · rintro c X1 X2 s V V' ⟨h1, h2, h3, h4, h5⟩ hk hx
    refine ⟨h1, HJX.out _ _ _ _ _ h2 (hk.mono (fun i _ h => .inr (.inr h))) (fun i hi => ?_), h3, fun i hi => ?_, Nat.lt_of_lt_of_le h5 hk.size⟩
    · rcases hi with h | h | h
      · exact .inl (.inl h)
      · exact .inl (.inr (.inl h))
      · exact (hx i h).imp (fun h => .inr (.inr h)) id
    · rcases hx i hi with h | h
      · exact h4 i h
      · exact .inr (by omega)
  · exact ⟨HJ.out _ _ _ _ _ H0.out (KW.out.mono (fun _ _ h => h.elim)) (fun i hi => by rcases hi with h | h | h; exact .inl h; exact .inr (by omega); exact .inl (by rw [h]; exact HXC.out)), hY1, fun k h => .inl h, KW.out.keeps (fun _ _ _ h => h)⟩
  case assign =>
    rintro q X' pre x V K hi _ _ _ hK
    gi_wp2
    exact hK _ _ (Keeps.refl _ _) hi rfl
  case body =>
    rintro q X' pre x a' V ⟨h1, h2, h3, h4⟩ hax hX' hpx hsz
    dsimp only at hax
    subst hax
    have HH1 := Lw.hid h1; have HH3 := Lw.hid h3; have HH4 := Lw.hid h4; have HX' := Lw.hid hX'; have HPX := Lw.hid hpx
    have hMV := HM.out.keeps h4 (fun _ h => h)
    have cP : V.cell? ⟨BP, 0, none⟩ = some (.string (BA p)) := heap_cell hMV.pat 0
    have cY := heap_cell h2 0
    have hx24 : x.length ≤ 100000 := by have := cut_few (l := l) (x := x) (hpx.subset (by simp)); omega
    have HMV := Lw.hid hMV
    clear h1 h3 h4 hX' hpx hMV
    have hXlt : Hid (∀ W4 : World, V.heap.size ≤ W4.heap.size → ∀ k, (X k ∨ k = W.heap.size ∨ X' k) → k < W4.heap.size) := Lw.hid (fun W4 hs k hk => by
      have := HH4.out.1
      rcases hk with h | h | h
      · have := HX.out k h; omega
      · omega
      · have := (HX'.out k h).2; omega)
    cases hp : matchF p x with
    | false =>
      gi_wp2_with (refine ⟨trivial, rfl, ?_⟩; gi_at_call 15; refine (CallsIn.inRound q (callsIn_wide.2 (match_any _ p x (by omega) hx24))).mono ?_; rintro e W4 ⟨rfl, k4⟩; rw [hp])
      all_goals (refine ⟨fun _ h => (by cases h), ?_⟩; gi_wp2)
      all_goals exact ⟨k4.keeps (fun _ _ _ h => h), by
        dsimp only
        rw [snocF hp]
        exact ⟨HJ.out _ _ _ _ _ HH1.out (k4.mono (fun _ _ h => h.elim)) (fun i h => .inl h), k4.heap h2 (fun h => h), HH3.out, HH4.out.trans (k4.keeps (fun _ _ _ h => h))⟩⟩
    | true =>
      have HP := Lw.hid hp
      gi_wp2_with (refine ⟨trivial, rfl, ?_⟩; gi_at_call 15; refine (CallsIn.inRound q (callsIn_wide.2 (match_any _ p x (by omega) hx24))).mono ?_; rintro e W4 ⟨rfl, k4⟩; rw [hp]; have h24 := k4.heap h2 (fun h => h); have cY4 := heap_cell h24 0; obtain ⟨fn, tmps, assign, body, hy, hR⟩ := HY.out (fun k => X k ∨ k = W.heap.size ∨ X' k) (pre.filter (matchF p)) x W4 (HJ.out _ _ _ _ _ HH1.out (k4.mono (fun _ _ h => h.elim)) (fun i h => .inl h)) (hXlt.out W4 k4.size) (by rw [← snocT hp]; exact filterP HPX.out))
      refine ⟨rfl, RoundIn.mono (F := Fence.wide.inRound q) (roundAny hR) ?_⟩
      rintro e W5 (⟨rfl, hj5, hk5⟩ | ⟨rfl, hx5, hk5⟩)
      · gi_wp2
        exact ⟨(k4.keeps (fun _ _ _ h => h)).trans (hk5.mono (fun i hi => hi.elim (fun h => .inl (.inr (.inr h))) (fun h => .inr (.inr (.inr h))))), by
          dsimp only
          rw [snocT HP.out]
          exact ⟨hj5, hk5.heap h24 (.inr (.inr (.inl rfl))), HH3.out, (HH4.out.trans (k4.keeps (fun _ _ _ h => h))).trans (hk5.mono (fun i h => .inl h))⟩⟩
      · gi_wp2
        exact ⟨(k4.keeps (fun _ _ _ h => h)).trans (hk5.mono (fun i hi => hi.elim (fun h => .inl (.inr (.inr h))) (fun h => .inr (.inr (.inr h))))), by
          dsimp only
          rw [snocT HP.out]
          exact ⟨rfl, hx5, ⟨pre, x, rfl, HP.out⟩, HH3.out, Nat.lt_of_lt_of_le (Array.getElem?_eq_some_iff.1 h24).1 hk5.1⟩⟩
  case done =>
    rintro X' D V hD hXD hXb ⟨h1, h2, h3, h4⟩ hsd hdf
    go_wp2
    refine leaves_marks [D] V (by simp) (fun r hr => by rw [List.mem_singleton.1 hr]; exact hdf) (fun V' hk => ?_)
    refine ⟨_, results_none rfl _ _ _, ⟨_, rfl⟩, .inl ⟨fun k => X k ∨ k = W.heap.size ∨ X' k, fun k hk' => ?_, fun k h => .inl h, HJ.out _ _ _ _ _ h1 (hk.mono (fun i _ h => by rw [List.mem_singleton.1 h]; exact .inr (.inr hXD))) (fun i h => .inl h), hk.heap hsd (fun h => by rw [List.mem_singleton.1 h] at hCW; omega)⟩⟩
    have hsz := hk.size
    rcases hk' with h | h | h
    · have := HX.out k h; have := h4.1; omega
    · have := (Array.getElem?_eq_some_iff.1 h2).1; omega
    · have := (hXb k h).2; omega
  case stop =>
    rintro X' c pre D V hD hXD hXb hpre hne ⟨rfl, h2, ⟨q, x, rfl, hx⟩, h4, h5⟩ hsx hdf
    go_wp2
    refine leaves_marks [D] V (by simp) (fun r hr => by rw [List.mem_singleton.1 hr]; exact hdf) (fun V' hk => ?_)
    refine ⟨_, results_none rfl _ _ _, ⟨_, rfl⟩, .inr ⟨fun k => X k ∨ k = W.heap.size ∨ X' k, (q ++ [x]).filter (matchF p), fun k hk' => ?_, fun k h => .inl h, filterP hpre, by rw [snocT hx]; simp, HJX.out _ _ _ _ _ h2 (hk.mono (fun i _ h => by rw [List.mem_singleton.1 h]; exact .inr (.inr hXD))) (fun i h => .inl h), q ++ [x], hpre, rfl, ⟨q, x, rfl, hx⟩, hk.heap hsx (fun h => by rw [List.mem_singleton.1 h] at hCW; omega)⟩⟩
    have hsz := hk.size
    rcases hk' with h | h | h
    · have := HX.out k h; omega
    · omega
    · have := (hXb k h).2; omega
end Go.Proofs.Ytkfoinphkjmlmaa
