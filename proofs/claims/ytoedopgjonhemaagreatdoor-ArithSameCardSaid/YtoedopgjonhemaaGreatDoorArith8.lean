/- arith: looking up; which names were asked; the getter. -/
import Derived.Test.YtoedopgjonhemaaGreatDoorArith7
import Derived.Test.YtoedopgjonhemaaGreatDoorMapLit
namespace Go.Proofs.YtoedopgjonhemaaGreatDoor
open Go Go.RowKit Go.Lw
set_option maxRecDepth 100000
set_option linter.unusedVariables false
set_option linter.unusedSimpArgs false
attribute [local go_sem] BA_toList
/-- A look-up tells f at what K says, as long as the map's block stays. -/
structure LkAt (T : TypeId) (mv : Value) (K : List UInt8 → Prop) (f : List UInt8 → Value) (w : World) : Prop where
  runs : ∀ w' : World, (∀ b, mv = .map (some b) → w'.heap[b]? = w.heap[b]?) → ∀ s, K s → s.length ≤ maxLen → (Instr.lookup T mv (.string (BA s)) false).run Tryz.prog w' = .ok (f s) w'
  lt : ∀ b, mv = .map (some b) → b < w.heap.size
theorem LkAt.kept {T : TypeId} {mv : Value} {K : List UInt8 → Prop} {f : List UInt8 → Value} {S : Nat → Prop} {w w2 : World} (h : LkAt T mv K f w) (k : Kept S w w2) (hS : ∀ b, mv = .map (some b) → ¬ S b) : LkAt T mv K f w2 :=
  ⟨fun w' h' s hs hl => h.runs w' (fun b hb => (h' b hb).trans (k.block b (h.lt b hb) (hS b hb))) s hs hl, fun b hb => Nat.lt_of_lt_of_le (h.lt b hb) k.size⟩
/-- A name's text, as it stands in the map. -/
def textV (s : List UInt8) : Value := .agg #[.string (BA s)]
def envN : List UInt8 → List UInt8 := fun _ => []
theorem look_nil (w : World) : LkAt 23 (.map none) (fun _ => True) (fun s => textV (envN s)) w := by
  refine ⟨fun w' _ s _ hl => ?_, fun b hb => by cases hb⟩
  have hz : (zeroValue 26).run Tryz.prog w' = .ok (textV []) w' := rfl
  have hik : MapKept.IsKey .string (.string (BA s)) := by simp [MapKept.IsKey]
  have hd := Tryz.underlying9
  have h1 : Instr.findNow .string (.string (BA s)) ([] : List MapEntry) 0 = some none := rfl
  simp [Instr.lookup, run_underlying Tryz.underlying23, MapKept.run_checkKey hd hik, MapKept.run_findKey hd h1, hz, Result.andThen, envN]
theorem look_map {W0 w : World} {b n : Nat} {l : List (List UInt8 × Value)} (h : SMap W0 w Tryz.prog 9 b n l) (env : List UInt8 → List UInt8) (he : ∀ s, textV (env s) = (assocS l s).getD (textV [])) :
    LkAt 23 (.map (some b)) (fun _ => True) (fun s => textV (env s)) w := by
  obtain ⟨⟨D, h1, h2⟩, h3, h4⟩ := h
  refine ⟨fun w' hb s _ hl => ?_, fun b' hb => by cases hb; exact h1.lt⟩
  have h1' : w'.ownsMap Tryz.prog 9 RV b n D := by
    obtain ⟨es, clock, e1, e2⟩ := h1
    exact ⟨es, clock, (hb b rfl).trans e1, e2⟩
  have hz : (zeroValue 26).run Tryz.prog w' = .ok (textV []) w' := rfl
  have hkey : keyOf Tryz.prog 9 (.string (BA s)) = some (.string s) := WideMaps.keyOf_string_mk Tryz.underlying9 (by rw [BA_size]; exact hl)
  obtain ⟨v, ps, hrun, hv⟩ := h1'.lookup (Maps.string_keyed Tryz.underlying9) Tryz.underlying23 hz (zd := .held (textV [])) (zp := []) rfl hkey
  rw [h2] at hv
  have : v = textV (env s) := by
    rw [he]
    cases e : assocS l s with
    | none => rw [e] at hv; cases hv; rfl
    | some u => rw [e] at hv; cases hv; rfl
  rw [hrun, this]
/-! Which names were asked. -/
def sV (s : List UInt8) : Value := .string (BA s)
structure ASt (w : World) (ak H : Nat) (l : List (List UInt8)) : Prop where
  cell : ∃ ad cap, w.heap[ak]? = some (.cells #[.slice ad l.length cap] 30 (0, 0)) ∧ w.ownsRow 0 9 1 (.slice ad l.length cap) l.length (l.map sV) ∧ ∀ k, blk (.slice ad l.length cap) k → H ≤ k
theorem ASt.kept {S : Nat → Prop} {w w' : World} {ak H : Nat} {l : List (List UInt8)} (h : ASt w ak H l) (k : Kept S w w') (ha : ¬ S ak) (hS : ∀ i, S i → i < H) : ASt w' ak H l := by
  obtain ⟨ad, cap, h1, h2, h3⟩ := h.cell
  exact ⟨ad, cap, k.heap h1 ha, own_kept k h2 (fun g hg hs => by have := h3 g hg; have := hS g hs; omega), h3⟩
theorem ETs : ElemT Tryz.prog 30 9 1 16 := ElemT.of (z := .string ⟨#[]⟩) Tryz.underlying30 (by kernel_rfl) rfl (by decide)
theorem field_any (w : World) (v : Value) : (Instr.field 26 (.agg #[v]) 0).run Tryz.prog w = .ok v w := rfl
theorem getf {w : World} {o : Obj} {H : Nat} {v v' : Value} (hHw : H ≤ w.heap.size) (h3 : ∀ k, blk v k → H ≤ k) (hf : Fresh (w.alloc o) v v') : ∀ k, blk v' k → H ≤ k := fun k hk => by
  rcases hf k hk with h | h
  · exact h3 k h
  · have : (w.alloc o).heap.size = w.heap.size + 1 := by simp
    omega
set_option maxHeartbeats 4000000 in
/-- The getter. -/
theorem get_any (w : World) (ak vk H : Nat) (mv : Value) (env : List UInt8 → List UInt8) (s : List UInt8) (l : List (List UInt8)) (hs9 : s.length ≤ 4000000) (hl9 : l.length ≤ 4000000)
    (hA : ASt w ak H l) (hV : w.heap[vk]? = some (.cells #[mv] 23 (0, 0))) (hL : LkAt 23 mv (fun _ => True) (fun s => textV (env s)) w) (hav : ak ≠ vk) (hvH : vk < H) (haH : ak < H) (hHw : H ≤ w.heap.size) (hm : ∀ b, mv = .map (some b) → b ≠ ak ∧ b < H) :
    Calls Tryz.prog 13 #[.string (BA s), .pointer (some ⟨ak, 0, none⟩), .pointer (some ⟨vk, 0, none⟩)] w fun x w' => x = .returned (.string (BA (env s))) ∧ ASt w' ak H (l ++ [s]) ∧ Kept (fun k => k = ak ∨ H ≤ k) w w' := by
  obtain ⟨ad, cap, h1, h2, h3⟩ := hA.cell
  obtain ⟨n, hn⟩ : ∃ n, l.length = n := ⟨_, rfl⟩
  rw [hn] at h1 h2 h3 hl9
  have q1 := heap_cell h1 0
  have qv := heap_cell hV 0
  have H1 := Lw.hid h1; have HV := Lw.hid hV; have H3 := Lw.hid h3; have HL := Lw.hid hL
  have HO3 : Hid ((w.alloc (.cells #[.string (BA s)] 9)).ownsRow 0 9 1 (.slice ad n cap) n (l.map sV)) := Lw.hid (own_kept ((Kept.refl (fun _ => False) w).alloc _) h2 (fun _ _ h => h))
  have HR3 : Hid (Rd (w.alloc (.cells #[.string (BA s)] 9)) 1 (.slice (some ⟨w.heap.size, 0, none⟩) 1 1) 1 [.string (BA s)]) := Lw.hid (Rd.lit _ [.string (BA s)] 9 1 w.heap.size 1 (by simp) rfl (by decide))
  have HONE : Hid (∀ u ∈ ([.string (BA s)] : List Value), u.oneCell' = true) := Lw.hid (fun u hu => by rw [List.mem_singleton.1 hu]; rfl)
  have HN := Lw.hid hn
  have hakw := heap_lt h1
  have HHW := Lw.hid hHw
  have hfld : ∀ w' : World, (Instr.field 26 (.agg #[.string (BA (env s))]) 0).run Tryz.prog w' = .ok (.string (BA (env s))) w' := fun w' => field_any w' _
  clear hA h1 h2 h3 hV hL hn
  go_enter Tryz.func13, Tryz.ntmps13
  go_wp2_with (at_builtin; refine wpList_app rfl _ _ _ rfl ETs _ n _ rfl HO3.out _ 1 _ rfl HR3.out HONE.out (by unfold maxLen; omega) (by omega) ?_; intro ad' cap' w5 ho5 hg5 hf5; have K5 : Hid (Kept (fun k => H ≤ k) w w5) := Lw.hid ((((Kept.refl (fun k => H ≤ k) w).alloc _)).grown hg5 (fun i hi hl => H3.out i hi)); have HA5 := Lw.hid (K5.out.heap H1.out (by omega)); have HV5 := Lw.hid (K5.out.heap HV.out (by omega)); have qa5 := heap_cell HA5.out 0; have fa5 := heap_free HA5.out 0; have HL5 := Lw.hid (HL.out.kept K5.out (fun b hb e => by have := (hm b hb).2; omega)); have qv5 := ((Kept.refl (fun k => k = ak) w5).set ak 0 (fun _ => rfl) (.slice ad' (n + 1) cap')).cell (heap_cell HV5.out 0) (fun e => hav e.symm); have hrun := (HL5.out.kept ((Kept.refl (fun k => k = ak) w5).set ak 0 (fun _ => rfl) (.slice ad' (n + 1) cap')) (fun b hb e => (hm b hb).1 e)).runs _ (fun _ _ => rfl) s trivial (by unfold maxLen; omega); have HO5 := Lw.hid ho5; have HF5 : Hid (∀ k, blk (.slice ad' (n + 1) cap') k → H ≤ k) := Lw.hid (getf HHW.out H3.out hf5); have hz5 : w.heap.size ≤ w5.heap.size := K5.out.size; unfold textV at hrun; clear ho5 hg5 hf5 HV5 HL5 q1 qv)
  go_ret
  have hlen : (l ++ [s]).length = n + 1 := by rw [List.length_append, HN.out]; rfl
  refine ⟨rfl, ⟨⟨ad', cap', ?_, ?_, ?_⟩⟩, (K5.out.mono (fun i _ h => .inr h)).set ak 0 (fun _ => .inl rfl) _⟩
  · rw [hlen]; exact heap_set HA5.out 0 _
  · rw [hlen, List.map_append]
    exact own_setCell HO5.out (fun hb => by have := HF5.out _ hb; simp only at this; omega) _
  · rw [hlen]; exact HF5.out
end Go.Proofs.YtoedopgjonhemaaGreatDoor
