/- Of the proof of TopBooks: Open, Writer. -/
import Derived.Test.YtgegjjnfcnalfaaGreatDoorG00
import Derived.ProofKit
import Derived.OpenShut
import Derived.Test.YtgegjjnfcnalfaaGreatDoorChecked
import Derived.Laws.BitsAllLaws
namespace Go.Lw
open Go Go.RowKit Go.WideShapes Go.ChangeShapes
theorem addr_add (a : Addr) (h : a.spot = none) (i : Nat) : a.add i = ⟨a.block, a.off + i, none⟩ := by
  cases a with
  | mk b o s => subst h; unfold Addr.add; split <;> simp_all
theorem open_slice_at {H : Type} {enc : TypeId × Value → H} {P : Program} {W : World} {b0 : Nat} {sp : Nat → Bool} {held : Bool} {t e : TypeId} {v : Value} {d : DataW H} {ps : List MemPlace} {size : Nat}
    {α : Type} (toCells : α → List Value) (Good : α → Prop)
    (ht : P.underlying t = some (.slice e)) (hce : P.cellsOf e = size) (hpos : 0 < size)
    (helem : ∀ fuel cs x, DataW.trod enc P W b0 sp held fuel e cs = some x → ∃ y, cs = toCells y ∧ (toCells y).length = size ∧ Good y)
    (hv : ∃ a len cap, v = .slice a len cap) (h : DataW.Trod enc P W b0 sp held t v d ps) : ∃ ys : List α, Rd W size v ys.length (ys.flatMap toCells) ∧ ∀ y ∈ ys, (toCells y).length = size ∧ Good y := by
  obtain ⟨a, len, cap, rfl⟩ := hv
  obtain ⟨fuel, hf⟩ := h
  rcases DataW.trod_slice ht hf with ⟨hcs, _⟩ | ⟨x, l, c, elems, rest, n, _, hcs, _, hb, hl, hm, hlen, hel, _, _⟩
  · simp [Value.cells] at hcs
    obtain ⟨rfl, rfl, rfl⟩ := hcs
    exact ⟨[], Rd.nil W size, by simp⟩
  · simp [Value.cells] at hcs
    obtain ⟨rfl, rfl, rfl⟩ := hcs
    have each : ∀ i, i < len → ∃ y, (toCells y).length = size ∧ Good y ∧ ∀ j u, (toCells y)[j]? = some u → W.cell? ((x.add (i * size)).add j) = some u := by
      intro i hi
      have h1 := hel i hi
      rw [List.getElem?_eq_getElem (by omega : i < elems.length), hce] at h1
      obtain ⟨cs, hcs, htr⟩ := Option.bind_eq_some_iff.1 h1
      obtain ⟨y, rfl, hy1, hy2⟩ := helem _ _ _ htr
      refine ⟨y, hy1, hy2, fun j u hj => ?_⟩
      have := World.cells?_some hcs
      have hjl : j < size := by
        rcases Nat.lt_or_ge j size with h | h
        · exact h
        · rw [List.getElem?_eq_none (by omega)] at hj; cases hj
      rw [this.2.2 j hjl]; exact hj
    have build : ∀ k, k ≤ len → ∃ ys : List α, ys.length = k ∧ (∀ y ∈ ys, (toCells y).length = size ∧ Good y) ∧ ∀ i y, ys[i]? = some y → ∀ j u, (toCells y)[j]? = some u → W.cell? ((x.add (i * size)).add j) = some u := by
      intro k
      induction k with
      | zero => exact fun _ => ⟨[], rfl, by simp, by simp⟩
      | succ k ih =>
        intro hk
        obtain ⟨ys, h1, h2, h3⟩ := ih (by omega)
        obtain ⟨y, hy1, hy2, hy3⟩ := each k (by omega)
        refine ⟨ys ++ [y], by simp [h1], fun z hz => ?_, fun i z hz => ?_⟩
        · rcases List.mem_append.1 hz with h | h
          · exact h2 z h
          · obtain rfl := List.mem_singleton.1 h
            exact ⟨hy1, hy2⟩
        · rw [List.getElem?_append] at hz
          split at hz
          · exact h3 i z hz
          · have : i = k := by
              rcases Nat.lt_or_ge (i - ys.length) 1 with h | h
              · omega
              · rw [List.getElem?_eq_none (by simpa using h)] at hz; cases hz
            subst this
            simp [h1] at hz
            subst hz
            exact hy3
    obtain ⟨ys, rfl, hys, hcells⟩ := build len (Nat.le_refl _)
    refine ⟨ys, ⟨?_, _, cap, rfl, hl, hm, ?_⟩, hys⟩
    · have key : ∀ zs : List α, (∀ y ∈ zs, (toCells y).length = size) → (zs.flatMap toCells).length = zs.length * size := by
        intro zs
        induction zs with
        | nil => intro _; simp
        | cons y zs ih =>
          intro hz
          rw [List.flatMap_cons, List.length_append, ih (fun z hz' => hz z (List.mem_cons_of_mem _ hz')), hz y (List.mem_cons_self ..), List.length_cons, Nat.succ_mul, Nat.add_comm]
      exact key ys fun y hy => (hys y hy).1
    · intro q u hq
      have key : ∀ (zs : List α), (∀ y ∈ zs, (toCells y).length = size) → ∀ q u, (zs.flatMap toCells)[q]? = some u → ∃ y, zs[q / size]? = some y ∧ (toCells y)[q % size]? = some u := by
        intro zs
        induction zs with
        | nil => intro _ q u h; simp at h
        | cons z zs ih =>
          intro hz q u h
          have hzl := hz z (List.mem_cons_self ..)
          rw [List.flatMap_cons, List.getElem?_append] at h
          split at h
          · rename_i hlt
            refine ⟨z, ?_, ?_⟩
            · rw [Nat.div_eq_of_lt (by omega)]; rfl
            · rw [Nat.mod_eq_of_lt (by omega)]; exact h
          · rename_i hge
            rw [hzl] at hge h
            obtain ⟨y, hy1, hy2⟩ := ih (fun y hy => hz y (List.mem_cons_of_mem _ hy)) _ _ h
            refine ⟨y, ?_, ?_⟩
            · have : q / size = (q - size) / size + 1 := by
                rw [← Nat.add_div_right _ hpos]; congr 1; omega
              rw [this]; exact hy1
            · rw [Nat.mod_eq_sub_mod (by omega)]; exact hy2
      obtain ⟨y, hy1, hy2⟩ := key ys (fun y hy => (hys y hy).1) q u hq
      have hc := hcells _ y hy1 _ u hy2
      have hlt : q / size < ys.length := by
        rcases Nat.lt_or_ge (q / size) ys.length with h | h
        · exact h
        · rw [List.getElem?_eq_none h] at hy1; cases hy1
      have hs : x.spot = none := by
        have h0 : 0 < ys.length := Nat.lt_of_le_of_lt (Nat.zero_le _) hlt
        obtain ⟨y0, hy0⟩ : ∃ y0, ys[0]? = some y0 := ⟨_, List.getElem?_eq_getElem h0⟩
        have hl0 := (hys y0 (List.mem_of_getElem? hy0)).1
        have hc0 := hcells 0 y0 hy0 0 _ (List.getElem?_eq_getElem (by omega))
        have e0 : (x.add (0 * size)).add 0 = x := by rw [Nat.zero_mul]; unfold Addr.add; simp
        rw [e0] at hc0
        exact World.cell?_spot hc0
      refine ⟨x.block, x.off, by cases x; simp_all, ?_⟩
      have e1 : (x.add (q / size * size)).add (q % size) = ⟨x.block, x.off + q, none⟩ := by
        rw [addr_add x hs, addr_add _ rfl]
        have := Nat.div_add_mod' q size
        simp only [Addr.mk.injEq, true_and, and_true]
        omega
      rw [e1] at hc
      exact hc
theorem open_slice_of {H : Type} {enc : TypeId × Value → H} {P : Program} {W : World} {b0 : Nat} {sp : Nat → Bool} {held : Bool} {t e : TypeId} {v : Value} {d : DataW H} {ps : List MemPlace} {base size : Nat} {r : Reach}
    {α : Type} (toCells : α → List Value) (Good : α → Prop)
    (ht : P.underlying t = some (.slice e)) (hce : P.cellsOf e = size) (hpos : 0 < size)
    (helem : ∀ fuel cs x, DataW.trod enc P W b0 sp held fuel e cs = some x → ∃ y, cs = toCells y ∧ (toCells y).length = size ∧ Good y)
    (hv : Value.okWide P W r base t v) (h : DataW.Trod enc P W b0 sp held t v d ps) : ∃ ys : List α, Rd W size v ys.length (ys.flatMap toCells) ∧ ∀ y ∈ ys, (toCells y).length = size ∧ Good y :=
  open_slice_at toCells Good ht hce hpos helem (okWide_slice ht hv) h
theorem trod_field {H : Type} {enc : TypeId × Value → H} {P : Program} {W : World} {b0 : Nat} {sp : Nat → Bool} {held : Bool} {fuel : Nat} {t : TypeId} {cs : List Value} {x : DataW H × List MemPlace} {fs : Array Field}
    (ht : P.underlying t = some (.struct fs)) (h : DataW.trod enc P W b0 sp held fuel t cs = some x) (i : Nat) (ty off : Nat) (c : Nat) (hf : (fs[i]?).map (fun f => (f.type, f.offset)) = some (ty, off)) (hc : P.cellsOf ty = c) :
    ∃ n y, DataW.trod enc P W b0 sp held n ty ((cs.drop off).take c) = some y := by
  obtain ⟨xs, n, _, _, hl, hx, hfs⟩ := DataW.trod_struct ht h
  cases hfi : fs[i]? with
  | none => rw [hfi] at hf; cases hf
  | some f =>
    rw [hfi] at hf
    cases hf
    have := hfs i f hfi
    have hlt : i < fs.size := by
      rcases Nat.lt_or_ge i fs.size with h | h
      · exact h
      · rw [Array.getElem?_eq_none h] at hfi; cases hfi
    rw [List.getElem?_eq_getElem (by omega), hc] at this
    exact ⟨n, _, this⟩
theorem trod_struct_len {H : Type} {enc : TypeId × Value → H} {P : Program} {W : World} {b0 : Nat} {sp : Nat → Bool} {held : Bool} {fuel : Nat} {t : TypeId} {cs : List Value} {x : DataW H × List MemPlace} {fs : Array Field}
    (ht : P.underlying t = some (.struct fs)) (h : DataW.trod enc P W b0 sp held fuel t cs = some x) : cs.length = P.cellsOf t := by
  obtain ⟨xs, n, _, _, hl, _⟩ := DataW.trod_struct ht h
  exact hl
section
variable {H : Type} {enc : TypeId × Value → H} {P : Program} {W : World} {b0 : Nat} {sp : Nat → Bool} {held : Bool} {t : TypeId} {v : Value} {d : DataW H} {ps : List MemPlace} {base : Nat} {r : Reach}
end
end Go.Lw
namespace Go.Proofs.YtgegjjnfcnalfaaGreatDoor
open Go Go.RowKit Go.Lw
set_option maxRecDepth 100000
theorem EB : ElemT Tryz.prog 36 5 1 1 := ElemT.of (z := .int .u8 0) Tryz.underlying36 (by kernel_rfl) rfl (by decide)
def WriterAt (w : World) (bw : Nat) (v : Value) (l : List UInt8) (e : Int) : Prop :=
  (∃ T, w.heap[bw]? = some (.cells #[v, .int .i64 e] T (0, 0))) ∧ w.ownsRow 0 5 1 v l.length (l.map bv) ∧ ¬ blk v bw
def WrPost (w w' : World) (bw : Nat) (v : Value) (l : List UInt8) (e : Int) : Prop :=
  ∃ v', WriterAt w' bw v' l e ∧ Kept (fun k => k = bw ∨ blk v k) w w' ∧ Fresh w v v'
theorem WrPost.trans {a b c : World} {bw : Nat} {v : Value} {l : List UInt8} {e : Int} {v1 : Value} (h1 : Kept (fun k => k = bw ∨ blk v k) a b) (h2 : Fresh a v v1) (h : WrPost b c bw v1 l e) : WrPost a c bw v l e := by
  obtain ⟨v', k1, k2, k3⟩ := h
  refine ⟨v', k1, h1.trans k2 ?_, ?_⟩
  · rintro i hi (rfl | hb)
    · exact .inl rfl
    · rcases h2 i hb with h | h
      · exact .inr h
      · omega
  · intro k hk
    rcases k3 k hk with h | h
    · exact h2 k h
    · exact .inr (Nat.le_trans h1.size h)
theorem byte_post {w w1 : World} {bw : Nat} {v : Value} {l m : List UInt8} {T : TypeId} {ad : Option Addr} {cap : Nat} (hd : ¬ blk v bw) (hb : bw < w.heap.size)
    (hh : w1.heap[bw]? = some (.cells #[v, .int .i64 0] T (0, 0))) (ho : w1.ownsRow 0 5 1 (.slice ad (l.length + m.length) cap) (l.length + m.length) (l.map bv ++ m.map bv))
    (hg : w.grownBy w1 v.ownBlock) (hf : Fresh w v (.slice ad (l.length + m.length) cap)) :
    WrPost w (w1.setCell ⟨bw, 0, none⟩ (.slice ad (l.length + m.length) cap)) bw v (l ++ m) 0 := by
  have hn : ¬ blk (.slice ad (l.length + m.length) cap) bw := fun e => by
    rcases hf bw e with h | h
    · exact hd h
    · omega
  refine ⟨.slice ad (l.length + m.length) cap, ⟨⟨T, ?_⟩, ?_, hn⟩, ?_, hf⟩
  · exact heap_set hh 0 _
  · rw [List.length_append, List.map_append]
    exact own_setCell ho hn _
  · exact ((Kept.refl _ w).grown hg (fun k hk _ => .inr hk)).setCell (fun _ => .inl rfl) _
set_option maxHeartbeats 400000 in
theorem byte_any (w : World) (bw : Nat) (v : Value) (l : List UInt8) (src : Value) (m : List UInt8) (h : WriterAt w bw v l 0) (hs : RdB w src m) (hlen : l.length + m.length ≤ 70368744177664) :
    Calls Tryz.prog 39 #[.pointer (some ⟨bw, 0, none⟩), src] w fun e w' => e = .returned (.pointer (some ⟨bw, 0, none⟩)) ∧ WrPost w w' bw v (l ++ m) 0 := by
  obtain ⟨⟨T, hh⟩, ho, hd⟩ := h
  have c0 : w.cell? ⟨bw, 0, none⟩ = some v := heap_cell hh 0
  have c1 : w.cell? ⟨bw, 1, none⟩ = some (.int .i64 0) := heap_cell hh 1
  have HO := Lw.hid ho
  have HH := Lw.hid hh
  clear ho hh
  go_enter Tryz.func39, Tryz.ntmps39
  go_wp2_with (at_builtin; refine wpList_app rfl _ _ _ rfl EB v l.length _ rfl HO.out src m.length _ rfl hs (bytes_oneCell m) (by unfold maxLen; omega) (by omega) ?_; intro ad cap w1 ho' hg hf; have HO' := Lw.hid ho'; have HF := Lw.hid hf; clear ho' hf; have hh1 := grown_heap hg HH.out (fun e => hd e); have d0 := heap_cell hh1 0; have d1 := heap_free hh1 0; clear c0 c1; simp at d0)
  go_ret
  exact ⟨rfl, byte_post hd (heap_lt HH.out) hh1 HO'.out hg HF.out⟩
theorem WriterAt.alloc {w : World} {bw : Nat} {v : Value} {l : List UInt8} {e : Int} (h : WriterAt w bw v l e) (o : Obj) : WriterAt (w.alloc o) bw v l e := by
  obtain ⟨⟨T, hh⟩, ho, hd⟩ := h
  exact ⟨⟨T, (Below.heap_alloc _ _ _ (heap_lt hh)).trans hh⟩, own_of_heap ho fun g hg => Below.heap_alloc _ _ _ (own_lt ho g hg), hd⟩
theorem WrPost.of_alloc {w w' : World} {o : Obj} {bw : Nat} {v : Value} {l : List UInt8} {e : Int} (h : WrPost (w.alloc o) w' bw v l e) : WrPost w w' bw v l e := by
  obtain ⟨v', k1, k2, k3⟩ := h
  refine ⟨v', k1, ((Kept.refl _ w).alloc o).trans k2 (fun _ _ h => h), fun k hk => ?_⟩
  rcases k3 k hk with h | h
  · exact .inl h
  · exact .inr (by simp at h; omega)
theorem WriterAt.kept {S : Nat → Prop} {w w' : World} (hk : Kept S w w') {bw : Nat} {v : Value} {l : List UInt8} {e : Int} (h : WriterAt w bw v l e) (h1 : ¬ S bw) (h2 : ∀ g, blk v g → ¬ S g) : WriterAt w' bw v l e := by
  obtain ⟨⟨T, hh⟩, ho, hd⟩ := h
  exact ⟨⟨T, hk.heap hh h1⟩, own_kept hk ho h2, hd⟩
theorem WrPost.of_kept {w w1 w' : World} (hk : Kept (fun _ => False) w w1) {bw : Nat} {v : Value} {l : List UInt8} {e : Int} (h : WrPost w1 w' bw v l e) : WrPost w w' bw v l e := by
  obtain ⟨v', k1, k2, k3⟩ := h
  refine ⟨v', k1, (hk.mono (fun _ _ h => h.elim)).trans k2 (fun _ _ h => h), fun k hk' => ?_⟩
  rcases k3 k hk' with h | h
  · exact .inl h
  · exact .inr (Nat.le_trans hk.size h)
set_option maxHeartbeats 400000 in
theorem two_any (w : World) (bw : Nat) (v : Value) (l : List UInt8) (x : Int) (n : Nat) (hx : x = n) (hn : n < 65536) (h : WriterAt w bw v l 0) (hlen : l.length + 2 ≤ 70368744177664) :
    Calls Tryz.prog 83 #[.pointer (some ⟨bw, 0, none⟩), .int .u16 x] w fun e w' => e = .returned (.pointer (some ⟨bw, 0, none⟩)) ∧ WrPost w w' bw v (l ++ be 2 n) 0 := by
  subst hx
  have H := Lw.hid h
  clear h
  go_enter Tryz.func83, Tryz.ntmps83
  go_wp2_with fail
  refine (byte_any _ bw v l _ (be 2 n) (H.out.alloc _) ?_ ?_).mono ?_
  · have e : #[Value.int .u8 ((n : Int) / 256), Value.int .u8 ((n : Int) % 256)] = ((be 2 n).map bv).toArray := by
      simp only [be, List.nil_append, List.cons_append, List.map_cons, List.map_nil, bv_lo]
      rw [show n / 256 % 256 = n / 256 by omega]; rfl
    rw [e]
    exact RdB.lit w (be 2 n) _ 2 (be_length 2 n).symm (by unfold maxLen; omega)
  · rw [be_length]; exact hlen
  · rintro e w' ⟨rfl, hp⟩
    go_wp2_with fail
    go_ret
    exact ⟨rfl, hp.of_alloc⟩
theorem two_then {w w' : World} {bw : Nat} {v : Value} {l : List UInt8} (h : WrPost w w' bw v l 0) : ∃ v1, WriterAt w' bw v1 l 0 ∧ (∀ l' e w'', WrPost w' w'' bw v1 l' e → WrPost w w'' bw v l' e) := by
  obtain ⟨v1, h1, h2, h3⟩ := h
  exact ⟨v1, h1, fun l' e w'' hp => WrPost.trans h2 h3 hp⟩
set_option maxHeartbeats 400000 in
theorem four_any (w : World) (bw : Nat) (v : Value) (l : List UInt8) (x : Int) (n : Nat) (hx : x = n) (hn : n < 4294967296) (h : WriterAt w bw v l 0) (hlen : l.length + 4 ≤ 70368744177664) :
    Calls Tryz.prog 98 #[.pointer (some ⟨bw, 0, none⟩), .int .u32 x] w fun e w' => e = .returned (.pointer (some ⟨bw, 0, none⟩)) ∧ WrPost w w' bw v (l ++ be 4 n) 0 := by
  subst hx
  have H := Lw.hid h
  clear h
  go_enter Tryz.func98, Tryz.ntmps98
  go_wp2_with fail
  refine (two_any _ bw v l _ (n / 65536) (by omega) (by omega) H.out (by omega)).mono ?_
  rintro e w1 ⟨rfl, hp1⟩
  obtain ⟨v1, h1, k1⟩ := two_then hp1
  have H1 := Lw.hid h1; clear h1 hp1
  go_wp2_with fail
  refine (two_any _ bw v1 _ _ (n % 65536) (by first | omega | (rw [IntKind.wrap_u16]; omega)) (by omega) H1.out (by simp [be_length]; omega)).mono ?_
  rintro e w2 ⟨rfl, hp2⟩
  have hp := k1 _ _ _ hp2
  clear k1 hp2
  rw [show n % 65536 = n % 256 ^ 2 from rfl, be_mod, List.append_assoc, show n / 65536 = n / 256 ^ 2 from rfl, ← be_add 2 2] at hp
  have HP := Lw.hid hp; clear hp
  go_wp2_with fail
  go_ret
  exact ⟨rfl, HP.out⟩
set_option maxHeartbeats 400000 in
theorem text_any (w : World) (bw : Nat) (v : Value) (l : List UInt8) (s : ByteArray) (hn : s.size ≤ 65535) (h : WriterAt w bw v l 0) (hlen : l.length + 70000 ≤ 70368744177664) :
    Calls Tryz.prog 41 #[.pointer (some ⟨bw, 0, none⟩), .string s] w fun e w' => e = .returned (.pointer (some ⟨bw, 0, none⟩)) ∧ WrPost w w' bw v (l ++ (be 2 s.size ++ s.data.toList)) 0 := by
  have H := Lw.hid h
  clear h
  go_enter Tryz.func41, Tryz.ntmps41
  go_wp2_with fail
  refine (byte_any _ bw v l _ [] H.out (RdB.nil _) (by simp; omega)).mono ?_
  rintro e w1 ⟨rfl, hp1⟩
  obtain ⟨v1, h1, k1⟩ := two_then hp1
  have K1 := Lw.hid k1
  have H1 := Lw.hid h1; clear h1 hp1 k1
  go_wp2_with fail
  refine (two_any _ bw v1 _ _ s.size (by first | omega | (rw [IntKind.wrap_u16]; omega)) (by omega) H1.out (by simp; omega)).mono ?_
  rintro e w2 ⟨rfl, hp2⟩
  obtain ⟨v2, h2, k2⟩ := two_then (K1.out _ _ _ hp2)
  have K2 := Lw.hid k2
  have H2 := Lw.hid h2; clear h2 hp2 K1 k2
  go_wp2_with (refine wpList_bytes rfl _ _ _ rfl s rfl Tryz.underlying9 Tryz.underlying36 Tryz.underlying5 (by unfold maxLen; omega) ?_; intro g cap w3 hg hrow hrd hk3 hz)
  have h3 := WriterAt.kept hk3 H2.out (fun h => h) (fun _ _ h => h)
  refine (byte_any _ bw v2 _ _ s.data.toList h3 hrd (by simp [be_length]; omega)).mono ?_
  rintro e w4 ⟨rfl, hp4⟩
  have hp := K2.out _ _ _ (hp4.of_kept hk3)
  simp only [List.append_nil, List.append_assoc] at hp
  have HP := Lw.hid hp; clear hp hp4 K2 hk3 hz hrow hrd h3
  go_wp2_with fail
  go_ret
  exact ⟨rfl, HP.out⟩
set_option maxHeartbeats 400000 in
theorem clone_any (w : World) (src : Value) (l : List UInt8) (hs : RdB w src l) (hlen : l.length ≤ 70368744177664) :
    Calls Tryz.prog 33 #[src] w fun e w' => ∃ v, e = .returned v ∧ w'.ownsRow 0 5 1 v l.length (l.map bv) ∧ Kept (fun _ => False) w w' ∧ (∀ k, blk v k → w.heap.size ≤ k) := by
  obtain ⟨ad, cap, rfl, h1, h2, hc⟩ := hs.open
  cases ad with
  | none =>
    obtain rfl : l = [] := by
      cases l with
      | nil => rfl
      | cons c l => obtain ⟨g, off, e, _⟩ := hc 0 (by simp); cases e
    have heq := fun w => Lib.run_eql_slice_nil (P := Tryz.prog) w 36 5 none 0 cap 0 0 Tryz.underlying36
    go_enter Tryz.func33, Tryz.ntmps33
    go_wp2_with fail
    go_ret
    exact ⟨_, rfl, World.ownsRow_nil w 0 _ 1, Kept.refl _ _, fun k hk => by cases hk⟩
  | some ad =>
    have HS := Lw.hid hs
    clear hc hs
    have heq := fun w => Lib.run_eql_slice_nil (P := Tryz.prog) w 36 5 (some ad) l.length cap 0 0 Tryz.underlying36
    have ho : (w.alloc (.cells #[] 5)).ownsRow 0 5 1 (.slice (some ⟨w.heap.size, 0, none⟩) 0 0) 0 [] := World.ownsRow_lit w #[] 0 (Nat.zero_le _) (by unfold maxLen; omega) rfl
    go_enter Tryz.func33, Tryz.ntmps33
    go_wp2_with (at_builtin; refine wpList_app rfl _ _ _ rfl EB _ 0 _ rfl ho _ l.length _ rfl (Rd.alloc HS.out _) (bytes_oneCell l) (by unfold maxLen; omega) (by omega) ?_; intro ad' cap' w1 ho' hg hf)
    go_ret
    rw [Nat.zero_add] at ho' hf
    refine ⟨.slice ad' l.length cap', rfl, ho', ((Kept.refl _ w).alloc _).grown hg (fun k hk hl => ?_), fun k hk => ?_⟩
    · have e : k = w.heap.size := blk_some hk
      omega
    · rcases hf k hk with h | h
      · have e : k = w.heap.size := blk_some h
        omega
      · simp at h; omega
def DnPost (w w' : World) (bw : Nat) (v r : Value) (l : List UInt8) : Prop :=
  ∃ v', WriterAt w' bw v' l 0 ∧ Kept (fun k => k = bw ∨ blk v k) w w' ∧ Fresh w v v' ∧ w'.ownsRow 0 5 1 r l.length (l.map bv) ∧ ∀ k, blk r k → w.heap.size ≤ k ∧ ¬ blk v' k ∧ k ≠ bw
set_option maxHeartbeats 400000 in
theorem done_any (w : World) (bw : Nat) (v : Value) (l : List UInt8) (h : WriterAt w bw v l 0) (hlen : l.length ≤ 70368744177664) :
    Calls Tryz.prog 43 #[.pointer (some ⟨bw, 0, none⟩)] w fun e w' => ∃ r, e = .returned (.tuple #[r, .int .i64 0]) ∧ DnPost w w' bw v r l := by
  have H := Lw.hid h
  clear h
  go_enter Tryz.func43, Tryz.ntmps43
  go_wp2_with fail
  refine (byte_any _ bw v l _ [] H.out (RdB.nil _) (by simp; omega)).mono ?_
  rintro e w1 ⟨rfl, v1, h1, k1, f1⟩
  rw [List.append_nil] at h1
  have H1 := Lw.hid h1
  obtain ⟨⟨T, hh⟩, ho, hd⟩ := h1
  have c0 : w1.cell? ⟨bw, 0, none⟩ = some v1 := heap_cell hh 0
  have c1 : w1.cell? ⟨bw, 1, none⟩ = some (.int .i64 0) := heap_cell hh 1
  have HH := Lw.hid hh
  have HO := Lw.hid ho
  clear hh ho
  go_wp2_with fail
  refine (clone_any _ _ l (Rd.own HO.out) hlen).mono ?_
  rintro e w2 ⟨r, rfl, hr, k2, f2⟩
  go_wp2_with fail
  go_ret2
  refine ⟨r, rfl, v1, WriterAt.kept k2 H1.out (fun h => h) (fun _ _ h => h), k1.trans k2 (fun _ _ h => h.elim), f1, hr, fun k hk => ⟨?_, fun e => ?_, fun e => ?_⟩⟩
  · exact Nat.le_trans k1.size (f2 k hk)
  · have := own_lt HO.out k e
    have := f2 k hk
    omega
  · have := heap_lt HH.out
    have := f2 k hk
    omega
end Go.Proofs.YtgegjjnfcnalfaaGreatDoor
