/- Chapter 13: a form's bytes; the document's. -/
import Derived.Test.YtbmfnepbdfnlaaaRBytes
import Derived.Test.YtbmfnepbdfnlaaaNum
namespace Go.Proofs.Ytbmfnepbdfnlaaa
open Go Go.RowKit Go.Lw
set_option maxRecDepth 100000
set_option linter.unusedVariables false
set_option linter.unusedSimpArgs false
/-- A row of bytes of the call's own, beside the argument's box and another one. -/
structure RD (w : World) (nx m cap : Nat) (ad : Option Addr) (hb : Nat) (ob : Obj) (v : Value) (L : List UInt8) (wr : World) : Prop where
  a : RfAt w wr nx m cap ad
  o : RfOut w wr 5 1 v L.length (L.map bv)
  x : wr.heap[hb]? = some ob
  d : ¬ blk v hb
theorem RD.app {w wr wx w5 : World} {nx m cap n' : Nat} {ad : Option Addr} {hb : Nat} {ob : Obj} {v v' : Value} {L M : List UInt8} (h : RD w nx m cap ad hb ob v L wr) (hk : Kept (fun _ => False) wr wx)
    (ho' : w5.ownsRow 0 5 1 v' n' (L.map bv ++ M.map bv)) (hn : n' = L.length + M.length) (hg : wx.grownBy w5 v.ownBlock) (hf : Fresh wx v v') : RD w nx m cap ad hb ob v' (L ++ M) w5 := by
  subst hn
  have hb' := h.o.2
  have hsz := hk.size
  have h1 := (Array.getElem?_eq_some_iff.1 h.a.box).1
  have h2 := (Array.getElem?_eq_some_iff.1 h.x).1
  refine ⟨⟨(h.a.k.trans hk (fun _ _ h => h)).grown hg (fun k e hlt => absurd (hb' k e) (by omega)), grown_heap hg (hk.heap h.a.box (fun h => h)) (fun e => by have := hb' _ e; omega)⟩, ⟨by rw [List.length_append, List.map_append]; exact ho', fun k hk' => ?_⟩, grown_heap hg (hk.heap h.x (fun h => h)) (fun e => h.d e), fun e => ?_⟩
  · rcases hf k hk' with h3 | h3
    · exact hb' k h3
    · omega
  · rcases hf _ e with h3 | h3
    · exact h.d h3
    · omega
theorem RD.kept {w wr wx : World} {nx m cap : Nat} {ad : Option Addr} {hb : Nat} {ob : Obj} {v : Value} {L : List UInt8} (h : RD w nx m cap ad hb ob v L wr) (hk : Kept (fun _ => False) wr wx) : RD w nx m cap ad hb ob v L wx :=
  ⟨h.a.kept hk, h.o.kept hk, hk.heap h.x (fun h => h), h.d⟩
theorem RD.own {w wr wx : World} {nx m cap : Nat} {ad : Option Addr} {hb : Nat} {ob : Obj} {v : Value} {L : List UInt8} (h : RD w nx m cap ad hb ob v L wr) (hk : Kept (fun _ => False) wr wx) : wx.ownsRow 0 5 1 v L.length (L.map bv) := own_kept hk h.o.1 (fun _ _ h => h)
theorem RD.rebox {w wr wx : World} {nx m cap : Nat} {ad : Option Addr} {hb : Nat} {ob : Obj} {v : Value} {L : List UInt8} (h : RD w nx m cap ad hb ob v L wr) (c : Array Value) (T : TypeId) : RD w nx m cap ad wr.heap.size (.cells c T (0, 0)) v L (wr.alloc (.cells c T)) :=
  ⟨h.a.kept ((Kept.refl _ _).alloc _), h.o.kept ((Kept.refl _ _).alloc _), heap_at _ _ rfl, fun e => by have := own_lt h.o.1 _ e; omega⟩
theorem bt_rd {w wr : World} {nx m cap : Nat} {ad : Option Addr} {hb : Nat} {ob : Obj} {v : Value} {L : List UInt8} (h : RD w nx m cap ad hb ob v L wr) : BtPost w L 0 (.returned (.tuple #[v, .int .i64 0])) wr :=
  ⟨v, rfl, RdB.of_own h.o.1 rfl, ⟨fun k hk => ⟨Nat.le_of_lt (h.o.2 k hk), own_lt h.o.1 k hk⟩, h.o.1⟩, h.a.k⟩
set_option maxHeartbeats 8000000 in
theorem rbytes_any (w : World) (nx : Nat) (v : Value) (l : List Hv) (hl : RdH w v l) (hnx : nx < 4294967296) (hl9 : l.length ≤ 1000000) :
    Calls Try.prog 28 #[askV nx v] w (BtPost w (bytesF nx l).1 (bytesF nx l).2) := by
  obtain ⟨ad, cap, rfl, h1, h2, _⟩ := hl.shape
  have HL := Lw.hid hl
  obtain ⟨m, hm⟩ : ∃ m, l.length = m := ⟨_, rfl⟩
  have HM := Lw.hid hm
  obtain ⟨r1, hr1⟩ : ∃ r1, (bytesF nx l).1 = r1 := ⟨_, rfl⟩
  obtain ⟨r2, hr2⟩ : ∃ r2, (bytesF nx l).2 = r2 := ⟨_, rfl⟩
  rw [hr1, hr2]
  have HB0 : Hid (mayF nx l = false → r1 = [] ∧ r2 = 1) := Lw.hid (fun h => by rw [← hr1, ← hr2]; unfold bytesF; rw [if_neg (by rw [h]; simp)]; exact ⟨rfl, rfl⟩)
  have HB1 : Hid (mayF nx l = true → r1 = askB nx l ∧ r2 = 0 ∧ m ≤ 16) := Lw.hid (fun h => ⟨by rw [← hr1]; unfold bytesF; rw [if_pos h], by rw [← hr2]; unfold bytesF; rw [if_pos h], by rw [← hm]; exact (mayF_parts h).2.2⟩)
  rw [hm] at h1 hl9 HL ⊢
  have HS := Lw.hid (RfAt.start w nx m cap ad)
  clear hl hm hr1 hr2
  go_enter Try.func28, Try.ntmps28
  go_wp2_with fail
  refine (rmay_any _ _ l (HS.out.rd HL.out) nx hnx (by rw [HM.out]; exact hl9)).mono ?_
  rintro x w1 ⟨rfl, k1⟩
  have HS1 := Lw.hid (HS.out.kept k1)
  obtain ⟨b0, b1⟩ := HS1.out.cells
  clear k1 HS
  cases hmay : mayF nx l with
  | false =>
    obtain ⟨hx1, hx2⟩ := HB0.out hmay
    have HX1 := Lw.hid hx1; have HX2 := Lw.hid hx2
    clear hmay hx1 hx2
    go_wp2_with fail
    go_ret2
    exact ⟨.slice none 0 0, by rw [HX2.out]; rfl, by rw [HX1.out]; exact RdB.nil _, ⟨fun k hk => (blk_none hk).elim, by rw [HX1.out]; exact World.ownsRow_nil _ _ _ _⟩, HS1.out.k⟩
  | true =>
    obtain ⟨hx1, hx2, hm16⟩ := HB1.out hmay
    have HX1 := Lw.hid hx1; have HX2 := Lw.hid hx2
    clear hmay hx1 hx2
    have hwr : IntKind.u8.wrap (m : Int) = (m : Int) := by simp [IntKind.wrap, IntKind.bits, IntKind.signed]; omega
    go_wp2_with fail
    refine (number_any w1 nx 4 (by omega) (by decide)).mono ?_
    rintro e w2 ⟨v2, rfl, ho2, k2, hf2⟩
    obtain ⟨ad2, cap2, rfl, hc1, hc2, _⟩ := own_slice ho2
    have HR2 : Hid (RD w nx m cap ad w.heap.size (.cells #[u32v nx, .slice ad m cap] 44 (0, 0)) (.slice ad2 4 cap2) (be 4 nx) w2) := Lw.hid
      ⟨HS1.out.kept k2, ⟨by rw [be_length]; exact ho2, fun k hk => by have := hf2 k hk; have := (Array.getElem?_eq_some_iff.1 HS1.out.box).1; omega⟩, (HS1.out.kept k2).box, fun e => by have := hf2 _ e; have := (Array.getElem?_eq_some_iff.1 HS1.out.box).1; omega⟩
    clear ho2 k2 hf2 b0 b1
    obtain ⟨b0, b1⟩ := HR2.out.a.cells
    unfold maxLen at hc2
    have e1 : Hid ((w2.alloc (.cells #[.int .u8 (m : Int)] 5)).ownsRow 0 5 1 (.slice ad2 4 cap2) 4 ((be 4 nx).map bv)) := Lw.hid (by have := HR2.out.own ((Kept.refl _ w2).alloc (.cells #[.int .u8 (m : Int)] 5)); rwa [be_length] at this)
    have e2 : Hid (Rd (w2.alloc (.cells #[.int .u8 (m : Int)] 5)) 1 (.slice (some ⟨w2.heap.size, 0, none⟩) 1 1) 1 ([lo m].map bv)) := Lw.hid (by
      rw [show Value.int .u8 (m : Int) = bv (lo m) by rw [bv_lo, Nat.mod_eq_of_lt (by omega)]]
      exact RdB.mark w2 [lo m] _ (0, 0) _ 1 rfl rfl (by decide))
    go_wp2_with (at_builtin; refine wpList_app rfl _ _ _ rfl EB _ 4 _ rfl e1.out _ 1 _ rfl e2.out (bytes_oneCell [lo m]) (by unfold maxLen; omega) (by omega) ?_; intro ad3 cap3 w3 ho hg hf; have HR3 := Lw.hid (HR2.out.app ((Kept.refl _ _).alloc _) ho (by rw [be_length]; rfl) hg hf); clear ho hg hf)
    have HR3' : Hid (RD w nx m cap ad w.heap.size (.cells #[u32v nx, .slice ad m cap] 44 (0, 0)) (.slice ad3 (4 + 1) cap3) (be 4 nx ++ lo m :: ((l.take 0).flatMap Hv.enc)) w3) := HR3
    clear HR3
    go_loopg [4, 5] m (fun gk c i wr => ∃ (k hb : Nat) (ob : Obj), gk = m - k ∧ k ≤ m ∧ i = .int .i64 k ∧ RD w nx m cap ad hb ob c (be 4 nx ++ lo m :: ((l.take k).flatMap Hv.enc)) wr)
    case atStart => exact ⟨0, _, _, rfl, Nat.zero_le _, rfl, HR3'.out⟩
    case round =>
      obtain ⟨k, hb0, ob0, rfl, hk, rfl, hr⟩ := hrel
      clear b0 b1
      obtain ⟨b0, b1⟩ := hr.a.cells
      obtain ⟨ad4, cap4, rfl, hd1, hd2, _⟩ := own_slice hr.o.1
      unfold maxLen at hd2
      have HR := Lw.hid hr
      clear hr
      by_cases hlt : k < m
      · have hlt' : k < l.length := by rw [HM.out]; exact hlt
        obtain ⟨g, off, rfl, q0, q1, q2, q3⟩ := hv_at (HR.out.a.rd HL.out) hlt'
        have HT := Lw.hid (take_snoc l k hlt')
        have hok := HL.out.2 l[k] (List.getElem_mem hlt')
        obtain ⟨t, ht⟩ : ∃ t, l[k] = t := ⟨_, rfl⟩
        rw [ht] at q0 q1 q2 q3 HT hok
        obtain ⟨tid, tout, ter, tst⟩ := t
        obtain ⟨o1, o2, o3⟩ := hok
        dsimp only at q0 q1 q2 q3 o1 o2 o3
        obtain ⟨LL, hLL⟩ : ∃ LL, be 4 nx ++ lo m :: ((l.take k).flatMap Hv.enc) = LL := ⟨_, rfl⟩
        have HLL : Hid (LL.length ≤ 1000) := Lw.hid (by rw [← hLL, List.length_append, List.length_cons, be_length, encs_len, List.length_take]; omega)
        have HLN : Hid (∀ b, stN tst = b → be 4 nx ++ lo m :: ((l.take (k + 1)).flatMap Hv.enc) = LL ++ be 4 tid ++ be 4 tout ++ be 4 ter ++ [lo b]) := Lw.hid (fun b hb => by rw [HT.out, ← hLL, ← hb]; simp [Hv.enc])
        rw [hLL] at HR hd1 ⊢
        obtain ⟨c0, hc0⟩ : ∃ c, LL.length = c := ⟨_, rfl⟩
        have HC0 := Lw.hid hc0
        have hc0' : c0 ≤ 1000 := by have := HLL.out; omega
        rw [hc0] at HR hd1 ⊢
        clear ht hLL HT hc0
        have HD0 : Hid (RD w nx m cap (some ⟨g, off, none⟩) wr.heap.size (.cells #[u32v tid, u32v tout, u32v ter, .bool tst] 50 (0, 0)) (.slice ad4 c0 cap4) LL (wr.alloc (.cells #[.int .u32 (tid : Int), .int .u32 (tout : Int), .int .u32 (ter : Int), .bool tst] 50))) := Lw.hid (HR.out.rebox (wx := wr) _ _)
        go_wp2_with fail
        obtain ⟨wy, hwy⟩ : ∃ wy, wr.alloc (.cells #[.int .u32 (tid : Int), .int .u32 (tout : Int), .int .u32 (ter : Int), .bool tst] 50) = wy := ⟨_, rfl⟩
        obtain ⟨hb, hhb⟩ : ∃ hb, wr.heap.size = hb := ⟨_, rfl⟩
        rw [hwy, hhb] at HD0
        rw [hwy, hhb]
        clear hwy hhb
        have hb0' := HD0.out.x
        have z0 := heap_cell hb0' 0; have z1 := heap_cell hb0' 1; have z2 := heap_cell hb0' 2; have z3 := heap_cell hb0' 3
        clear hb0'
        refine (number_any wy tid 4 (by omega) (by decide)).mono ?_
        rintro e n1 ⟨u1, rfl, ho, kn, hfn⟩
        obtain ⟨ax1, cx1, rfl, hx1, hx2, _⟩ := own_slice ho
        have HN1 := Lw.hid ho; have KN1 := Lw.hid kn
        have e1 : Hid (n1.ownsRow 0 5 1 (.slice ad4 c0 cap4) (c0) ((LL).map bv)) := Lw.hid (by have := HD0.out.own KN1.out; rwa [show (LL).length = c0 by simp only [List.length_append, HC0.out, be_length]] at this)
        have y0 := KN1.out.cell z0 (fun h => h); have y1 := KN1.out.cell z1 (fun h => h); have y2 := KN1.out.cell z2 (fun h => h); have y3 := KN1.out.cell z3 (fun h => h)
        clear ho kn hfn hx1 hx2 z0 z1 z2 z3
        go_wp2_with (at_builtin; refine wpList_app rfl _ _ _ rfl EB _ (c0) _ rfl e1.out _ 4 _ rfl (Rd.own HN1.out) (bytes_oneCell (be 4 tid)) (by unfold maxLen; omega) (by omega) ?_; intro ay1 cy1 m1 ho hg hf; have HD1 := Lw.hid (HD0.out.app KN1.out ho (by simp only [List.length_append, HC0.out, be_length]) hg hf); (have hbx := HD1.out.x); (have z0 := heap_cell hbx 0); (have z1 := heap_cell hbx 1); (have z2 := heap_cell hbx 2); (have z3 := heap_cell hbx 3); clear ho hg hf hbx y0 y1 y2 y3)
        go_wp2_with fail
        refine (number_any m1 tout 4 (by omega) (by decide)).mono ?_
        rintro e n2 ⟨u2, rfl, ho, kn, hfn⟩
        obtain ⟨ax2, cx2, rfl, hx1, hx2, _⟩ := own_slice ho
        have HN2 := Lw.hid ho; have KN2 := Lw.hid kn
        have e2 : Hid (n2.ownsRow 0 5 1 (.slice ay1 (c0 + 4) cy1) (c0 + 4) ((LL ++ be 4 tid).map bv)) := Lw.hid (by have := HD1.out.own KN2.out; rwa [show (LL ++ be 4 tid).length = c0 + 4 by simp only [List.length_append, HC0.out, be_length]] at this)
        have y0 := KN2.out.cell z0 (fun h => h); have y1 := KN2.out.cell z1 (fun h => h); have y2 := KN2.out.cell z2 (fun h => h); have y3 := KN2.out.cell z3 (fun h => h)
        clear ho kn hfn hx1 hx2 z0 z1 z2 z3
        go_wp2_with (at_builtin; refine wpList_app rfl _ _ _ rfl EB _ (c0 + 4) _ rfl e2.out _ 4 _ rfl (Rd.own HN2.out) (bytes_oneCell (be 4 tout)) (by unfold maxLen; omega) (by omega) ?_; intro ay2 cy2 m2 ho hg hf; have HD2 := Lw.hid (HD1.out.app KN2.out ho (by simp only [List.length_append, HC0.out, be_length]) hg hf); (have hbx := HD2.out.x); (have z0 := heap_cell hbx 0); (have z1 := heap_cell hbx 1); (have z2 := heap_cell hbx 2); (have z3 := heap_cell hbx 3); clear ho hg hf hbx y0 y1 y2 y3)
        go_wp2_with fail
        refine (number_any m2 ter 4 (by omega) (by decide)).mono ?_
        rintro e n3 ⟨u3, rfl, ho, kn, hfn⟩
        obtain ⟨ax3, cx3, rfl, hx1, hx2, _⟩ := own_slice ho
        have HN3 := Lw.hid ho; have KN3 := Lw.hid kn
        have e3 : Hid (n3.ownsRow 0 5 1 (.slice ay2 (c0 + 4 + 4) cy2) (c0 + 4 + 4) ((LL ++ be 4 tid ++ be 4 tout).map bv)) := Lw.hid (by have := HD2.out.own KN3.out; rwa [show (LL ++ be 4 tid ++ be 4 tout).length = c0 + 4 + 4 by simp only [List.length_append, HC0.out, be_length]] at this)
        have y0 := KN3.out.cell z0 (fun h => h); have y1 := KN3.out.cell z1 (fun h => h); have y2 := KN3.out.cell z2 (fun h => h); have y3 := KN3.out.cell z3 (fun h => h)
        clear ho kn hfn hx1 hx2 z0 z1 z2 z3
        cases tst
        · go_upto_region 14 with (at_builtin; refine wpList_app rfl _ _ _ rfl EB _ (c0 + 4 + 4) _ rfl e3.out _ 4 _ rfl (Rd.own HN3.out) (bytes_oneCell (be 4 ter)) (by unfold maxLen; omega) (by omega) ?_; intro ay3 cy3 m3 ho hg hf; have HD3 := Lw.hid (HD2.out.app KN3.out ho (by simp only [List.length_append, HC0.out, be_length]) hg hf); (have hbx := HD3.out.x); (have z0 := heap_cell hbx 0); (have z1 := heap_cell hbx 1); (have z2 := heap_cell hbx 2); (have z3 := heap_cell hbx 3); clear ho hg hf hbx y0 y1 y2 y3)
          have HST := Lw.hid (HLN.out 0 rfl)
          have e4 : Hid ((m3.alloc (.cells #[.int .u8 0] 5)).ownsRow 0 5 1 (.slice ay3 (c0 + 4 + 4 + 4) cy3) (c0 + 4 + 4 + 4) ((LL ++ be 4 tid ++ be 4 tout ++ be 4 ter).map bv)) := Lw.hid (by have := HD3.out.own ((Kept.refl _ m3).alloc (.cells #[.int .u8 0] 5)); rwa [show (LL ++ be 4 tid ++ be 4 tout ++ be 4 ter).length = c0 + 4 + 4 + 4 by simp only [List.length_append, HC0.out, be_length]] at this)
          have e5 : Hid (Rd (m3.alloc (.cells #[.int .u8 0] 5)) 1 (.slice (some ⟨m3.heap.size, 0, none⟩) 1 1) 1 ([lo 0].map bv)) := Lw.hid (RdB.mark m3 [lo 0] _ (0, 0) _ 1 rfl rfl (by decide))
          go_wp2_with (at_builtin; refine wpList_app rfl _ _ _ rfl EB _ (c0 + 4 + 4 + 4) _ rfl e4.out _ 1 _ rfl e5.out (bytes_oneCell [lo 0]) (by unfold maxLen; omega) (by omega) ?_; intro ay4 cy4 m4 ho hg hf; have HD4 := Lw.hid (HD3.out.app ((Kept.refl _ _).alloc _) ho (by simp only [List.length_append, HC0.out, be_length, List.length_cons, List.length_nil]) hg hf); clear ho hg hf)
          rw [← HST.out] at HD4
          go_roundg (m - (k + 1))
          case measure => omega
          case rel => exact ⟨k + 1, _, _, rfl, hlt, by go_num, HD4.out⟩
        · go_upto_region 13 with (at_builtin; refine wpList_app rfl _ _ _ rfl EB _ (c0 + 4 + 4) _ rfl e3.out _ 4 _ rfl (Rd.own HN3.out) (bytes_oneCell (be 4 ter)) (by unfold maxLen; omega) (by omega) ?_; intro ay3 cy3 m3 ho hg hf; have HD3 := Lw.hid (HD2.out.app KN3.out ho (by simp only [List.length_append, HC0.out, be_length]) hg hf); (have hbx := HD3.out.x); (have z0 := heap_cell hbx 0); (have z1 := heap_cell hbx 1); (have z2 := heap_cell hbx 2); (have z3 := heap_cell hbx 3); clear ho hg hf hbx y0 y1 y2 y3)
          have HST := Lw.hid (HLN.out 1 rfl)
          have e4 : Hid ((m3.alloc (.cells #[.int .u8 1] 5)).ownsRow 0 5 1 (.slice ay3 (c0 + 4 + 4 + 4) cy3) (c0 + 4 + 4 + 4) ((LL ++ be 4 tid ++ be 4 tout ++ be 4 ter).map bv)) := Lw.hid (by have := HD3.out.own ((Kept.refl _ m3).alloc (.cells #[.int .u8 1] 5)); rwa [show (LL ++ be 4 tid ++ be 4 tout ++ be 4 ter).length = c0 + 4 + 4 + 4 by simp only [List.length_append, HC0.out, be_length]] at this)
          have e5 : Hid (Rd (m3.alloc (.cells #[.int .u8 1] 5)) 1 (.slice (some ⟨m3.heap.size, 0, none⟩) 1 1) 1 ([lo 1].map bv)) := Lw.hid (RdB.mark m3 [lo 1] _ (0, 0) _ 1 rfl rfl (by decide))
          go_wp2_with (at_builtin; refine wpList_app rfl _ _ _ rfl EB _ (c0 + 4 + 4 + 4) _ rfl e4.out _ 1 _ rfl e5.out (bytes_oneCell [lo 1]) (by unfold maxLen; omega) (by omega) ?_; intro ay4 cy4 m4 ho hg hf; have HD4 := Lw.hid (HD3.out.app ((Kept.refl _ _).alloc _) ho (by simp only [List.length_append, HC0.out, be_length, List.length_cons, List.length_nil]) hg hf); clear ho hg hf)
          rw [← HST.out] at HD4
          go_roundg (m - (k + 1))
          case measure => omega
          case rel => exact ⟨k + 1, _, _, rfl, hlt, by go_num, HD4.out⟩
      · obtain rfl : k = m := by omega
        have HE : Hid (be 4 nx ++ lo k :: ((l.take k).flatMap Hv.enc) = r1) := Lw.hid (by
          rw [HX1.out, List.take_of_length_le (by rw [HM.out]; exact Nat.le_refl _)]; unfold askB; rw [HM.out])
        rw [HE.out] at HR hd1 ⊢
        have HFIN := Lw.hid (bt_rd HR.out)
        obtain ⟨c, hc⟩ : ∃ c, r1.length = c := ⟨_, rfl⟩
        rw [hc] at HFIN hd1 ⊢
        clear hc HR
        go_wp2_with fail
        go_ret2
        rw [HX2.out]
        exact HFIN.out
end Go.Proofs.Ytbmfnepbdfnlaaa
