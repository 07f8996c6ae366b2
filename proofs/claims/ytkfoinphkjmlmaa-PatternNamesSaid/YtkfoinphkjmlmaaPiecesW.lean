/- package pattern: pieces, walked. -/
import Derived.Test.YtkfoinphkjmlmaaPieces21
namespace Go.Proofs.Ytkfoinphkjmlmaa
open Go Go.RowKit Go.Lw
set_option maxRecDepth 100000
set_option linter.unusedVariables false
attribute [local go_sem] BA_toList
/-- Pieces in an own row; their sets apart. -/
structure PRel (w wx : World) (v : Value) (xs : List PcV) : Prop where
  own : wx.ownsRow 0 44 3 v xs.length (xs.flatMap PcV.cells)
  ok : ∀ x ∈ xs, x.ok wx ∧ ∀ g, x.g = some ⟨g, 0, none⟩ → ¬ blk v g ∧ g < wx.heap.size
  kept : Kept (fun _ => False) w wx
  new : ∀ q, blk v q → w.heap.size ≤ q
theorem PRel.keep {w wx wy : World} {v : Value} {xs : List PcV} (h : PRel w wx v xs) (k : Kept (fun _ => False) wx wy) : PRel w wy v xs :=
  ⟨own_kept k h.own (fun _ _ h => h), fun x hx => ⟨(h.ok x hx).1.kept k (fun _ _ h => h), fun g hg => ⟨((h.ok x hx).2 g hg).1, Nat.lt_of_lt_of_le ((h.ok x hx).2 g hg).2 k.size⟩⟩, h.kept.trans k (fun _ _ h => h), h.new⟩
theorem PRel.add {w wz w' : World} {v v' : Value} {xs : List PcV} {x : PcV} (h : PRel w wz v xs) (hx : x.ok wz) (hg : ∀ g, x.g = some ⟨g, 0, none⟩ → ¬ blk v g ∧ g < wz.heap.size)
    (ho : w'.ownsRow 0 44 3 v' (xs.length + 1) (xs.flatMap PcV.cells ++ x.cells)) (hgr : wz.grownBy w' v.ownBlock) (hf : Fresh wz v v') : PRel w w' v' (xs ++ [x]) := by
  have hk : Kept (blk v) wz w' := (Kept.refl _ wz).grown hgr (fun k hk _ => hk)
  have hs := h.kept.size
  refine ⟨?_, fun y hy => ?_, h.kept.trans hk (fun i hi hb => by have := h.new i hb; omega), fun q hq => ?_⟩
  · rw [List.length_append, List.flatMap_append, List.flatMap_singleton]; exact ho
  · have hy' : y.ok wz ∧ ∀ g, y.g = some ⟨g, 0, none⟩ → ¬ blk v g ∧ g < wz.heap.size := by
      rcases List.mem_append.1 hy with hy | hy
      · exact h.ok y hy
      · obtain rfl := List.mem_singleton.1 hy; exact ⟨hx, hg⟩
    refine ⟨hy'.1.kept hk (fun g hg' => (hy'.2 g hg').1), fun g hg' => ⟨fun hb => ?_, Nat.lt_of_lt_of_le (hy'.2 g hg').2 hk.size⟩⟩
    rcases hf g hb with h1 | h1
    · exact (hy'.2 g hg').1 h1
    · have := (hy'.2 g hg').2; omega
  · rcases hf q hq with h1 | h1
    · exact h.new q h1
    · omega
theorem own_len {w : World} {e size n m : Nat} {v : Value} {xs : List Value} (h : n = m) (ho : w.ownsRow 0 e size v n xs) : w.ownsRow 0 e size v m xs := by subst h; exact ho
theorem pcell (x : PcV) : ∀ u ∈ x.cells, u.oneCell' = true := by
  intro u hu
  simp only [PcV.cells, List.mem_cons, List.not_mem_nil, or_false] at hu
  rcases hu with rfl | rfl | rfl <;> rfl
theorem fill_step {w : World} {g j : Nat} (h : SetAt w g (fun i => if i = j then true else decide (i < j))) : SetAt w g (fun i => decide (i < j + 1)) :=
  h.congr fun i _ => by
    by_cases e : i = j
    · subst e; simp
    · simp only [if_neg e]
      apply decide_eq_decide.2; omega
set_option maxHeartbeats 8000000 in
theorem pieces_any (w : World) (p : List UInt8) (hp : p.length ≤ 100000) :
    Calls Try.prog 19 #[.string (BA p)] w fun e w' => ∃ v xs, e = .returned v ∧ PRel w w' v xs ∧ xs.map PcV.p = piecesF p.length p := by
  obtain ⟨Z, hz1, hz2, hz3⟩ := zero_set
  obtain ⟨PL, hPL⟩ : ∃ PL, piecesF p.length p = PL := ⟨_, rfl⟩
  have HPL := Lw.hid hPL
  rw [hPL]
  obtain ⟨N, hN⟩ : ∃ N, p.length = N := ⟨_, rfl⟩
  have HN := Lw.hid hN
  rw [hN] at hp HPL
  have HZ1 := Lw.hid hz1; have HZ2 := Lw.hid hz2; have HZ3 := Lw.hid hz3
  clear hPL hN hz1 hz2 hz3
  go_enter Try.func19, Try.ntmps19
  go_wp2_with fail
  go_loopg [0, 3] N (fun gk s out wx => ∃ (l : List UInt8) (xs : List PcV) (a : Option Addr) (c : Nat), gk = l.length ∧ s = .string (BA l) ∧ out = .slice a xs.length c ∧ xs.length + l.length ≤ N ∧ xs.map PcV.p ++ piecesF l.length l = PL ∧ PRel w wx out xs)
  case atStart => exact ⟨p, [], none, 0, HN.out.symm, rfl, rfl, by rw [HN.out]; simp, by rw [HN.out]; simpa using HPL.out, World.ownsRow_nil _ 0 _ 3, fun _ h => by simp at h, Kept.refl _ _, fun _ h => (blk_none h).elim⟩
  case round =>
    obtain ⟨l, xs, a, c, rfl, rfl, rfl, hlen, hpl, hpr⟩ := hrel
    have HPR := Lw.hid hpr; have HP := Lw.hid hpl
    clear hpr hpl HPL
    obtain ⟨m, hm⟩ : ∃ m, xs.length = m := ⟨_, rfl⟩
    have HM := Lw.hid hm
    rw [hm] at hlen HPR ⊢
    clear hm
    cases l with
    | nil =>
      have hn := BA_nil
      have HPQ : Hid (xs.map PcV.p = PL) := Lw.hid (by simpa [piecesF] using HP.out)
      go_wp2_with fail
      go_ret
      exact ⟨_, xs, rfl, HPR.out, HPQ.out⟩
    | cons b l =>
      have hne : (BA (b :: l) == (⟨#[]⟩ : ByteArray)) = false := BA_ne_nil (by simp)
      have hsz : (BA (b :: l)).size = l.length + 1 := BA_size _
      have g0 := BA_get (l := b :: l) (k := 0) rfl
      have e1 := BA_tail (b :: l) 1 (l.length + 1) rfl
      simp only [List.drop_succ_cons, List.drop_zero] at e1
      have hll : xs.length + (l.length + 1) ≤ N := by have := HM.out; simp at hlen; omega
      have hl0 : m + (l.length + 1) ≤ N := by have := HM.out; simp at hlen; omega
      have hl1 : (1 : Int) ≤ (l.length : Int) + 1 := by omega
      have hLL : Hid ((b :: l).length = l.length + 1) := Lw.hid rfl
      have HSTEP : Hid (∀ pc r, pieceF b l = (pc, r) → r.length ≤ l.length ∧ (xs.map PcV.p ++ [pc]) ++ piecesF r.length r = PL) := Lw.hid (fun pc r h => by
        have hr : r.length ≤ l.length := by have := pieceF_len b l; rw [h] at this; exact this
        refine ⟨hr, ?_⟩
        rw [← HP.out, List.append_assoc]
        congr 1
        show _ = (pieceF b l).1 :: piecesF l.length (pieceF b l).2
        rw [h, piecesF_fuel l.length r.length r hr (Nat.le_refl _)]
        rfl)
      have HK : Hid (∀ wz, Kept (fun _ => False) wr wz → PRel w wz (.slice a m c) xs) := Lw.hid (fun wz k => HPR.out.keep k)
      clear hlen HP
      by_cases h42 : b.toNat = 42
      · have hb : ((b.toNat : Int) == 42) = true := by rw [h42]; rfl
        have HPF : Hid (pieceF b l = (⟨true, false, noneF⟩, l)) := Lw.hid (by unfold pieceF; rw [if_pos h42])
        clear h42
        go_wp2_with fail
        go_region_held3 (fun _ => True) (trivial)
          ((refine step_app rfl _ _ _ rfl EPc (.slice a m c) m (xs.flatMap PcV.cells) rfl (own_len HM.out (HK.out _ ((Kept.refl _ _).alloc _).drew).own) _ 1 [.bool true, .pointer none, .bool false] rfl (Rd.lit' wr [.bool true, .pointer none, .bool false] _ 3 _ 1 (by simp) rfl (by decide) (by rfl)) (pcell ⟨⟨true, false, noneF⟩, none⟩) (by unfold maxLen; omega) (by omega) ?_; intro a9 c9 w9 ho hg hf; have hpr9 := (HK.out _ ((Kept.refl _ _).alloc _).drew).add (x := ⟨⟨true, false, noneF⟩, none⟩) (fun h => by cases h) (fun g h => by cases h) (by rw [HM.out]; exact ho) hg hf; have HPR9 := Lw.hid hpr9; clear ho hg hf hpr9))
        go_wp2_with fail
        have hq := HSTEP.out ⟨true, false, noneF⟩ l HPF.out
        have HQ := Lw.hid hq.2
        have hq1 := hq.1
        clear hq
        go_roundg l.length
        case measure => rw [hLL.out]; omega
        case rel => exact ⟨l, xs ++ [⟨⟨true, false, noneF⟩, none⟩], a9, c9, rfl, rfl, by rw [List.length_append, HM.out]; rfl, by rw [List.length_append]; simp; omega, by rw [List.map_append]; exact HQ.out, HPR9.out⟩
      by_cases h63 : b.toNat = 63
      · have hb42 : ((b.toNat : Int) == 42) = false := by simp; omega
        have hb63 : ((b.toNat : Int) == 63) = true := by rw [h63]; rfl
        have HPF : Hid (pieceF b l = (⟨false, false, fun _ => true⟩, l)) := Lw.hid (by unfold pieceF; rw [if_neg h42, if_pos h63])
        have hz3 := HZ3.out
        clear h42 h63
        go_wp2_with fail
        obtain ⟨wo, rfl⟩ : ∃ wo : World, wo = wr := ⟨_, rfl⟩
        obtain ⟨gz, hgz⟩ : ∃ gz, wo.heap.size = gz := ⟨_, rfl⟩
        have hS0 : SetAt ((wo.alloc (.cells Z 45)).alloc (.cells #[.bool false, .pointer (some ⟨wo.heap.size, 0, none⟩), .bool false] 44)) wo.heap.size (fun i => decide (i < 0)) :=
          ((SetAt.new (w := wo) (A := Z) (f := fun i => decide (i < 0)) HZ1.out (fun i hi => by rw [HZ2.out i hi]; simp)).kept ((Kept.refl (fun _ => False) _).alloc _) (fun h => h))
        have hB0 := heap_alloc (wo.alloc (.cells Z 45)) (.cells #[.bool false, .pointer (some ⟨wo.heap.size, 0, none⟩), .bool false] 44)
        rw [World.size_alloc] at hB0
        have hK0 : Kept (fun _ => False) wo ((wo.alloc (.cells Z 45)).alloc (.cells #[.bool false, .pointer (some ⟨wo.heap.size, 0, none⟩), .bool false] 44)) := ((Kept.refl _ wo).alloc _).alloc _
        have hvl := own_lt HPR.out.own
        rw [hgz] at hS0 hB0 hK0 hvl ⊢
        have HGZ := Lw.hid hgz; have HS0 := Lw.hid hS0; have HB0 := Lw.hid hB0; have HK0 := Lw.hid hK0; have HVL := Lw.hid hvl
        clear hgz hS0 hB0 hK0 hvl hz3
        go_loopw [27] (fun i wx => ∃ j : Nat, j ≤ 256 ∧ i = .int .i64 (j : Int) ∧ SetAt wx gz (fun q => decide (q < j)) ∧ wx.heap[gz + 1]? = some (.cells #[.bool false, .pointer (some ⟨gz, 0, none⟩), .bool false] 44 (0, 0)) ∧ Kept (fun _ => False) wo wx) (fun i _ => 256 - (intOf i).toNat)
        case atStart => exact ⟨0, by omega, rfl, HS0.out, HB0.out, HK0.out⟩
        case round =>
          obtain ⟨j, hj, rfl, hs, hbx, hk⟩ := hrel
          have HS3 := Lw.hid hs; have HB3 := Lw.hid hbx; have HK3 := Lw.hid hk
          have x1 := heap_cell hbx 1
          clear hs hbx hk
          by_cases hlt : j < 256
          · have hc1 := HS3.out.cell j hlt
            have hf1 := HS3.out.free j
            have HS4 := Lw.hid (HS3.out.stored j true hlt)
            have HK4 := Lw.hid (kept_set1' wr gz j (.bool true))
            have hi0 : (0 : Int) ≤ (j : Int) := by omega
            have hi1 : (j : Int) < 256 := by omega
            go_wp2_with fail
            go_roundw
            case rel => exact ⟨j + 1, by omega, by go_num, fill_step HS4.out, HK4.out.heap HB3.out (by omega), HK3.out.trans HK4.out (fun i hi e => by have := HGZ.out; omega)⟩
            case measure => simp [intOf]; omega
          · obtain rfl : j = 256 := by omega
            have HSN : Hid (SetAt wr gz (fun _ => true)) := Lw.hid (HS3.out.congr fun i hi => by simp [hi])
            have x0 := heap_cell HB3.out 0; have x2 := heap_cell HB3.out 2
            have hgl := heap_lt HB3.out
            go_wp2_with fail
            go_region_held3 (fun w' => w'.cell? ⟨gz + 1, 0, none⟩ = some (.bool false) ∧ w'.cell? ⟨gz + 1, 1, none⟩ = some (.pointer (some ⟨gz, 0, none⟩)) ∧ w'.cell? ⟨gz + 1, 2, none⟩ = some (.bool false)) (go_keep)
              ((refine step_app rfl _ _ _ rfl EPc (.slice a m c) m (xs.flatMap PcV.cells) rfl (own_len HM.out (HK.out _ (HK3.out.trans ((Kept.refl _ _).alloc _).drew (fun _ _ h => h))).own) _ 1 [.bool false, .pointer (some ⟨gz, 0, none⟩), .bool false] rfl (Rd.lit' wr [.bool false, .pointer (some ⟨gz, 0, none⟩), .bool false] _ 3 _ 1 (by simp) rfl (by decide) (by rfl)) (pcell ⟨⟨false, false, fun _ => true⟩, some ⟨gz, 0, none⟩⟩) (by unfold maxLen; omega) (by omega) ?_; intro a9 c9 w9 ho hg hf; have hpr9 := (HK.out _ (HK3.out.trans ((Kept.refl _ _).alloc _).drew (fun _ _ h => h))).add (x := ⟨⟨false, false, fun _ => true⟩, some ⟨gz, 0, none⟩⟩) (fun _ => ⟨gz, rfl, HSN.out.kept ((Kept.refl (fun _ => False) _).alloc _).drew (fun h => h)⟩) (fun g h => by cases h; exact ⟨fun hb => by have := HVL.out gz hb; omega, by simp; omega⟩) (by rw [HM.out]; exact ho) hg hf; have HPR9 := Lw.hid hpr9; have kk : Kept (blk (.slice a m c)) _ w9 := (Kept.refl _ _).grown hg (fun k hk _ => hk); have hnb : ¬ blk (.slice a m c) (gz + 1) := (fun hb => by have := HVL.out (gz + 1) hb; omega); have y0 := kk.cell (p := ⟨gz + 1, 0, none⟩) (((Kept.refl (fun _ => False) _).alloc _).drew.cell x0 (fun h => h)) hnb; have y1 := kk.cell (p := ⟨gz + 1, 1, none⟩) (((Kept.refl (fun _ => False) _).alloc _).drew.cell x1 (fun h => h)) hnb; have y2 := kk.cell (p := ⟨gz + 1, 2, none⟩) (((Kept.refl (fun _ => False) _).alloc _).drew.cell x2 (fun h => h)) hnb; clear kk; clear ho hg hf hpr9))
            go_wp2_with fail
            have hq := HSTEP.out ⟨false, false, fun _ => true⟩ l HPF.out
            have HQ := Lw.hid hq.2
            have hq1 := hq.1
            clear hq
            go_roundg l.length
            case measure => rw [hLL.out]; omega
            case rel => exact ⟨l, xs ++ [⟨⟨false, false, fun _ => true⟩, some ⟨gz, 0, none⟩⟩], a9, c9, rfl, rfl, by rw [List.length_append, HM.out]; rfl, by rw [List.length_append]; simp; omega, by rw [List.map_append]; exact HQ.out, HPR9.out⟩
      by_cases h91 : b.toNat = 91
      · have hb42 : ((b.toNat : Int) == 42) = false := by simp; omega
        have hb63 : ((b.toNat : Int) == 63) = false := by simp; omega
        have hb91 : ((b.toNat : Int) == 91) = true := by rw [h91]; rfl
        obtain ⟨cl, hcl⟩ : ∃ cl, closedF l = cl := ⟨_, rfl⟩
        cases cl with
        | none =>
          have HC := Lw.hid hcl
          clear hcl
          go_wp2_with fail
          refine (closed_any wr l (by omega)).mono ?_
          rw [HC.out]
          rintro e w6 ⟨rfl, k6⟩
          have HK6 := Lw.hid (k6.alloc (.cells #[.bool false, .pointer none, .bool false] 44))
          clear k6
          obtain ⟨d, r, htk⟩ : ∃ d r, takenF b l = (d, r) := ⟨_, _, rfl⟩
          have HTK := Lw.hid htk
          have HPF : Hid (pieceF b l = (⟨false, true, fun i => if i = d.toNat then true else false⟩, r)) := Lw.hid (by unfold pieceF; rw [if_neg h42, if_neg h63, if_pos h91, HC.out]; simp only; rw [htk])
          clear htk
          go_wp2_with fail
          refine (taken_any _ b l (by omega)).mono ?_
          rw [HTK.out]
          rintro e w7 ⟨rfl, k7⟩
          have HK7 := Lw.hid (HK6.out.trans k7 (fun _ _ h => h))
          clear k7
          go_wp2_with fail
          refine (one_any w7 d.toNat d.toNat_lt).mono ?_
          rintro e w8 ⟨g8, rfl, s8, k8, hg8⟩
          have HK8 := Lw.hid (HK7.out.trans k8 (fun _ _ h => h)); have HS8 := Lw.hid s8; have hgl8 := s8.lt
          have HV8 : Hid (¬ blk (.slice a m c) g8) := Lw.hid (fun hb => by have := own_lt HPR.out.own g8 hb; have := HK7.out.size; omega)
          clear s8 k8
          go_wp2_with (at_builtin; refine wpList_app rfl _ _ _ rfl EPc (.slice a m c) m (xs.flatMap PcV.cells) rfl (own_len HM.out (HK.out _ (HK8.out.trans ((Kept.refl _ _).alloc _) (fun _ _ h => h))).own) _ 1 [.bool false, .pointer (some ⟨g8, 0, none⟩), .bool true] rfl (Rd.lit' w8 [.bool false, .pointer (some ⟨g8, 0, none⟩), .bool true] _ 3 _ 1 (by simp) rfl (by decide) (by rfl)) (pcell ⟨⟨false, true, fun i => if i = d.toNat then true else false⟩, some ⟨g8, 0, none⟩⟩) (by unfold maxLen; omega) (by omega) ?_; intro a9 c9 w9 ho hg hf; have hpr9 := (HK.out _ (HK8.out.trans ((Kept.refl _ _).alloc _) (fun _ _ h => h))).add (x := ⟨⟨false, true, fun i => if i = d.toNat then true else false⟩, some ⟨g8, 0, none⟩⟩) (fun _ => ⟨g8, rfl, HS8.out.kept ((Kept.refl (fun _ => False) _).alloc _) (fun h => h)⟩) (fun g h => by cases h; exact ⟨HV8.out, by simp; omega⟩) (by rw [HM.out]; exact ho) hg hf; have HPR9 := Lw.hid hpr9; clear ho hg hf hpr9)
          have hq := HSTEP.out _ r HPF.out
          have HQ := Lw.hid hq.2
          have hq1 := hq.1
          clear hq
          go_roundg r.length
          case measure => rw [hLL.out]; omega
          case rel => exact ⟨r, xs ++ [⟨⟨false, true, fun i => if i = d.toNat then true else false⟩, some ⟨g8, 0, none⟩⟩], a9, c9, rfl, rfl, by rw [List.length_append, HM.out]; rfl, by rw [List.length_append]; simp; omega, by rw [List.map_append]; exact HQ.out, HPR9.out⟩
        | some fr =>
          obtain ⟨f, r⟩ := fr
          have HC := Lw.hid hcl
          have HPF : Hid (pieceF b l = (⟨false, false, f⟩, r)) := Lw.hid (by unfold pieceF; rw [if_neg h42, if_neg h63, if_pos h91, hcl])
          clear hcl h42 h63 h91
          go_wp2_with fail
          refine (closed_any wr l (by omega)).mono ?_
          rw [HC.out]
          rintro e w6 ⟨g6, rfl, s6, k6, hg6⟩
          have HS6 := Lw.hid (s6.kept ((Kept.refl (fun _ => False) _).alloc (.cells #[.bool false, .pointer (some ⟨g6, 0, none⟩), .bool false] 44)) (fun h => h)); have HK6 := Lw.hid (k6.alloc (.cells #[.bool false, .pointer (some ⟨g6, 0, none⟩), .bool false] 44)); have hgl6 := s6.lt
          have HV6 : Hid (¬ blk (.slice a m c) g6) := Lw.hid (fun hb => by have := own_lt HPR.out.own g6 hb; omega)
          clear s6 k6
          go_wp2_with (at_builtin; refine wpList_app rfl _ _ _ rfl EPc (.slice a m c) m (xs.flatMap PcV.cells) rfl (own_len HM.out (HK.out _ (HK6.out.trans ((Kept.refl _ _).alloc _) (fun _ _ h => h))).own) _ 1 [.bool false, .pointer (some ⟨g6, 0, none⟩), .bool false] rfl (Rd.lit' (w6.alloc (.cells #[.bool false, .pointer (some ⟨g6, 0, none⟩), .bool false] 44)) [.bool false, .pointer (some ⟨g6, 0, none⟩), .bool false] _ 3 _ 1 (by simp) rfl (by decide) (by rfl)) (pcell ⟨⟨false, false, f⟩, some ⟨g6, 0, none⟩⟩) (by unfold maxLen; omega) (by omega) ?_; intro a9 c9 w9 ho hg hf; have hpr9 := (HK.out _ (HK6.out.trans ((Kept.refl _ _).alloc _) (fun _ _ h => h))).add (x := ⟨⟨false, false, f⟩, some ⟨g6, 0, none⟩⟩) (fun _ => ⟨g6, rfl, HS6.out.kept ((Kept.refl (fun _ => False) _).alloc _) (fun h => h)⟩) (fun g h => by cases h; exact ⟨HV6.out, by simp; omega⟩) (by rw [HM.out]; exact ho) hg hf; have HPR9 := Lw.hid hpr9; clear ho hg hf hpr9)
          have hq := HSTEP.out _ r HPF.out
          have HQ := Lw.hid hq.2
          have hq1 := hq.1
          clear hq
          go_roundg r.length
          case measure => rw [hLL.out]; omega
          case rel => exact ⟨r, xs ++ [⟨⟨false, false, f⟩, some ⟨g6, 0, none⟩⟩], a9, c9, rfl, rfl, by rw [List.length_append, HM.out]; rfl, by rw [List.length_append]; simp; omega, by rw [List.map_append]; exact HQ.out, HPR9.out⟩
      · obtain ⟨d, r, htk⟩ : ∃ d r, takenF b l = (d, r) := ⟨_, _, rfl⟩
        have HTK := Lw.hid htk
        have HPF : Hid (pieceF b l = (⟨false, true, fun i => if i = d.toNat then true else false⟩, r)) := Lw.hid (by unfold pieceF; rw [if_neg h42, if_neg h63, if_neg h91, htk])
        clear htk
        have hb42 : ((b.toNat : Int) == 42) = false := by simp; omega
        have hb63 : ((b.toNat : Int) == 63) = false := by simp; omega
        have hb91 : ((b.toNat : Int) == 91) = false := by simp; omega
        clear h42 h63 h91
        go_wp2_with fail
        refine (taken_any _ b l (by omega)).mono ?_
        rw [HTK.out]
        rintro e w7 ⟨rfl, k7⟩
        have HK7 := Lw.hid ((Kept.refl (fun _ => False) wr).trans k7 (fun _ _ h => h))
        clear k7
        go_wp2_with fail
        refine (one_any w7 d.toNat d.toNat_lt).mono ?_
        rintro e w8 ⟨g8, rfl, s8, k8, hg8⟩
        have HK8 := Lw.hid (HK7.out.trans k8 (fun _ _ h => h)); have HS8 := Lw.hid s8; have hgl8 := s8.lt
        have HV8 : Hid (¬ blk (.slice a m c) g8) := Lw.hid (fun hb => by have := own_lt HPR.out.own g8 hb; have := HK7.out.size; omega)
        clear s8 k8
        go_wp2_with (at_builtin; refine wpList_app rfl _ _ _ rfl EPc (.slice a m c) m (xs.flatMap PcV.cells) rfl (own_len HM.out (HK.out _ (HK8.out.trans ((Kept.refl _ _).alloc _) (fun _ _ h => h))).own) _ 1 [.bool false, .pointer (some ⟨g8, 0, none⟩), .bool true] rfl (Rd.lit' w8 [.bool false, .pointer (some ⟨g8, 0, none⟩), .bool true] _ 3 _ 1 (by simp) rfl (by decide) (by rfl)) (pcell ⟨⟨false, true, fun i => if i = d.toNat then true else false⟩, some ⟨g8, 0, none⟩⟩) (by unfold maxLen; omega) (by omega) ?_; intro a9 c9 w9 ho hg hf; have hpr9 := (HK.out _ (HK8.out.trans ((Kept.refl _ _).alloc _) (fun _ _ h => h))).add (x := ⟨⟨false, true, fun i => if i = d.toNat then true else false⟩, some ⟨g8, 0, none⟩⟩) (fun _ => ⟨g8, rfl, HS8.out.kept ((Kept.refl (fun _ => False) _).alloc _) (fun h => h)⟩) (fun g h => by cases h; exact ⟨HV8.out, by simp; omega⟩) (by rw [HM.out]; exact ho) hg hf; have HPR9 := Lw.hid hpr9; clear ho hg hf hpr9)
        have hq := HSTEP.out _ r HPF.out
        have HQ := Lw.hid hq.2
        have hq1 := hq.1
        clear hq
        go_roundg r.length
        case measure => rw [hLL.out]; omega
        case rel => exact ⟨r, xs ++ [⟨⟨false, true, fun i => if i = d.toNat then true else false⟩, some ⟨g8, 0, none⟩⟩], a9, c9, rfl, rfl, by rw [List.length_append, HM.out]; rfl, by rw [List.length_append]; simp; omega, by rw [List.map_append]; exact HQ.out, HPR9.out⟩
end Go.Proofs.Ytkfoinphkjmlmaa
