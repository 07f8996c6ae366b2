/- ArithWorks, walked. -/
import Derived.Test.YtoedopgjonhemaaGreatDoorWorksA
import Derived.Test.YtoedopgjonhemaaGreatDoorBMap
namespace Go.Proofs.YtoedopgjonhemaaGreatDoor
open Go Go.RowKit Go.Lw
set_option maxRecDepth 100000
set_option linter.unusedVariables false
set_option linter.unusedSimpArgs false
attribute [local go_sem] BA_toList
def envOf (l : List (List UInt8 × List UInt8)) (s : List UInt8) : List UInt8 := ((l.find? fun p => p.1 == s).map Prod.snd).getD []
abbrev vOfT (l : List (List UInt8 × List UInt8)) : List (List UInt8 × Value) := l.map fun p => (p.1, textV p.2)
theorem envOf_at : ∀ (l : List (List UInt8 × List UInt8)) (s : List UInt8), textV (envOf l s) = (assocS (vOfT l) s).getD (textV [])
  | [], s => rfl
  | p :: l, s => by
    have ih := envOf_at l s
    unfold envOf at ih ⊢
    simp only [List.map_cons, assocS, List.find?_cons]
    by_cases h : p.1 = s
    · have h' : (p.1 == s) = true := by simp [h]
      rw [if_pos h, h']; rfl
    · have h' : (p.1 == s) = false := by simp [h]
      rw [if_neg h, h']; exact ih
theorem EVar : ElemT Tryz.prog 24 28 2 32 := ElemT.of (z := .agg #[.string ⟨#[]⟩, .string ⟨#[]⟩]) Tryz.underlying24 (by kernel_rfl) rfl (by decide)
def nmW (k : Nat) : List UInt8 := ([[120], [121], [122]] : List (List UInt8)).getD k []
def xsW (x : List (List UInt8)) (k : Nat) : List UInt8 := x.getD k []
def txW (x : List (List UInt8)) (k : Nat) : List UInt8 := (xsW x k).take (min (xsW x k).length 25)
/-- The names' texts. -/
def varW (x : List (List UInt8)) : List (List UInt8 × List UInt8) := [(nmW 0, txW x 0), (nmW 1, txW x 1), (nmW 2, txW x 2)]
theorem varW_at (x : List (List UInt8)) (k : Nat) (hk : k < 3) : (varW x)[k]? = some (nmW k, txW x k) := by
  have h : k = 0 ∨ k = 1 ∨ k = 2 := by omega
  rcases h with rfl | rfl | rfl <;> rfl
theorem varW_take (x : List (List UInt8)) (k : Nat) (hk : k < 3) : (varW x).take (k + 1) = (varW x).take k ++ [(nmW k, txW x k)] := by
  have h : k = 0 ∨ k = 1 ∨ k = 2 := by omega
  rcases h with rfl | rfl | rfl <;> rfl
theorem nmW_len (k : Nat) (hk : k < 3) : (nmW k).length = 1 := by
  have h : k = 0 ∨ k = 1 ∨ k = 2 := by omega
  rcases h with rfl | rfl | rfl <;> rfl
theorem txW_len (x : List (List UInt8)) (k : Nat) : (txW x k).length ≤ 25 := by unfold txW; rw [List.length_take]; omega
theorem env_same (x : List (List UInt8)) (s : List UInt8) : envV (varW x) s = envOf (varW x).reverse s := by
  show (if nmW 2 = s then txW x 2 else if nmW 1 = s then txW x 1 else if nmW 0 = s then txW x 0 else []) = _
  unfold envOf varW
  simp only [List.reverse_cons, List.reverse_nil, List.nil_append, List.cons_append, List.find?_cons, List.find?_nil]
  by_cases h2 : nmW 2 = s
  · rw [if_pos h2, show (nmW 2 == s) = true by simp [h2]]; rfl
  · rw [if_neg h2, show (nmW 2 == s) = false by simp [h2]]
    by_cases h1 : nmW 1 = s
    · rw [if_pos h1, show (nmW 1 == s) = true by simp [h1]]; rfl
    · rw [if_neg h1, show (nmW 1 == s) = false by simp [h1]]
      by_cases h0 : nmW 0 = s
      · rw [if_pos h0, show (nmW 0 == s) = true by simp [h0]]; rfl
      · rw [if_neg h0, show (nmW 0 == s) = false by simp [h0]]; rfl
theorem nm_index (k : Nat) (hk : k < 3) (w : World) : (Instr.index 22 (.agg #[.string ⟨#[120]⟩, .string ⟨#[121]⟩, .string ⟨#[122]⟩]) (.int .i64 (k : Int))).run Tryz.prog w = .ok (.string (BA (nmW k))) w := by
  have h : k = 0 ∨ k = 1 ∨ k = 2 := by omega
  rcases h with rfl | rfl | rfl <;> rfl
theorem xs_cell {w : World} {xb : Nat} {x0 x1 x2 : List UInt8} {t : TypeId} (h : w.heap[xb]? = some (.cells #[.string (BA x0), .string (BA x1), .string (BA x2)] t (0, 0))) (k : Nat) (hk : k < 3) : w.cell? ⟨xb, k, none⟩ = some (.string (BA (xsW [x0, x1, x2] k))) := by
  have h' : k = 0 ∨ k = 1 ∨ k = 2 := by omega
  rcases h' with rfl | rfl | rfl <;> exact heap_cell h _
theorem strs_cells {w : World} {l : List (List UInt8)} {a : Option Addr} {c : Nat} (hne : l ≠ []) (h : w.ownsRow 0 9 1 (.slice a l.length c) l.length (l.map sV2)) : ∃ g o, a = some ⟨g, o, none⟩ ∧ ∀ j, j < (l.map BA).length → w.cell? ⟨g, o + j, none⟩ = some (.string ((l.map BA).getD j ByteArray.empty)) := by
  obtain ⟨h0, a', c', e, _, _, hc⟩ := Rd.own h
  cases e
  have hpos : 0 < l.length := List.length_pos_iff.2 hne
  have each : ∀ j, j < l.length → ∃ g o, a = some ⟨g, o, none⟩ ∧ w.cell? ⟨g, o + j, none⟩ = some (.string ((l.map BA).getD j ByteArray.empty)) := fun j hj => by
    obtain ⟨g, o, e, hcell⟩ := hc j (.string (BA l[j])) (by rw [List.getElem?_map, List.getElem?_eq_getElem hj]; rfl)
    refine ⟨g, o, e, ?_⟩
    rw [hcell, List.getD_eq_getElem?_getD, List.getElem?_map, List.getElem?_eq_getElem hj]
    rfl
  obtain ⟨g, o, rfl, _⟩ := each 0 hpos
  refine ⟨g, o, rfl, fun j hj => ?_⟩
  obtain ⟨g', o', e, hcell⟩ := each j (by simpa using hj)
  cases e
  exact hcell
/-- Two rows of the same strings: Equal. -/
theorem equal_same (w : World) (l : List (List UInt8)) (a1 a2 : Option Addr) (c1 c2 : Nat) (hl : l.length ≤ 9223372036854775807) (h1 : w.ownsRow 0 9 1 (.slice a1 l.length c1) l.length (l.map sV2)) (h2 : w.ownsRow 0 9 1 (.slice a2 l.length c2) l.length (l.map sV2)) :
    Calls Tryz.prog 8 #[.slice a1 l.length c1, .slice a2 l.length c2] w fun e w' => e = .returned (.bool true) ∧ Kept (fun _ => False) w w' := by
  by_cases hne : l = []
  · subst hne
    refine (Tryz.slices_Equal_string_empty a1 a2 c1 0 c2 w (by decide)).mono ?_
    rintro e w' ⟨rfl, rfl⟩
    exact ⟨rfl, Kept.refl _ _⟩
  · obtain ⟨g1, o1, rfl, hc1⟩ := strs_cells hne h1
    obtain ⟨g2, o2, rfl, hc2⟩ := strs_cells hne h2
    refine (Tryz.slices_Equal_string g1 o1 l.length c1 g2 o2 l.length c2 (l.map BA) (l.map BA) w (by simp) (by simp) hl hl hc1 hc2).mono ?_
    rintro e w' ⟨rfl, q, rfl⟩
    exact ⟨by rw [decide_eq_true rfl], kept_drewN' _ _⟩
theorem extr_min (l : List UInt8) (k : Nat) : (BA l).extract 0 (min l.length k) = BA (l.take (min l.length k)) := by rw [BA_extract, List.drop_zero]
/-- The loop over the names. -/
structure WInv (w wx : World) (x : List (List UInt8)) (xb bm k : Nat) (v : Value) : Prop where
  map : SMap w wx Tryz.prog 9 bm k (vOfT ((varW x).take k).reverse)
  row : ∃ ad cap, v = .slice ad k cap ∧ wx.ownsRow 0 28 2 v k (((varW x).take k).flatMap vrC)
  blks : ∀ j, blk v j → bm < j
  box : wx.heap[xb]? = some (.cells #[.string (BA (xsW x 0)), .string (BA (xsW x 1)), .string (BA (xsW x 2))] 22 (0, 0))
theorem WInv.keep {w wx wy : World} {x : List (List UInt8)} {xb bm k : Nat} {v : Value} (h : WInv w wx x xb bm k v) (kk : Kept (fun _ => False) wx wy) : WInv w wy x xb bm k v := by
  obtain ⟨ad, cap, e, ho⟩ := h.row
  exact ⟨h.map.keep kk, ⟨ad, cap, e, own_kept kk ho (fun _ _ h => h)⟩, h.blks, kk.heap h.box (fun h => h)⟩
set_option maxHeartbeats 16000000 in
theorem works_any (B : Nat) (w : World) (dv : Value) (hD : DEnv B dv w) (s x0 x1 x2 : List UInt8) (hs : s.length ≤ maxLen) (h0 : x0.length ≤ maxLen) (h1 : x1.length ≤ maxLen) (h2 : x2.length ≤ maxLen) :
    Calls Tryz.prog 3 #[.string (BA s), .agg #[.string (BA x0), .string (BA x1), .string (BA x2)]] w fun e w' => e = .returned (.bool true) ∧ Kept (fun _ => False) w w' := by
  have HE : Hid (∀ wx, Kept (fun _ => False) w wx → DEnv B dv wx) := Lw.hid (fun wx k => hD.kept k (fun _ h => h.elim))
  have hsz := BA_size s
  have hmm := @run_makeMap Tryz.prog
  obtain ⟨m, hm⟩ : ∃ m, min s.length 120 = m := ⟨_, rfl⟩
  have hmin : min (s.length : Int) 120 = (m : Int) := by omega
  have hmz : 0 ≤ m ∧ m ≤ s.length ∧ m ≤ 120 := by omega
  have hext : (BA s).extract 0 m = BA (s.take m) := BA_head s m
  have hT : (s.take m).length ≤ 120 := by rw [List.length_take]; omega
  obtain ⟨T, hTT⟩ : ∃ T, s.take m = T := ⟨_, rfl⟩
  rw [hTT] at hext hT
  have HX9 : Hid (∀ k, (xsW [x0, x1, x2] k).length ≤ maxLen) := Lw.hid (fun k => by
    have h : k = 0 ∨ k = 1 ∨ k = 2 ∨ 3 ≤ k := by omega
    rcases h with rfl | rfl | rfl | h
    · exact h0
    · exact h1
    · exact h2
    · unfold xsW
      rw [List.getD_eq_getElem?_getD, List.getElem?_eq_none (by simpa using h)]
      exact Nat.zero_le _)
  have hsm : s.length ≤ 9223372036854775807 := by unfold maxLen at hs; omega
  clear hD hm hTT h0 h1 h2 hs
  go_enter Tryz.func3, Tryz.ntmps3
  go_wp2_with fail
  obtain ⟨xb, hxb⟩ : ∃ b, w.heap.size = b := ⟨_, rfl⟩
  obtain ⟨w2, hw2⟩ : ∃ w2, w.alloc (.cells #[.string (BA x0), .string (BA x1), .string (BA x2)] 22) = w2 := ⟨_, rfl⟩
  have k2 : Kept (fun _ => False) w w2 := by rw [← hw2]; exact (Kept.refl _ _).alloc _
  have hb2 : w2.heap[xb]? = some (.cells #[.string (BA x0), .string (BA x1), .string (BA x2)] 22 (0, 0)) := by rw [← hw2, ← hxb]; exact heap_alloc w _
  have hz2 : w2.heap.size = xb + 1 := by rw [← hw2, ← hxb]; simp
  obtain ⟨w3, hw3⟩ : ∃ w3, w2.alloc (.map #[] 0) = w3 := ⟨_, rfl⟩
  have hI : WInv w w3 [x0, x1, x2] xb (xb + 1) 0 (.slice none 0 0) := by
    refine ⟨?_, ⟨none, 0, rfl, World.ownsRow_nil _ _ _ _⟩, fun j hj => (blk_none hj).elim, ?_⟩
    · rw [← hw3, ← hz2]; exact SMap.made w w2 Tryz.prog 9 k2
    · rw [← hw3]; exact ((Kept.refl (fun _ => False) w2).alloc _).heap hb2 (fun h => h)
  have HI := Lw.hid hI
  have HW3 : Hid ((w.alloc (.cells #[.string (BA x0), .string (BA x1), .string (BA x2)] 22)).alloc (.map #[] 0) = w3) := Lw.hid (by rw [hw2, hw3])
  have hxw : w.heap.size = xb := hxb
  first | rw [hxb] | skip
  clear hI k2 hb2 hz2 hw2 hw3 hxb
  go_loopg [6, 24] 3 (fun gk s6 s24 wx => ∃ k : Nat, gk = 3 - k ∧ k ≤ 3 ∧ s24 = .int .i64 (k : Int) ∧ WInv w wx [x0, x1, x2] xb (xb + 1) k s6)
  case atStart => exact ⟨0, rfl, Nat.zero_le _, rfl, by rw [HW3.out]; exact HI.out⟩
  case round =>
    obtain ⟨k, rfl, hk, rfl, hinv⟩ := hrel
    have HW := Lw.hid hinv
    clear hinv HI
    obtain ⟨ad, cap, hv, hown⟩ := HW.out.row
    subst hv
    have HOWN := Lw.hid hown
    clear hown
    by_cases hlt : k < 3
    · have hidx := nm_index k hlt
      have hcell := xs_cell HW.out.box k hlt
      rw [show ([xsW [x0, x1, x2] 0, xsW [x0, x1, x2] 1, xsW [x0, x1, x2] 2] : List (List UInt8)) = [x0, x1, x2] from rfl] at hcell
      obtain ⟨X, hX⟩ : ∃ X, xsW [x0, x1, x2] k = X := ⟨_, rfl⟩
      have hXl : X.length ≤ maxLen := by rw [← hX]; exact HX9.out k
      have hXl2 : X.length ≤ 9223372036854775807 := by unfold maxLen at hXl; omega
      obtain ⟨q, hq⟩ : ∃ q, min X.length 25 = q := ⟨_, rfl⟩
      have HTX : Hid (txW [x0, x1, x2] k = X.take q) := Lw.hid (by unfold txW; rw [hX, hq])
      obtain ⟨nm, hnm⟩ : ∃ n, nmW k = n := ⟨_, rfl⟩
      have HNMK := Lw.hid hnm
      have hnl : nm.length = 1 := by rw [← hnm]; exact nmW_len k hlt
      rw [hX] at hcell
      rw [hnm] at hidx
      have hmin2 : min (X.length : Int) 25 = (q : Int) := by omega
      have hqz : 0 ≤ q ∧ q ≤ X.length ∧ q ≤ 25 := by omega
      have hext2 : (BA X).extract 0 q = BA (X.take q) := BA_head X q
      obtain ⟨tx, htx⟩ : ∃ t, X.take q = t := ⟨_, rfl⟩
      rw [htx] at hext2 HTX
      have htl : tx.length ≤ 25 := by rw [← htx, List.length_take]; omega
      have hXz := BA_size X
      clear hX hq hnm htx hXl hmin
      go_wp2_with fail
      go_quiet (fail)
      obtain ⟨wq, hwq⟩ : ∃ wq, wr.drewN nq = wq := ⟨_, rfl⟩
      have KQ : Kept (fun _ => False) wr wq := by rw [← hwq]; exact kept_drewN' _ _
      have HWQ := Lw.hid (HW.out.keep KQ)
      have HOWNQ := Lw.hid (own_kept KQ HOWN.out (fun _ _ h => h))
      rw [hwq]
      clear hwq KQ hcell
      go_wp2_with (first
        | (refine wpList_insert_lit rfl _ _ _ 23 (.inr rfl) 9 26 Tryz.underlying9 Tryz.underlying23 _ _ _ rfl HWQ.out.map (by unfold maxLen; omega) _ rfl (by unfold maxLen; omega) _ rfl ?_; intro w5 hm5 hg5; have HM5 := Lw.hid hm5; have HG5 := Lw.hid hg5
           have K5 : Hid (Kept (fun i => i = xb + 1) wq w5) := Lw.hid ((Kept.refl _ wq).grown hg5 (fun i hi hl => by cases hi; rfl))
           have HO5 : Hid (w5.ownsRow 0 28 2 (.slice ad k cap) k (((varW [x0, x1, x2]).take k).flatMap vrC)) := Lw.hid (own_kept K5.out HOWNQ.out (fun g hg hs => by have := HWQ.out.blks g hg; omega))
           have HO3 : Hid ((w5.alloc (.cells #[.string (BA nm), .string (BA tx)] 28)).ownsRow 0 28 2 (.slice ad k cap) k (((varW [x0, x1, x2]).take k).flatMap vrC)) := Lw.hid (own_kept ((Kept.refl (fun _ => False) w5).alloc _) HO5.out (fun _ _ h => h))
           have HR3 : Hid (Rd (w5.alloc (.cells #[.string (BA nm), .string (BA tx)] 28)) 2 (.slice (some ⟨w5.heap.size, 0, none⟩) 1 1) 1 [.string (BA nm), .string (BA tx)]) := Lw.hid (Rd.lit _ [.string (BA nm), .string (BA tx)] 28 2 w5.heap.size 1 (by simp) rfl (by decide))
           have HONE : Hid (∀ u ∈ ([.string (BA nm), .string (BA tx)] : List Value), u.oneCell' = true) := Lw.hid (fun u hu => by
             simp only [List.mem_cons, List.not_mem_nil, or_false] at hu
             rcases hu with rfl | rfl <;> rfl)
           clear hm5 hg5)
        | (at_builtin; refine wpList_app rfl _ _ _ rfl EVar _ k _ rfl HO3.out _ 1 _ rfl HR3.out HONE.out (by unfold maxLen; omega) (by omega) ?_; intro ad' cap' w6 ho6 hg6 hf6; have HO6 := Lw.hid ho6; have HG6 := Lw.hid hg6; have HF6 := Lw.hid hf6; clear ho6 hg6 hf6))
      go_roundg (3 - (k + 1))
      case measure => omega
      case rel =>
        have hblt := HM5.out.lt
        have hxw2 := HM5.out.kept.size
        refine ⟨k + 1, rfl, by omega, by first | rfl | go_num, ⟨?_, ⟨ad', cap', rfl, ?_⟩, ?_, ?_⟩⟩
        · rw [varW_take _ _ hlt, List.reverse_append, HNMK.out, HTX.out]
          refine (HM5.out.keep ((Kept.refl _ _).alloc _)).grown HG6.out (fun i hi => ?_) (fun e => ?_)
          · have h1 := HWQ.out.blks i hi; omega
          · have h1 := HWQ.out.blks (xb + 1) e.symm; omega
        · rw [varW_take _ _ hlt, List.flatMap_append, HNMK.out, HTX.out]
          simpa [vrC] using HO6.out
        · intro j hj
          rcases HF6.out j hj with h | h
          · exact HWQ.out.blks j h
          · have : (w5.alloc (.cells #[.string (BA nm), .string (BA tx)] 28)).heap.size = w5.heap.size + 1 := by simp
            omega
        · have hb5 := K5.out.heap HWQ.out.box (by omega)
          have hb6 := ((Kept.refl (fun _ => False) w5).alloc (.cells #[.string (BA nm), .string (BA tx)] 28)).heap hb5 (fun h => h)
          exact ((Kept.refl (fun i => xb + 1 < i) _).grown HG6.out (fun i hi hl => HWQ.out.blks i hi)).heap hb6 (by omega)
    · obtain rfl : k = 3 := by omega
      have hmap := HW.out.map
      have hk3 : (varW [x0, x1, x2]).take 3 = varW [x0, x1, x2] := rfl
      rw [hk3] at hmap
      have HKW := Lw.hid hmap.kept
      have hlkE := look_map hmap (envOf (varW [x0, x1, x2]).reverse) (envOf_at _)
      have henv : (envOf (varW [x0, x1, x2]).reverse) = envV (varW [x0, x1, x2]) := funext fun z => (env_same _ z).symm
      rw [henv] at hlkE
      have hVl : ∀ p ∈ varW [x0, x1, x2], p.1.length ≤ 1000 ∧ p.2.length ≤ 1000 := by
        intro p hp
        simp only [varW, List.mem_cons, List.not_mem_nil, or_false] at hp
        rcases hp with rfl | rfl | rfl
        · exact ⟨by show (1 : Nat) ≤ 1000; decide, by have := txW_len [x0, x1, x2] 0; simp only; omega⟩
        · exact ⟨by show (1 : Nat) ≤ 1000; decide, by have := txW_len [x0, x1, x2] 1; simp only; omega⟩
        · exact ⟨by show (1 : Nat) ≤ 1000; decide, by have := txW_len [x0, x1, x2] 2; simp only; omega⟩
      have HEV := Lw.hid (lawE_any B wr T (some (xb + 1)) dv (envV (varW [x0, x1, x2])) (HE.out wr HKW.out) (by omega) (fun z => by have := envV_len hVl z; omega) hlkE)
      have HREF := Lw.hid (fun wx (kk : Kept (fun _ => False) wr wx) => eval23_any wx T (varW [x0, x1, x2]) (.slice ad 3 cap) (by omega) ((Rd.own (own_kept kk HOWN.out (fun _ _ h => h)))) (fun j hj => own_lt (own_kept kk HOWN.out (fun _ _ h => h)) j hj) (by show (3 : Nat) ≤ 1000; decide) hVl)
      obtain ⟨⟨av, ae, al⟩, hA⟩ : ∃ A, evalF (envV (varW [x0, x1, x2])) T = A := ⟨_, rfl⟩
      rw [hA] at HEV
      unfold RefPost at HREF
      rw [hA] at HREF
      clear hmap hk3 hlkE henv hVl hA hmin
      go_wp2_with fail
      refine HEV.out.mono ?_
      rintro x w6 ⟨⟨sl, rfl, ⟨ada, capa, rfl, hoa, hba⟩⟩, k6⟩
      have K6 := Lw.hid k6; have HOA := Lw.hid hoa
      clear k6 hoa hba HEV
      go_wp2_with fail
      refine (HREF.out w6 K6.out).mono ?_
      rintro x w7 ⟨⟨adb, capb, rfl, hob⟩, k7⟩
      have K7 := Lw.hid (K6.out.trans k7 (fun _ _ h => h))
      have HOA7 := Lw.hid (own_kept k7 HOA.out (fun _ _ h => h))
      have HOB7 := Lw.hid hob
      clear k7 hob
      have hall : al.length ≤ 9223372036854775807 := by
        obtain ⟨_, _, c, _, q1, q2, _⟩ := Rd.own HOA7.out
        unfold maxLen at q2
        omega
      have HRT := Lw.hid (right_any B w7 T (HE.out w7 (HKW.out.trans K7.out (fun _ _ h => h))).ae (by omega))
      go_wp2_with fail
      refine HRT.out.mono ?_
      rintro x w8 ⟨rfl, k8⟩
      have K8 := Lw.hid (K7.out.trans k8 (fun _ _ h => h))
      have HEQ := Lw.hid (equal_same w8 al ada adb capa capb hall (own_kept k8 HOA7.out (fun _ _ h => h)) (own_kept k8 HOB7.out (fun _ _ h => h)))
      clear k8 HRT
      go_wp2_with fail
      refine HEQ.out.mono ?_
      rintro x w9 ⟨rfl, k9⟩
      have K9 := Lw.hid (HKW.out.trans (K8.out.trans k9 (fun _ _ h => h)) (fun _ _ h => h))
      clear k9 HEQ
      go_wp2_with fail
      refine (wakes_any B w9 dv (HE.out w9 K9.out)).mono ?_
      rintro x wa ⟨rfl, ka⟩
      have KA := Lw.hid (K9.out.trans ka (fun _ _ h => h))
      clear ka
      go_wp2_with fail
      go_ret
      exact ⟨rfl, KA.out⟩
theorem works_below (B : Nat) (w : World) (dv : Value) (hD : DEnv B dv w) (s x0 x1 x2 : List UInt8) (hs : s.length ≤ maxLen) (h0 : x0.length ≤ maxLen) (h1 : x1.length ≤ maxLen) (h2 : x2.length ≤ maxLen) :
    Calls Tryz.prog 3 #[.string (BA s), .agg #[.string (BA x0), .string (BA x1), .string (BA x2)]] w fun e w' => e = .returned (.bool true) ∧ Below w.heap.size w w' :=
  (works_any B w dv hD s x0 x1 x2 hs h0 h1 h2).mono fun _ _ h => ⟨h.1, Below.of_kept h.2⟩
theorem works_str (B : Nat) (w : World) (dv : Value) (hD : DEnv B dv w) (s : ByteArray) (x0 x1 x2 : List UInt8) (hs : s.size ≤ maxLen) (h0 : x0.length ≤ maxLen) (h1 : x1.length ≤ maxLen) (h2 : x2.length ≤ maxLen) :
    Calls Tryz.prog 3 #[.string s, .agg #[.string (BA x0), .string (BA x1), .string (BA x2)]] w fun e w' => e = .returned (.bool true) ∧ Below w.heap.size w w' := by
  have e := BA_of s
  have hl : s.data.toList.length ≤ maxLen := by rw [e, BA_size] at hs; exact hs
  rw [e]
  exact works_below B w dv hD _ x0 x1 x2 hl h0 h1 h2
end Go.Proofs.YtoedopgjonhemaaGreatDoor
