/- Chapter 13, the laws' own: made. -/
import Derived.Test.YtbmfnepbdfnlaaaRParse
import Derived.Laws.Bits64b
namespace Go.Proofs.Ytbmfnepbdfnlaaa
open Go Go.RowKit Go.Lw
set_option maxRecDepth 100000
set_option linter.unusedVariables false
set_option linter.unusedSimpArgs false
def hvOf (told : List Hv) (id : Nat) : Hv := { told.getD (id % told.length) ⟨0, 0, 0, false⟩ with id := id }
def bitAt (o id : Nat) : Bool := decide (o / 2 ^ id % 2 = 1)
def madeK (o : Nat) (told : List Hv) : Nat → List Hv
  | 0 => []
  | k + 1 => if (madeK o told k).length < 16 ∧ bitAt o (k + 1) = true then madeK o told k ++ [hvOf told (k + 1)] else madeK o told k
theorem madeK_succ (o : Nat) (told : List Hv) (k : Nat) : madeK o told (k + 1) = if (madeK o told k).length < 16 ∧ bitAt o (k + 1) = true then madeK o told k ++ [hvOf told (k + 1)] else madeK o told k := rfl
def madeL (n o : Nat) (told : List Hv) : List Hv := madeK o told (n % 60)
theorem madeK_ids (o : Nat) (told : List Hv) : ∀ k, ∀ h ∈ madeK o told k, 1 ≤ h.id ∧ h.id ≤ k
  | 0, h, hh => by simp [madeK] at hh
  | k + 1, h, hh => by
    unfold madeK at hh
    split at hh
    · rw [List.mem_append] at hh
      rcases hh with hh | hh
      · have := madeK_ids o told k h hh; omega
      · rw [List.mem_singleton] at hh; subst hh; simp [hvOf]
    · have := madeK_ids o told k h hh; omega
theorem madeK_len (o : Nat) (told : List Hv) : ∀ k, (madeK o told k).length ≤ 16
  | 0 => by simp [madeK]
  | k + 1 => by
    unfold madeK
    split
    · rename_i h; rw [List.length_append, List.length_singleton]; omega
    · exact madeK_len o told k
theorem madeK_lenk (o : Nat) (told : List Hv) : ∀ k, (madeK o told k).length ≤ k
  | 0 => by simp [madeK]
  | k + 1 => by
    have := madeK_lenk o told k
    unfold madeK
    split
    · rw [List.length_append, List.length_singleton]; omega
    · omega
theorem madeK_stop (o : Nat) (told : List Hv) {k : Nat} (h : ¬ (madeK o told k).length < 16) : ∀ n, k ≤ n → madeK o told n = madeK o told k
  | 0, hn => by
    obtain rfl : k = 0 := by omega
    rfl
  | n + 1, hn => by
    by_cases e : k = n + 1
    · subst e; rfl
    · have ih := madeK_stop o told h n (by omega)
      rw [madeK_succ, ih, if_neg (fun hh => h hh.1)]
theorem hv_ok (told : List Hv) (hok : ∀ h ∈ told, h.ok) (id : Nat) (hid : id < 4294967296) : (hvOf told id).ok := by
  have h0 : (told.getD (id % told.length) ⟨0, 0, 0, false⟩).ok := by
    rw [List.getD_eq_getElem?_getD]
    cases e : told[id % told.length]? with
    | none => exact ⟨by decide, by decide, by decide⟩
    | some x => exact hok x (List.mem_of_getElem? e)
  exact ⟨hid, h0.out, h0.er⟩
theorem madeK_ok (o : Nat) (told : List Hv) (hok : ∀ h ∈ told, h.ok) : ∀ k, k < 4294967296 → ∀ h ∈ madeK o told k, h.ok
  | 0, _, h, hh => by simp [madeK] at hh
  | k + 1, hk, h, hh => by
    unfold madeK at hh
    split at hh
    · rw [List.mem_append] at hh
      rcases hh with hh | hh
      · exact madeK_ok o told hok k (by omega) h hh
      · rw [List.mem_singleton] at hh; subst hh; exact hv_ok told hok _ hk
    · exact madeK_ok o told hok k (by omega) h hh
theorem mayL_snoc {nx : Nat} {h : Hv} (hn : h.id < nx) : ∀ {least : Nat} {l : List Hv}, mayL nx least l = true → (∀ x ∈ l, x.id < h.id) → least ≤ h.id → mayL nx least (l ++ [h]) = true
  | least, [], _, _, hl => by
    show mayL nx least [h] = true
    unfold mayL
    rw [if_neg (by omega)]; rfl
  | least, t :: l, hm, hx, hl => by
    show mayL nx least (t :: (l ++ [h])) = true
    unfold mayL at hm ⊢
    split at hm
    · cases hm
    · rename_i hc
      rw [if_neg hc]
      exact mayL_snoc hn hm (fun x h' => hx x (List.mem_cons_of_mem _ h')) (by have := hx t (List.mem_cons_self ..); omega)
theorem madeK_may (o : Nat) (told : List Hv) (nx : Nat) : ∀ k, k < nx → mayL nx 1 (madeK o told k) = true
  | 0, _ => rfl
  | k + 1, hk => by
    have ih := madeK_may o told nx k (by omega)
    have hi := madeK_ids o told k
    unfold madeK
    split
    · exact mayL_snoc (by simpa [hvOf] using hk) ih (fun x hx => by have := hi x hx; simp [hvOf]; omega) (by simp [hvOf])
    · exact ih
theorem made_may (n o : Nat) (told : List Hv) : mayF (1 + n % 60) (madeL n o told) = true := by
  unfold mayF madeL
  rw [madeK_may o told (1 + n % 60) (n % 60) (by omega)]
  have := madeK_len o told (n % 60)
  simp; omega
theorem bit_eq (o i : Nat) (ho : o < 18446744073709551616) : (bits .and .u64 ((o : Int) / 2 ^ i) 1 == 1) = bitAt o i := by
  have h1 : (o : Int) / 2 ^ i = ((o / 2 ^ i : Nat) : Int) := by push_cast; rfl
  have h2 : o / 2 ^ i < 18446744073709551616 := Nat.lt_of_le_of_lt (Nat.div_le_self _ _) ho
  have h3 := bits_and_u64_nat (o / 2 ^ i) 1 h2 (by decide)
  rw [h1, show (1 : Int) = ((1 : Nat) : Int) from rfl, h3, Nat.and_one_is_mod]
  unfold bitAt
  by_cases e : o / 2 ^ i % 2 = 1
  · simp [e]
  · have e0 : o / 2 ^ i % 2 = 0 := by omega
    simp [e0]
structure GAt (T E : TypeId) (w : World) (A : Nat) (nx : Nat) (v : Value) (L : List Hv) (wr : World) : Prop where
  k : Kept (fun _ => False) w wr
  res : wr.heap[w.heap.size]? = some (.cells #[u32v 0, .slice none 0 0] T (0, 0))
  lo : w.heap.size < A
  box : wr.heap[A]? = some (.cells #[u32v nx, v] T (0, 0))
  row : wr.ownsRow 0 E 4 v L.length (L.flatMap Hv.cells)
  fr : ∀ k, blk v k → A < k
theorem GAt.kept {T E : TypeId} {w wr w' : World} {A : Nat} {nx : Nat} {v : Value} {L : List Hv} (h : GAt T E w A nx v L wr) (k : Kept (fun _ => False) wr w') : GAt T E w A nx v L w' :=
  ⟨h.k.trans k (fun _ _ h => h), k.heap h.res (fun h => h), h.lo, k.heap h.box (fun h => h), own_kept k h.row (fun _ _ h => h), h.fr⟩
theorem GAt.grow {T E : TypeId} {w wr wx w5 : World} {A : Nat} {nx n' : Nat} {v v' : Value} {L M : List Hv} (h : GAt T E w A nx v L wr) (hk : Kept (fun _ => False) wr wx)
    (ho : w5.ownsRow 0 E 4 v' n' (L.flatMap Hv.cells ++ M.flatMap Hv.cells)) (hn : n' = L.length + M.length) (hg : wx.grownBy w5 v.ownBlock) (hf : Fresh wx v v') :
    w5.heap[A]? = some (.cells #[u32v nx, v] T (0, 0)) ∧ GAt T E w A nx v' (L ++ M) (w5.setCell ⟨A, 1, none⟩ v') := by
  subst hn
  have q1 := h.lo
  have kx : Kept (blk v) wr w5 := (hk.mono (fun _ _ h => h.elim)).grown hg (fun k e _ => e)
  have hA := kx.heap h.box (fun e => by have := h.fr _ e; omega)
  have k2 : Kept (fun k => k = A) w5 (w5.setCell ⟨A, 1, none⟩ v') := (Kept.refl (fun k => k = A) w5).set _ _ (fun _ => rfl) _
  have hlA := (Array.getElem?_eq_some_iff.1 h.box).1
  have hsz := hk.size
  have hv' : ∀ k, blk v' k → A < k := fun k hk' => by
    rcases hf k hk' with e | e
    · exact h.fr k e
    · omega
  refine ⟨hA, (h.k.trans kx (fun i hi e => by have := h.fr i e; have := h.k.size; omega)).trans k2 (fun i hi e => by have := h.k.size; have := (Array.getElem?_eq_some_iff.1 h.res).1; omega), k2.heap (kx.heap h.res (fun e => by have := h.fr _ e; omega)) (by omega), h.lo, heap_set hA 1 v', ?_, hv'⟩
  rw [List.length_append, List.flatMap_append]
  exact own_kept k2 ho (fun g hg e => by have := hv' g hg; omega)
theorem GAt.ask {T E : TypeId} {w wr : World} {A : Nat} {nx : Nat} {ad : Option Addr} {n cap : Nat} {L : List Hv} (h : GAt T E w A nx (.slice ad n cap) L wr) (hok : ∀ x ∈ L, x.ok) :
    AskPost nx L w (.returned (.agg #[u32v nx, .slice ad n cap])) ((wr.setCell ⟨w.heap.size, 0, none⟩ (u32v nx)).setCell ⟨w.heap.size, 1, none⟩ (.slice ad n cap)) := by
  have q1 := h.lo
  have k2 : Kept (fun k => k = w.heap.size) wr ((wr.setCell ⟨w.heap.size, 0, none⟩ (u32v nx)).setCell ⟨w.heap.size, 1, none⟩ (.slice ad n cap)) := ((Kept.refl (fun k => k = w.heap.size) wr).set _ _ (fun _ => rfl) _).set _ _ (fun _ => rfl) _
  exact ⟨_, rfl, ⟨(rdh_own h.row rfl hok).kept k2 (fun i hi e => by have := h.fr i hi; omega), fun k hk => ⟨by have := h.fr k hk; omega, Nat.lt_of_lt_of_le (own_lt h.row k hk) k2.size⟩⟩, h.k.trans k2 (fun i hi e => by omega)⟩
set_option maxHeartbeats 16000000 in
theorem made_any (w : World) (n o : Nat) (v : Value) (told : List Hv) (ht : RdH w v told) (hn : n < 256) (ho : o < 18446744073709551616) :
    Calls Try.prog 8 #[.int .u8 (n : Int), .int .u64 (o : Int), v] w (AskPost (1 + n % 60) (madeL n o told) w) := by
  obtain ⟨ad, cap, rfl, h1, h2, _⟩ := ht.shape
  have HT := Lw.hid ht
  obtain ⟨m, hm⟩ : ∃ m, told.length = m := ⟨_, rfl⟩
  have HM := Lw.hid hm
  rw [hm] at h1 HT ⊢
  unfold madeL
  obtain ⟨q, hq⟩ : ∃ q, n % 60 = q := ⟨_, rfl⟩
  have hq60 : q < 60 := by omega
  have HQ : Hid (∀ k, madeK o told k = madeK o told k) := Lw.hid (fun _ => rfl)
  have hrem : (n : Int) % 60 = (q : Int) := by omega
  rw [hq]
  clear ht hm hq HQ
  go_enter Try.func8, Try.ntmps8
  go_wp2_with fail
  clear hrem
  go_loopg [8] q (fun gk i wr => ∃ (k : Nat) (v : Value), gk = q - k ∧ k ≤ q ∧ i = .int .u32 ((1 + k : Nat) : Int) ∧ GAt 26 35 w (w.heap.size + 1) (1 + q) v (madeK o told k) wr)
  case atStart => exact ⟨0, _, rfl, Nat.zero_le _, rfl, ⟨((Kept.refl _ w).alloc _).alloc _, heap_alloc_lt (heap_at _ _ rfl), by omega, by have := heap_at (w.alloc (.cells #[u32v 0, .slice none 0 0] 26)) (.cells #[u32v (1 + q), .slice none 0 0] 26) (k := w.heap.size + 1) (by simp); exact this, World.ownsRow_nil _ _ _ _, fun g h => (blk_none h).elim⟩⟩
  case round =>
    obtain ⟨k, v, rfl, hk, rfl, hr⟩ := hrel
    obtain ⟨ad1, cap1, rfl, hc1, hc2, _⟩ := own_slice hr.row
    unfold maxLen at hc2
    have HR := Lw.hid hr
    have b0 := heap_cell hr.box 0; have b1 := heap_cell hr.box 1; have fb := heap_free hr.box 1
    have r0 := heap_cell hr.res 0; have r1 := heap_cell hr.res 1; have fr0 := heap_free hr.res 0; have fr1 := heap_free hr.res 1
    have hl16 := madeK_len o told k
    clear hr
    by_cases hlt : k < q
    · have z1 : decide (1 + k < 1 + q) = true := by simp; omega
      by_cases h16 : (madeK o told k).length < 16
      · have z2 : decide (((madeK o told k).length : Int) < 16) = true := by simp; omega
        have HS := Lw.hid (madeK_succ o told k)
        obtain ⟨L, hL⟩ : ∃ L, madeK o told k = L := ⟨_, rfl⟩
        rw [hL] at HS HR b1 h16 hl16 hc1 z2
        obtain ⟨c, hc⟩ : ∃ c, L.length = c := ⟨_, rfl⟩
        have HC := Lw.hid hc
        rw [hc] at HS HR b1 h16 hl16 hc1 z2
        clear hL hc
        have hbit := bit_eq o (1 + k) ho
        obtain ⟨bt, hbt⟩ : ∃ bt, bitAt o (1 + k) = bt := ⟨_, rfl⟩
        rw [show k + 1 = 1 + k by omega] at HS
        rw [hbt] at hbit HS
        clear hbt
        cases bt with
        | false =>
          have HS2 : Hid (madeK o told (1 + k) = L) := Lw.hid (by rw [HS.out, if_neg (by simp)])
          go_wp2_with fail
          go_roundg (q - (k + 1))
          case measure => omega
          case rel => exact ⟨k + 1, _, rfl, hlt, by go_num, by rw [show k + 1 = 1 + k by omega, HS2.out]; exact HR.out⟩
        | true =>
          have HS2 : Hid (madeK o told (1 + k) = L ++ [hvOf told (1 + k)]) := Lw.hid (by rw [HS.out, if_pos ⟨h16, rfl⟩])
          obtain ⟨n6, hn6⟩ : ∃ n6, wr.alloc (.cells #[.int .u32 0, .int .u32 0, .int .u32 0, .bool false] 35) = n6 := ⟨_, rfl⟩
          have HR6 : Hid (GAt 26 35 w (w.heap.size + 1) (1 + q) (.slice ad1 c cap1) L n6) := Lw.hid (by rw [← hn6]; exact HR.out.kept ((Kept.refl _ _).alloc _))
          have HX6 : Hid (n6.heap[wr.heap.size]? = some (.cells #[u32v 0, u32v 0, u32v 0, .bool false] 35 (0, 0))) := Lw.hid (by rw [← hn6]; exact heap_at _ _ rfl)
          have HS6 : Hid (w.heap.size + 1 < wr.heap.size ∧ ∀ g, blk (.slice ad1 c cap1) g → g < wr.heap.size) := Lw.hid ⟨(Array.getElem?_eq_some_iff.1 HR.out.box).1, fun g hg => own_lt HR.out.row g hg⟩
          have HN6 := Lw.hid hn6
          obtain ⟨hb, hhb⟩ : ∃ hb, wr.heap.size = hb := ⟨_, rfl⟩
          have HHB := Lw.hid hhb
          rw [hhb] at HX6 HS6
          clear hn6 hhb
          go_upto_region 7 with fail
          rw [HN6.out, HHB.out]
          clear b0 b1 fb hbit
          -- the h-box, whatever it holds, ends with what is had of the id
          have FIN : ∀ (n8 : World) (x2 x3 : Nat) (x4 : Bool), Kept (fun k => k = hb) n6 n8 → n8.heap[hb]? = some (.cells #[u32v (1 + k), u32v x2, u32v x3, .bool x4] 35 (0, 0)) → hvOf told (1 + k) = ⟨1 + k, x2, x3, x4⟩ → Hid (GAt 26 35 w (w.heap.size + 1) (1 + q) (.slice ad1 c cap1) L n8) := fun n8 x2 x3 x4 k8 _ _ => Lw.hid (by
            have h := HR6.out
            have q3 := HS6.out.1
            exact ⟨h.k.trans k8 (fun i hi e => by have := (Array.getElem?_eq_some_iff.1 HR.out.res).1; omega), k8.heap h.res (by omega), h.lo, k8.heap h.box (by omega), own_kept k8 h.row (fun g hg e => by have := HS6.out.2 g hg; omega), h.fr⟩)
          have FINH := Lw.hid FIN
          clear FIN
          have f0 := heap_free HX6.out 0; have f1 := heap_free HX6.out 1; have f2 := heap_free HX6.out 2; have f3 := heap_free HX6.out 3
          have y0 := heap_cell HX6.out 0; have y1 := heap_cell HX6.out 1; have y2 := heap_cell HX6.out 2; have y3 := heap_cell HX6.out 3
          have LAST : ∀ (n8 : World) (x2 x3 : Nat) (x4 : Bool), Kept (fun k => k = hb) n6 n8 → n8.heap[hb]? = some (.cells #[u32v (1 + k), u32v x2, u32v x3, .bool x4] 35 (0, 0)) → hvOf told (1 + k) = ⟨1 + k, x2, x3, x4⟩ → Hid (GAt 26 35 w (w.heap.size + 1) (1 + q) (.slice ad1 c cap1) L n8 ∧ n8.heap[hb]? = some (.cells #[u32v (1 + k), u32v x2, u32v x3, .bool x4] 35 (0, 0)) ∧ madeK o told (1 + k) = L ++ [⟨1 + k, x2, x3, x4⟩]) := fun n8 x2 x3 x4 k8 h8 he => Lw.hid ⟨(FINH.out n8 x2 x3 x4 k8 h8 he).out, h8, by rw [HS2.out, he]⟩
          have HLAST := Lw.hid LAST
          clear LAST FINH
          by_cases hm0 : 0 < m
          · have z3 : decide ((0 : Int) < (m : Int)) = true := by simp; omega
            obtain ⟨j, hj⟩ : ∃ j, (1 + k) % m = j := ⟨_, rfl⟩
            have hjm : j < m := by rw [← hj]; exact Nat.mod_lt _ hm0
            have hji : (1 + (k : Int)) % (m : Int) = (j : Int) := by rw [← hj]; push_cast; rfl
            have hjl : j < told.length := by rw [HM.out]; exact hjm
            obtain ⟨g, off, rfl, q0, q1, q2, q3⟩ := hv_at (HT.out.keptF HR6.out.k) hjl
            have HE : Hid (hvOf told (1 + k) = ⟨1 + k, told[j].out, told[j].er, told[j].st⟩) := Lw.hid (by
              unfold hvOf
              rw [HM.out, hj, List.getD_eq_getElem?_getD, List.getElem?_eq_getElem hjl]; rfl)
            obtain ⟨t, ht⟩ : ∃ t, told[j] = t := ⟨_, rfl⟩
            rw [ht] at q0 q1 q2 q3 HE
            have i0 : (0 : Int) ≤ (j : Int) := by omega
            have i1 : (j : Int) < (m : Int) := by omega
            clear ht hj
            go_upto_region 10 with fail
            obtain ⟨n8, hn8⟩ : ∃ n8, ((((n6.setCell ⟨hb, 0, none⟩ (u32v t.id)).setCell ⟨hb, 1, none⟩ (u32v t.out)).setCell ⟨hb, 2, none⟩ (u32v t.er)).setCell ⟨hb, 3, none⟩ (.bool t.st)).setCell ⟨hb, 0, none⟩ (.int .u32 (1 + (k : Int))) = n8 := ⟨_, rfl⟩
            have k68 : Kept (fun k => k = hb) n6 n8 := by rw [← hn8]; exact (((((Kept.refl (fun k => k = hb) n6).set _ _ (fun _ => rfl) _).set _ _ (fun _ => rfl) _).set _ _ (fun _ => rfl) _).set _ _ (fun _ => rfl) _).set _ _ (fun _ => rfl) _
            have h8 : n8.heap[hb]? = some (.cells #[u32v (1 + k), u32v t.out, u32v t.er, .bool t.st] 35 (0, 0)) := by rw [← hn8]; exact heap_set (heap_set (heap_set (heap_set (heap_set HX6.out 0 _) 1 _) 2 _) 3 _) 0 _
            have HL8 := Lw.hid (HLAST.out n8 t.out t.er t.st k68 h8 HE.out).out
            clear k68 h8
            rw [hn8]
            clear hn8 f0 f1 f2 f3 y0 y1 y2 y3
            have y0 := heap_cell HL8.out.2.1 0; have y1 := heap_cell HL8.out.2.1 1; have y2 := heap_cell HL8.out.2.1 2; have y3 := heap_cell HL8.out.2.1 3
            have b0 := heap_cell HL8.out.1.box 0; have b1 := heap_cell HL8.out.1.box 1; have fb := heap_free HL8.out.1.box 1
            have e1 : Hid ((n8.alloc (.cells ([u32v (1 + k), u32v t.out, u32v t.er, .bool t.st] : List Value).toArray 35)).ownsRow 0 35 4 (.slice ad1 c cap1) c (L.flatMap Hv.cells)) := Lw.hid (by
              have := own_kept ((Kept.refl (fun _ => False) n8).alloc (.cells ([u32v (1 + k), u32v t.out, u32v t.er, .bool t.st] : List Value).toArray 35)) HL8.out.1.row (fun _ _ h => h)
              rwa [HC.out] at this)
            go_wp2_with (at_builtin; refine wpList_app rfl _ _ _ rfl EHv _ c _ rfl e1.out _ 1 _ rfl (Rd.lit n8 [u32v (1 + k), u32v t.out, u32v t.er, .bool t.st] 35 4 n8.heap.size 1 rfl rfl (by decide)) (Hv.one ⟨1 + k, t.out, t.er, t.st⟩) (by unfold maxLen; omega) (by omega) ?_; intro ad' cap' n9 ho hg hf; obtain ⟨hb9, hr9⟩ := HL8.out.1.grow (M := [⟨1 + k, t.out, t.er, t.st⟩]) ((Kept.refl _ n8).alloc _) ho (by rw [HC.out]; rfl) hg hf; have HR9 := Lw.hid hr9; have j0 := heap_cell hb9 0; have j1 := heap_cell hb9 1; have fj := heap_free hb9 1; clear ho hg hf hr9 hb9)
            go_roundg (q - (k + 1))
            case measure => omega
            case rel => exact ⟨k + 1, _, rfl, hlt, by go_num, by rw [show k + 1 = 1 + k by omega, HL8.out.2.2]; exact HR9.out⟩
          · have z3 : decide ((0 : Int) < (m : Int)) = false := by simp; omega
            have HE : Hid (hvOf told (1 + k) = ⟨1 + k, 0, 0, false⟩) := Lw.hid (by
              unfold hvOf
              rw [List.getD_eq_getElem?_getD, List.getElem?_eq_none (by rw [HM.out]; omega)]; rfl)
            go_upto_region 10 with fail
            obtain ⟨n8, hn8⟩ : ∃ n8, n6.setCell ⟨hb, 0, none⟩ (.int .u32 (1 + (k : Int))) = n8 := ⟨_, rfl⟩
            have k68 : Kept (fun k => k = hb) n6 n8 := by rw [← hn8]; exact (Kept.refl (fun k => k = hb) n6).set _ _ (fun _ => rfl) _
            have h8 : n8.heap[hb]? = some (.cells #[u32v (1 + k), u32v 0, u32v 0, .bool false] 35 (0, 0)) := by rw [← hn8]; exact heap_set HX6.out 0 _
            have HL8 := Lw.hid (HLAST.out n8 0 0 false k68 h8 HE.out).out
            clear k68 h8
            rw [hn8]
            clear hn8 f0 f1 f2 f3 y0 y1 y2 y3
            have y0 := heap_cell HL8.out.2.1 0; have y1 := heap_cell HL8.out.2.1 1; have y2 := heap_cell HL8.out.2.1 2; have y3 := heap_cell HL8.out.2.1 3
            have b0 := heap_cell HL8.out.1.box 0; have b1 := heap_cell HL8.out.1.box 1; have fb := heap_free HL8.out.1.box 1
            have e1 : Hid ((n8.alloc (.cells ([u32v (1 + k), u32v 0, u32v 0, .bool false] : List Value).toArray 35)).ownsRow 0 35 4 (.slice ad1 c cap1) c (L.flatMap Hv.cells)) := Lw.hid (by
              have := own_kept ((Kept.refl (fun _ => False) n8).alloc (.cells ([u32v (1 + k), u32v 0, u32v 0, .bool false] : List Value).toArray 35)) HL8.out.1.row (fun _ _ h => h)
              rwa [HC.out] at this)
            go_wp2_with (at_builtin; refine wpList_app rfl _ _ _ rfl EHv _ c _ rfl e1.out _ 1 _ rfl (Rd.lit n8 [u32v (1 + k), u32v 0, u32v 0, .bool false] 35 4 n8.heap.size 1 rfl rfl (by decide)) (Hv.one ⟨1 + k, 0, 0, false⟩) (by unfold maxLen; omega) (by omega) ?_; intro ad' cap' n9 ho hg hf; obtain ⟨hb9, hr9⟩ := HL8.out.1.grow (M := [⟨1 + k, 0, 0, false⟩]) ((Kept.refl _ n8).alloc _) ho (by rw [HC.out]; rfl) hg hf; have HR9 := Lw.hid hr9; have j0 := heap_cell hb9 0; have j1 := heap_cell hb9 1; have fj := heap_free hb9 1; clear ho hg hf hr9 hb9)
            go_roundg (q - (k + 1))
            case measure => omega
            case rel => exact ⟨k + 1, _, rfl, hlt, by go_num, by rw [show k + 1 = 1 + k by omega, HL8.out.2.2]; exact HR9.out⟩
      · have z2 : decide (((madeK o told k).length : Int) < 16) = false := by simp; omega
        have HST := Lw.hid (madeK_stop o told h16 q hk)
        have HFIN := Lw.hid (HR.out.ask (madeK_ok o told HT.out.2 k (by omega)))
        obtain ⟨L, hL⟩ : ∃ L, madeK o told k = L := ⟨_, rfl⟩
        rw [hL] at HR b1 hc1 z2 HFIN HST
        obtain ⟨c, hc⟩ : ∃ c, L.length = c := ⟨_, rfl⟩
        rw [hc] at HR b1 hc1 z2 HFIN
        obtain ⟨z3, z4, z5⟩ := cell2 (a := .int .u32 (1 + (q : Int))) (b := .slice ad1 c cap1) HR.out.res
        have HZ3 := Lw.hid z3; have HZ4 := Lw.hid z4; have HZ5 := Lw.hid z5
        clear hL hc h16 hl16 z3 z4 z5
        go_wp2_with fail
        rw [HST.out]
        exact bodyPost_ret (v := .agg #[.int .u32 (1 + (q : Int)), .slice ad1 c cap1]) (by simp [results, Try.results8, go_sem, HZ3.out, HZ4.out, HZ5.out]) rfl (by have h := HFIN.out; rw [show u32v (1 + q) = .int .u32 (1 + (q : Int)) by simp [u32v]] at h; exact h)
    · obtain rfl : k = q := by omega
      have z1 : decide (1 + k < 1 + k) = false := by simp
      have HFIN := Lw.hid (HR.out.ask (madeK_ok o told HT.out.2 k (by omega)))
      obtain ⟨L, hL⟩ : ∃ L, madeK o told k = L := ⟨_, rfl⟩
      rw [hL] at HR b1 hc1 HFIN
      obtain ⟨c, hc⟩ : ∃ c, L.length = c := ⟨_, rfl⟩
      rw [hc] at HR b1 hc1 HFIN
      obtain ⟨z3, z4, z5⟩ := cell2 (a := .int .u32 (1 + (k : Int))) (b := .slice ad1 c cap1) HR.out.res
      have HZ3 := Lw.hid z3; have HZ4 := Lw.hid z4; have HZ5 := Lw.hid z5
      have HLL := Lw.hid hL
      clear hL hc hl16 z3 z4 z5
      go_wp2_with fail
      rw [HLL.out]
      exact bodyPost_ret (v := .agg #[.int .u32 (1 + (k : Int)), .slice ad1 c cap1]) (by simp [results, Try.results8, go_sem, HZ3.out, HZ4.out, HZ5.out]) rfl (by have h := HFIN.out; rw [show u32v (1 + k) = .int .u32 (1 + (k : Int)) by simp [u32v]] at h; exact h)
end Go.Proofs.Ytbmfnepbdfnlaaa
