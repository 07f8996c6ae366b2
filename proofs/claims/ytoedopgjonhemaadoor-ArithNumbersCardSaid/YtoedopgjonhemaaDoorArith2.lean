/- arith's nodes in memory; numbers; down. -/
import Derived.Test.YtoedopgjonhemaaDoorArith1
import Derived.Test.YtoedopgjonhemaaDoorSoftTail
namespace Go.Proofs.YtoedopgjonhemaaDoor
open Go Go.RowKit Go.Lw
set_option maxRecDepth 100000
set_option linter.unusedVariables false
set_option linter.unusedSimpArgs false
attribute [local go_sem] BA_toList
/-- An expression in memory, in blocks of F. -/
inductive NAt (w : World) (F : Nat → Prop) : Value → Ex → Prop
  | num (b : Nat) (n : Int) : w.heap[b]? = some (.cells #[.string ⟨#[]⟩, .string ⟨#[]⟩, .int .i64 n, .slice none 0 0] 89 (0, 0)) → F b → NAt w F (.pointer (some ⟨b, 0, none⟩)) (.num n)
  | name (b : Nat) (s : List UInt8) : s ≠ [] → w.heap[b]? = some (.cells #[.string ⟨#[]⟩, .string (BA s), .int .i64 0, .slice none 0 0] 89 (0, 0)) → F b → NAt w F (.pointer (some ⟨b, 0, none⟩)) (.name s)
  | un (b k : Nat) (g : List UInt8) (p : Value) (a : Ex) : g ∈ aheadL → w.heap[b]? = some (.cells #[.string (BA g), .string ⟨#[]⟩, .int .i64 0, .slice (some ⟨k, 0, none⟩) 1 1] 89 (0, 0)) → w.heap[k]? = some (.cells #[p] 63 (0, 0)) → F b → F k → NAt w F p a → NAt w F (.pointer (some ⟨b, 0, none⟩)) (.un g a)
  | bin (b k : Nat) (g : List UInt8) (p q : Value) (x y : Ex) : (∃ j, j < 10 ∧ g ∈ rowsL.getD j []) → w.heap[b]? = some (.cells #[.string (BA g), .string ⟨#[]⟩, .int .i64 0, .slice (some ⟨k, 0, none⟩) 2 2] 89 (0, 0)) → w.heap[k]? = some (.cells #[p, q] 63 (0, 0)) → F b → F k → NAt w F p x → NAt w F q y → NAt w F (.pointer (some ⟨b, 0, none⟩)) (.bin g x y)
  | cond (b k : Nat) (p q r : Value) (x y z : Ex) : w.heap[b]? = some (.cells #[.string ⟨#[63]⟩, .string ⟨#[]⟩, .int .i64 0, .slice (some ⟨k, 0, none⟩) 3 3] 89 (0, 0)) → w.heap[k]? = some (.cells #[p, q, r] 63 (0, 0)) → F b → F k → NAt w F p x → NAt w F q y → NAt w F r z → NAt w F (.pointer (some ⟨b, 0, none⟩)) (.cond x y z)
theorem NAt.kept {w w' : World} {S F : Nat → Prop} {v : Value} {x : Ex} (h : NAt w F v x) (k : Kept S w w') (hS : ∀ b, F b → ¬ S b) : NAt w' F v x := by
  induction h with
  | num b n h1 h2 => exact .num b n (k.heap h1 (hS b h2)) h2
  | name b s h0 h1 h2 => exact .name b s h0 (k.heap h1 (hS b h2)) h2
  | un b j g p a h0 h1 h2 h3 h4 _ ih => exact .un b j g p a h0 (k.heap h1 (hS b h3)) (k.heap h2 (hS j h4)) h3 h4 ih
  | bin b j g p q x y h0 h1 h2 h3 h4 _ _ i1 i2 => exact .bin b j g p q x y h0 (k.heap h1 (hS b h3)) (k.heap h2 (hS j h4)) h3 h4 i1 i2
  | cond b j p q r x y z h1 h2 h3 h4 _ _ _ i1 i2 i3 => exact .cond b j p q r x y z (k.heap h1 (hS b h3)) (k.heap h2 (hS j h4)) h3 h4 i1 i2 i3
theorem NAt.mono {w : World} {F G : Nat → Prop} {v : Value} {x : Ex} (h : NAt w F v x) (hF : ∀ b, b < w.heap.size → F b → G b) : NAt w G v x := by
  induction h with
  | num b n h1 h2 => exact .num b n h1 (hF b (heap_lt h1) h2)
  | name b s h0 h1 h2 => exact .name b s h0 h1 (hF b (heap_lt h1) h2)
  | un b j g p a h0 h1 h2 h3 h4 _ ih => exact .un b j g p a h0 h1 h2 (hF b (heap_lt h1) h3) (hF j (heap_lt h2) h4) ih
  | bin b j g p q x y h0 h1 h2 h3 h4 _ _ i1 i2 => exact .bin b j g p q x y h0 h1 h2 (hF b (heap_lt h1) h3) (hF j (heap_lt h2) h4) i1 i2
  | cond b j p q r x y z h1 h2 h3 h4 _ _ _ i1 i2 i3 => exact .cond b j p q r x y z h1 h2 (hF b (heap_lt h1) h3) (hF j (heap_lt h2) h4) i1 i2 i3
theorem NAt.ptr {w : World} {F : Nat → Prop} {v : Value} {x : Ex} (h : NAt w F v x) : ∃ b, v = .pointer (some ⟨b, 0, none⟩) ∧ b < w.heap.size := by
  cases h with
  | num b n h1 h2 => exact ⟨b, rfl, heap_lt h1⟩
  | name b s h0 h1 h2 => exact ⟨b, rfl, heap_lt h1⟩
  | un b j g p a h0 h1 => exact ⟨b, rfl, heap_lt h1⟩
  | bin b j g p q x y h0 h1 => exact ⟨b, rfl, heap_lt h1⟩
  | cond b j p q r x y z h1 => exact ⟨b, rfl, heap_lt h1⟩
/-- What a reading function tells. -/
def RdPost (lo g : Nat) (res : Rx) (d : Nat) (x : Ending) (w' : World) : Prop := match res with
  | .error e => e ≠ 0 ∧ (∃ a, x = .returned (.pointer (some a))) ∧ ∃ d' : Int, AR w' g [] d' (e : Int)
  | .ok y => ∃ p, x = .returned p ∧ NAt w' (fun b => lo ≤ b) p y.1 ∧ AR w' g y.2 (d : Int) 0
theorem rp_err {w' : World} {lo g d e : Nat} {res : Rx} {x : Ending} (h : res = .error e) (h0 : e ≠ 0) (hx : ∃ a, x = .returned (.pointer (some a))) (d' : Int) (ha : AR w' g [] d' (e : Int)) : RdPost lo g res d x w' := by
  subst h; exact ⟨h0, hx, d', ha⟩
theorem rp_ok {w' : World} {lo g d : Nat} {res : Rx} {x : Ending} {y : Ex} {s : List UInt8} {p : Value} (h : res = .ok (y, s)) (hx : x = .returned p) (hn : NAt w' (fun b => lo ≤ b) p y) (ha : AR w' g s (d : Int) 0) : RdPost lo g res d x w' := by
  subst h; exact ⟨p, hx, hn, ha⟩
/-- The same from an earlier place on. -/
theorem RdPost.back {lo lo' : Nat} {w' : World} {g d : Nat} {res : Rx} {x : Ending} (h : RdPost lo g res d x w') (hle : lo' ≤ lo) : RdPost lo' g res d x w' := by
  cases res with
  | error e => exact h
  | ok y =>
    obtain ⟨p, h1, h2, h3⟩ := h
    exact ⟨p, h1, h2.mono (fun b _ hb => Nat.le_trans hle hb), h3⟩
/-! Numbers. -/
theorem kept_bytesWorld (w : World) (e : TypeId) (s : ByteArray) : Kept (fun _ => False) w (Go.Lib.bytesWorld w e s) :=
  ⟨rfl, rfl, rfl, by rw [Go.Lib.bytesWorld_size]; omega, fun k hk _ => Go.Lib.bytesWorld_at_old w e s k hk⟩
theorem pint_ok (w : World) (s : List UInt8) (v : Int) (h : Lib.parseIntB 64 s = .ok v) (hs9 : s.length ≤ 1000000) :
    Calls Tryd.prog 55 #[.string (BA s), .int .i64 10, .int .i64 64] w fun x w' => x = .returned (.tuple #[.int .i64 v, .nilIface]) ∧ Kept (fun _ => False) w w' := by
  refine (Tryd.strconv_ParseInt_10_at64_ok (BA s) (by rw [BA_size]; omega) v h w).mono ?_
  rintro x w' ⟨rfl, hw⟩
  refine ⟨rfl, ?_⟩
  rcases hw with rfl | ⟨t, rfl⟩
  · exact Kept.refl _ _
  · exact kept_bytesWorld _ _ _
theorem pint_range (B : Nat) (w : World) (s : List UInt8) (hE : AEnv B w) (h : Lib.parseIntB 64 s = .range) (hs9 : s.length ≤ 1000000) :
    Calls Tryd.prog 55 #[.string (BA s), .int .i64 10, .int .i64 64] w fun x w' => (∃ n t p, x = .returned (.tuple #[.int .i64 n, .iface t p])) ∧ Kept (fun _ => False) w w' := by
  obtain ⟨te, pe, hv⟩ := hE.range
  refine (Tryd.strconv_ParseInt_10_at64_range (BA s) (by rw [BA_size]; omega) h (.iface te pe) w hv (.inr ⟨te, pe, rfl⟩)).mono ?_
  rintro x w' ⟨N, rfl, _, _, hb⟩
  exact ⟨⟨_, _, _, rfl⟩, (Kept.of_below hb).mono (fun k hk h => by omega)⟩
theorem parseM_digits (M : Nat) : ∀ (l : List UInt8) (acc : Nat), l.all digitB = true → (∃ u, Lib.parseUintM M acc l = .ok u) ∨ Lib.parseUintM M acc l = .range
  | [], acc, _ => .inl ⟨acc, rfl⟩
  | c :: r, acc, h => by
    rw [List.all_cons, Bool.and_eq_true] at h
    have hc : 48 ≤ c.toNat ∧ c.toNat ≤ 57 := by
      have := h.1
      unfold digitB at this
      simpa using this
    unfold Lib.parseUintM
    rw [if_pos hc]
    split
    · exact .inr rfl
    · split
      · exact .inr rfl
      · exact parseM_digits M r _ h.2
theorem parse_digits {l : List UInt8} (h : l.all digitB = true) (h0 : l ≠ []) : (∃ v, Lib.parseIntB 64 l = .ok v) ∨ Lib.parseIntB 64 l = .range := by
  cases l with
  | nil => exact absurd rfl h0
  | cons c r =>
    have hc : 48 ≤ c.toNat ∧ c.toNat ≤ 57 := by
      rw [List.all_cons, Bool.and_eq_true] at h
      have := h.1
      unfold digitB at this
      simpa using this
    have e1 : (if c.toNat = 43 ∨ c.toNat = 45 then r else c :: r) = c :: r := if_neg (by omega)
    unfold Lib.parseIntB Lib.parseUintB
    simp only
    rw [e1, if_neg (by simp)]
    have hm := parseM_digits (2 ^ 64 - 1) (c :: r) 0 h
    rcases hm with ⟨u, hx⟩ | hx
    · rw [hx]
      simp only
      split
      · simp
      · split <;> simp
    · rw [hx]; simp
theorem takeWhile_all (f : UInt8 → Bool) : ∀ l : List UInt8, (l.takeWhile f).all f = true
  | [] => rfl
  | c :: l => by
    rw [List.takeWhile_cons]
    split
    · rename_i h
      rw [List.all_cons, h, takeWhile_all f l]; rfl
    · rfl
set_option maxHeartbeats 8000000 in
/-- number. -/
theorem number_any (B : Nat) (w : World) (g : Nat) (s : List UInt8) (d : Nat) (hE : AEnv B w) (hg : B ≤ g) (h : AR w g s (d : Int) 0) (hs9 : s.length ≤ 1000000) (hd : s.takeWhile digitB ≠ []) :
    Calls Tryd.prog 73 #[.pointer (some ⟨g, 0, none⟩)] w fun x w' => RdPost w.heap.size g (numberF s) d x w' ∧ KG g w w' := by
  obtain ⟨⟨c0, c1, c2⟩, f0, f1, f2⟩ := h.cells
  have H := Lw.hid h; have HE := Lw.hid hE
  have HT := Lw.hid (trimD_any w s)
  have hns := parse_digits (takeWhile_all digitB s) hd
  obtain ⟨ds, hds⟩ : ∃ l, s.takeWhile digitB = l := ⟨_, rfl⟩
  obtain ⟨r, hr⟩ : ∃ l, s.dropWhile digitB = l := ⟨_, rfl⟩
  have hsp : s = ds ++ r := by rw [← hds, ← hr, List.takeWhile_append_dropWhile]
  have HNF : Hid (numberF s = match Lib.parseIntB 64 ds with | .ok v => .ok (.num v, r) | _ => .error 24) := Lw.hid (by unfold numberF; rw [hds, hr]; rfl)
  rw [hr] at HT
  rw [hds] at hns hd
  have hz := BA_size s; have hz2 := BA_size r
  obtain ⟨n, hn⟩ : ∃ n, s.length = n := ⟨_, rfl⟩
  obtain ⟨m, hm⟩ : ∃ m, r.length = m := ⟨_, rfl⟩
  obtain ⟨q, hq⟩ : ∃ q, ds.length = q := ⟨_, rfl⟩
  have hnm : n = q + m := by rw [← hn, ← hm, ← hq, hsp, List.length_append]
  have eH : (BA s).extract 0 q = BA ds := by rw [BA_head, hsp, ← hq, List.take_left]
  have HDL : Hid (ds.length ≤ 1000000) := Lw.hid (by omega)
  have e9 : (n : Int) - (m : Int) = (q : Int) := by omega
  have hqn : q ≤ n := by omega
  have hmn : m ≤ n := by omega
  rw [hn] at hz hs9
  rw [hm] at hz2
  have EH := Lw.hid eH; have HNM := Lw.hid hnm
  clear h hE hds hr hsp hn hm hq hd hnm
  refine Or.elim hns (fun hv => ?_) (fun hp => ?_)
  next =>
    obtain ⟨v, hp⟩ := hv
    have HP := Lw.hid (fun wx => pint_ok wx ds v hp HDL.out)
    rw [hp] at HNF
    clear hp hns
    go_enter Tryd.func73, Tryd.ntmps73
    go_wp2_with fail
    refine HT.out.mono ?_
    rintro x w1 ⟨rfl, k1⟩
    have H1 := H.out.kept k1 (fun h => h)
    obtain ⟨⟨x0, x1, x2⟩, z0, z1, z2⟩ := H1.cells
    have HA := Lw.hid H1; have HK := Lw.hid k1
    clear k1 H1 HT
    go_wp2_with fail
    refine wp_region_tail 19 [stV (.pointer (some ⟨g, 0, none⟩)), stV (.pointer (some ⟨g, 0, none⟩)), stV (.pointer (some ⟨g, 0, none⟩)), stV (.string (BA s)), stV (.pointer (some ⟨g, 0, none⟩)), stV (.pointer (some ⟨g, 0, none⟩)), stV (.pointer (some ⟨g, 0, none⟩)), stV (.string (BA s)), stV (.int .i64 (n : Int)), stV (.string (BA r)), stV (.int .i64 (m : Int)), stV (.int .i64 (q : Int)), stV (.string (BA ds)), stV (.tuple #[.int .i64 v, .nilIface]), stV (.tuple #[.int .i64 v, .nilIface]), stV (.int .i64 v), stV .nilIface, stV (.int .i64 v), stV .nilIface] (by kernel_rfl) (by kernel_rfl) ?_ ?_
    · -- each operation by itself
      refine ssteps_cons (fun a' w' hI hag hf K hK => ?_) ?_
      · have s0 := hag.same 0 (by decide)
        clear hag
        have HI := Lw.hid hI
        clear hI
        go_wp2_with fail
        exact hK _ _ HI.out (Kept.refl _ _) rfl
      refine ssteps_cons (fun a' w' hI hag hf K hK => ?_) ?_
      · obtain ⟨⟨_, h0, rfl⟩, -⟩ : SFacts _ _ a' w' [0] := hf
        clear hag
        have HI := Lw.hid hI
        clear hI
        go_wp2_with fail
        exact hK _ _ HI.out (Kept.refl _ _) rfl
      refine ssteps_cons (fun a' w' hI hag hf K hK => ?_) ?_
      · obtain ⟨⟨_, h1, rfl⟩, -⟩ : SFacts _ _ a' w' [1] := hf
        clear hag
        have HI := Lw.hid hI
        clear hI
        go_wp2_with fail
        exact hK _ _ HI.out (Kept.refl _ _) rfl
      refine ssteps_cons (fun a' w' hI hag hf K hK => ?_) ?_
      · obtain ⟨⟨_, h2, rfl⟩, -⟩ : SFacts _ _ a' w' [2] := hf
        clear hag
        have HI := Lw.hid hI
        have cc := hI.cell x0 (fun h => h)
        clear hI
        go_wp2_with fail
        exact hK _ _ HI.out (Kept.refl _ _) rfl
      refine ssteps_cons (fun a' w' hI hag hf K hK => ?_) ?_
      · have s0 := hag.same 0 (by decide)
        clear hag
        have HI := Lw.hid hI
        clear hI
        go_wp2_with fail
        exact hK _ _ HI.out (Kept.refl _ _) rfl
      refine ssteps_cons (fun a' w' hI hag hf K hK => ?_) ?_
      · obtain ⟨⟨_, h4, rfl⟩, -⟩ : SFacts _ _ a' w' [4] := hf
        clear hag
        have HI := Lw.hid hI
        clear hI
        go_wp2_with fail
        exact hK _ _ HI.out (Kept.refl _ _) rfl
      refine ssteps_cons (fun a' w' hI hag hf K hK => ?_) ?_
      · obtain ⟨⟨_, h5, rfl⟩, -⟩ : SFacts _ _ a' w' [5] := hf
        clear hag
        have HI := Lw.hid hI
        clear hI
        go_wp2_with fail
        exact hK _ _ HI.out (Kept.refl _ _) rfl
      refine ssteps_cons (fun a' w' hI hag hf K hK => ?_) ?_
      · obtain ⟨⟨_, h6, rfl⟩, -⟩ : SFacts _ _ a' w' [6] := hf
        clear hag
        have HI := Lw.hid hI
        have cc := hI.cell x0 (fun h => h)
        clear hI
        go_wp2_with fail
        exact hK _ _ HI.out (Kept.refl _ _) rfl
      refine ssteps_cons (fun a' w' hI hag hf K hK => ?_) ?_
      · obtain ⟨⟨_, h7, rfl⟩, -⟩ : SFacts _ _ a' w' [7] := hf
        clear hag
        have HI := Lw.hid hI
        clear hI
        go_wp2_with fail
        exact hK _ _ HI.out (Kept.refl _ _) rfl
      refine ssteps_cons (fun a' w' hI hag hf K hK => ?_) ?_
      · have s3 := hag.same 3 (by decide)
        clear hag
        have HI := Lw.hid hI
        clear hI
        go_wp2_with fail
        exact hK _ _ HI.out (Kept.refl _ _) rfl
      refine ssteps_cons (fun a' w' hI hag hf K hK => ?_) ?_
      · obtain ⟨⟨_, h9, rfl⟩, -⟩ : SFacts _ _ a' w' [9] := hf
        clear hag
        have HI := Lw.hid hI
        clear hI
        go_wp2_with fail
        exact hK _ _ HI.out (Kept.refl _ _) rfl
      refine ssteps_cons (fun a' w' hI hag hf K hK => ?_) ?_
      · obtain ⟨⟨_, h8, rfl⟩, ⟨_, h10, rfl⟩, -⟩ : SFacts _ _ a' w' [8, 10] := hf
        clear hag
        have HI := Lw.hid hI
        clear hI
        go_wp2_with fail
        exact hK _ _ HI.out (Kept.refl _ _) rfl
      refine ssteps_cons (fun a' w' hI hag hf K hK => ?_) ?_
      · obtain ⟨⟨_, h3, rfl⟩, ⟨_, h11, rfl⟩, -⟩ : SFacts _ _ a' w' [3, 11] := hf
        clear hag
        have HI := Lw.hid hI
        have i1 : (0 : Int) ≤ (q : Int) := by omega
        have i2 : (q : Int) ≤ (n : Int) := by omega
        clear hI
        go_wp2_with fail
        exact hK _ _ HI.out (Kept.refl _ _) rfl
      refine ssteps_cons (fun a' w' hI hag hf K hK => ?_) ?_
      · obtain ⟨⟨_, h12, rfl⟩, -⟩ : SFacts _ _ a' w' [12] := hf
        clear hag
        have HI := Lw.hid hI
        clear hI
        go_wp2_with fail
        refine (HP.out _).mono ?_
        rintro x w9 ⟨rfl, k9⟩
        have K9 := Lw.hid k9
        clear k9
        go_wp2_with fail
        exact hK _ _ (HI.out.trans K9.out (fun _ _ h => h)) K9.out rfl
      refine ssteps_cons (fun a' w' hI hag hf K hK => ?_) ?_
      · obtain ⟨⟨_, h13, rfl⟩, -⟩ : SFacts _ _ a' w' [13] := hf
        clear hag
        have HI := Lw.hid hI
        clear hI
        go_wp2_with fail
        exact hK _ _ HI.out (Kept.refl _ _) rfl
      refine ssteps_cons (fun a' w' hI hag hf K hK => ?_) ?_
      · obtain ⟨⟨_, h14, rfl⟩, -⟩ : SFacts _ _ a' w' [14] := hf
        clear hag
        have HI := Lw.hid hI
        clear hI
        go_wp2_with fail
        exact hK _ _ HI.out (Kept.refl _ _) rfl
      refine ssteps_cons (fun a' w' hI hag hf K hK => ?_) ?_
      · obtain ⟨⟨_, h14, rfl⟩, -⟩ : SFacts _ _ a' w' [14] := hf
        clear hag
        have HI := Lw.hid hI
        clear hI
        go_wp2_with fail
        exact hK _ _ HI.out (Kept.refl _ _) rfl
      refine ssteps_cons (fun a' w' hI hag hf K hK => ?_) ?_
      · obtain ⟨⟨_, h15, rfl⟩, -⟩ : SFacts _ _ a' w' [15, 13, 0, 1, 2, 3, 4, 5, 6, 7, 8, 9, 10, 11, 12, 14] := hf
        clear hag
        have HI := Lw.hid hI
        clear hI
        go_wp2_with fail
        exact hK _ _ HI.out (Kept.refl _ _) rfl
      refine ssteps_cons (fun a' w' hI hag hf K hK => ?_) ?_
      · obtain ⟨⟨_, h16, rfl⟩, -⟩ : SFacts _ _ a' w' [16, 17, 0, 1, 2, 3, 4, 5, 6, 7, 8, 9, 10, 11, 12, 13, 14, 15] := hf
        clear hag
        have HI := Lw.hid hI
        clear hI
        go_wp2_with fail
        exact hK _ _ HI.out (Kept.refl _ _) rfl
      exact trivial
    · intro vs w2 hI hvs
      have q0 : vs 0 = (.pointer (some ⟨g, 0, none⟩)) := hvs 0 _ _ rfl rfl
      have q1 : vs 1 = (.pointer (some ⟨g, 0, none⟩)) := hvs 1 _ _ rfl rfl
      have q2 : vs 2 = (.pointer (some ⟨g, 0, none⟩)) := hvs 2 _ _ rfl rfl
      have q3 : vs 3 = (.string (BA s)) := hvs 3 _ _ rfl rfl
      have q4 : vs 4 = (.pointer (some ⟨g, 0, none⟩)) := hvs 4 _ _ rfl rfl
      have q5 : vs 5 = (.pointer (some ⟨g, 0, none⟩)) := hvs 5 _ _ rfl rfl
      have q6 : vs 6 = (.pointer (some ⟨g, 0, none⟩)) := hvs 6 _ _ rfl rfl
      have q7 : vs 7 = (.string (BA s)) := hvs 7 _ _ rfl rfl
      have q8 : vs 8 = (.int .i64 (n : Int)) := hvs 8 _ _ rfl rfl
      have q9 : vs 9 = (.string (BA r)) := hvs 9 _ _ rfl rfl
      have q10 : vs 10 = (.int .i64 (m : Int)) := hvs 10 _ _ rfl rfl
      have q11 : vs 11 = (.int .i64 (q : Int)) := hvs 11 _ _ rfl rfl
      have q12 : vs 12 = (.string (BA ds)) := hvs 12 _ _ rfl rfl
      have q13 : vs 13 = (.tuple #[.int .i64 v, .nilIface]) := hvs 13 _ _ rfl rfl
      have q14 : vs 14 = (.tuple #[.int .i64 v, .nilIface]) := hvs 14 _ _ rfl rfl
      have q15 : vs 15 = (.int .i64 v) := hvs 15 _ _ rfl rfl
      have q16 : vs 16 = .nilIface := hvs 16 _ _ rfl rfl
      have q17 : vs 17 = (.int .i64 v) := hvs 17 _ _ rfl rfl
      have q18 : vs 18 = .nilIface := hvs 18 _ _ rfl rfl
      clear hvs
      simp only [List.take_succ_cons, List.take_zero, List.drop_succ_cons, List.drop_zero, putAll, Act.put, List.setIfInBounds_toArray, List.set_cons_zero, List.set_cons_succ, Nat.reduceAdd, q0, q1, q2, q3, q4, q5, q6, q7, q8, q9, q10, q11, q12, q13, q14, q15, q16, q17, q18]
      clear q0 q1 q2 q3 q4 q5 q6 q7 q8 q9 q10 q11 q12 q13 q14 q15 q16 q17 q18
      simp only [wpList]
      have HN : Hid (AR w2 g s (d : Int) 0) := Lw.hid (HA.out.kept hI (fun h => h))
      obtain ⟨⟨y0, y1, y2⟩, u0, u1, u2⟩ := HN.out.cells
      have HK2 := Lw.hid (HK.out.trans hI (fun _ _ h => h))
      clear hI
      go_wp2_with fail
      go_ret
      have hk3 : KG g w ((w2.setCell ⟨g, 0, none⟩ (.string (BA r))).alloc (.cells #[.string ⟨#[]⟩, .string ⟨#[]⟩, .int .i64 v, .slice none 0 0] 89)) := ((KG.of HK2.out).set 0 _).alloc _
      have hal := heap_alloc (w2.setCell ⟨g, 0, none⟩ (.string (BA r))) (.cells #[.string ⟨#[]⟩, .string ⟨#[]⟩, .int .i64 v, .slice none 0 0] 89)
      rw [World.size_setCell] at hal
      exact ⟨rp_ok HNF.out rfl (.num _ v hal HK2.out.size) ((HN.out.setS r).kept ((Kept.refl (fun _ => False) _).alloc _) (fun h => h)), hk3⟩
  next =>
    have HP := Lw.hid (fun wx hx => pint_range B wx ds hx hp HDL.out)
    rw [hp] at HNF
    clear hp hns
    go_enter Tryd.func73, Tryd.ntmps73
    go_wp2_with fail
    refine HT.out.mono ?_
    rintro x w1 ⟨rfl, k1⟩
    have H1 := H.out.kept k1 (fun h => h)
    obtain ⟨⟨x0, x1, x2⟩, z0, z1, z2⟩ := H1.cells
    have HA := Lw.hid H1; have HK := Lw.hid k1
    clear k1 H1 HT
    go_wp2_with fail
    refine wp_region_tail 19 [stV (.pointer (some ⟨g, 0, none⟩)), stV (.pointer (some ⟨g, 0, none⟩)), stV (.pointer (some ⟨g, 0, none⟩)), stV (.string (BA s)), stV (.pointer (some ⟨g, 0, none⟩)), stV (.pointer (some ⟨g, 0, none⟩)), stV (.pointer (some ⟨g, 0, none⟩)), stV (.string (BA s)), stV (.int .i64 (n : Int)), stV (.string (BA r)), stV (.int .i64 (m : Int)), stV (.int .i64 (q : Int)), stV (.string (BA ds)), ⟨fun v _ => ∃ (n : Int) (t : TypeId) (p : Value), v = .tuple #[.int .i64 n, .iface t p], fun _ _ _ _ h => h⟩, ⟨fun v _ => ∃ (n : Int) (t : TypeId) (p : Value), v = .tuple #[.int .i64 n, .iface t p], fun _ _ _ _ h => h⟩, ⟨fun v _ => ∃ (n : Int), v = .int .i64 n, fun _ _ _ _ h => h⟩, ⟨fun v _ => ∃ (t : TypeId) (p : Value), v = .iface t p, fun _ _ _ _ h => h⟩, ⟨fun v _ => ∃ (n : Int), v = .int .i64 n, fun _ _ _ _ h => h⟩, ⟨fun v _ => ∃ (t : TypeId) (p : Value), v = .iface t p, fun _ _ _ _ h => h⟩] (by kernel_rfl) (by kernel_rfl) ?_ ?_
    · -- each operation by itself
      refine ssteps_cons (fun a' w' hI hag hf K hK => ?_) ?_
      · have s0 := hag.same 0 (by decide)
        clear hag
        have HI := Lw.hid hI
        clear hI
        go_wp2_with fail
        exact hK _ _ HI.out (Kept.refl _ _) rfl
      refine ssteps_cons (fun a' w' hI hag hf K hK => ?_) ?_
      · obtain ⟨⟨_, h0, rfl⟩, -⟩ : SFacts _ _ a' w' [0] := hf
        clear hag
        have HI := Lw.hid hI
        clear hI
        go_wp2_with fail
        exact hK _ _ HI.out (Kept.refl _ _) rfl
      refine ssteps_cons (fun a' w' hI hag hf K hK => ?_) ?_
      · obtain ⟨⟨_, h1, rfl⟩, -⟩ : SFacts _ _ a' w' [1] := hf
        clear hag
        have HI := Lw.hid hI
        clear hI
        go_wp2_with fail
        exact hK _ _ HI.out (Kept.refl _ _) rfl
      refine ssteps_cons (fun a' w' hI hag hf K hK => ?_) ?_
      · obtain ⟨⟨_, h2, rfl⟩, -⟩ : SFacts _ _ a' w' [2] := hf
        clear hag
        have HI := Lw.hid hI
        have cc := hI.cell x0 (fun h => h)
        clear hI
        go_wp2_with fail
        exact hK _ _ HI.out (Kept.refl _ _) rfl
      refine ssteps_cons (fun a' w' hI hag hf K hK => ?_) ?_
      · have s0 := hag.same 0 (by decide)
        clear hag
        have HI := Lw.hid hI
        clear hI
        go_wp2_with fail
        exact hK _ _ HI.out (Kept.refl _ _) rfl
      refine ssteps_cons (fun a' w' hI hag hf K hK => ?_) ?_
      · obtain ⟨⟨_, h4, rfl⟩, -⟩ : SFacts _ _ a' w' [4] := hf
        clear hag
        have HI := Lw.hid hI
        clear hI
        go_wp2_with fail
        exact hK _ _ HI.out (Kept.refl _ _) rfl
      refine ssteps_cons (fun a' w' hI hag hf K hK => ?_) ?_
      · obtain ⟨⟨_, h5, rfl⟩, -⟩ : SFacts _ _ a' w' [5] := hf
        clear hag
        have HI := Lw.hid hI
        clear hI
        go_wp2_with fail
        exact hK _ _ HI.out (Kept.refl _ _) rfl
      refine ssteps_cons (fun a' w' hI hag hf K hK => ?_) ?_
      · obtain ⟨⟨_, h6, rfl⟩, -⟩ : SFacts _ _ a' w' [6] := hf
        clear hag
        have HI := Lw.hid hI
        have cc := hI.cell x0 (fun h => h)
        clear hI
        go_wp2_with fail
        exact hK _ _ HI.out (Kept.refl _ _) rfl
      refine ssteps_cons (fun a' w' hI hag hf K hK => ?_) ?_
      · obtain ⟨⟨_, h7, rfl⟩, -⟩ : SFacts _ _ a' w' [7] := hf
        clear hag
        have HI := Lw.hid hI
        clear hI
        go_wp2_with fail
        exact hK _ _ HI.out (Kept.refl _ _) rfl
      refine ssteps_cons (fun a' w' hI hag hf K hK => ?_) ?_
      · have s3 := hag.same 3 (by decide)
        clear hag
        have HI := Lw.hid hI
        clear hI
        go_wp2_with fail
        exact hK _ _ HI.out (Kept.refl _ _) rfl
      refine ssteps_cons (fun a' w' hI hag hf K hK => ?_) ?_
      · obtain ⟨⟨_, h9, rfl⟩, -⟩ : SFacts _ _ a' w' [9] := hf
        clear hag
        have HI := Lw.hid hI
        clear hI
        go_wp2_with fail
        exact hK _ _ HI.out (Kept.refl _ _) rfl
      refine ssteps_cons (fun a' w' hI hag hf K hK => ?_) ?_
      · obtain ⟨⟨_, h8, rfl⟩, ⟨_, h10, rfl⟩, -⟩ : SFacts _ _ a' w' [8, 10] := hf
        clear hag
        have HI := Lw.hid hI
        clear hI
        go_wp2_with fail
        exact hK _ _ HI.out (Kept.refl _ _) rfl
      refine ssteps_cons (fun a' w' hI hag hf K hK => ?_) ?_
      · obtain ⟨⟨_, h3, rfl⟩, ⟨_, h11, rfl⟩, -⟩ : SFacts _ _ a' w' [3, 11] := hf
        clear hag
        have HI := Lw.hid hI
        have i1 : (0 : Int) ≤ (q : Int) := by omega
        have i2 : (q : Int) ≤ (n : Int) := by omega
        clear hI
        go_wp2_with fail
        exact hK _ _ HI.out (Kept.refl _ _) rfl
      refine ssteps_cons (fun a' w' hI hag hf K hK => ?_) ?_
      · obtain ⟨⟨_, h12, rfl⟩, -⟩ : SFacts _ _ a' w' [12] := hf
        clear hag
        have HI := Lw.hid hI
        clear hI
        go_wp2_with fail
        refine (HP.out _ ((HE.out.kept HK.out (fun _ h => h.elim)).kept HI.out (fun _ h => h.elim))).mono ?_
        rintro x w9 ⟨⟨n', t', p', rfl⟩, k9⟩
        have K9 := Lw.hid k9
        clear k9
        go_wp2_with fail
        exact hK _ _ (HI.out.trans K9.out (fun _ _ h => h)) K9.out ⟨n', t', p', rfl⟩
      refine ssteps_cons (fun a' w' hI hag hf K hK => ?_) ?_
      · obtain ⟨⟨v13, h13, e13⟩, -⟩ : SFacts _ _ a' w' [13] := hf
        clear hag
        have HI := Lw.hid hI
        obtain ⟨n', t', p', rfl⟩ := e13
        clear hI
        go_wp2_with fail
        exact hK _ _ HI.out (Kept.refl _ _) ⟨n', t', p', rfl⟩
      refine ssteps_cons (fun a' w' hI hag hf K hK => ?_) ?_
      · obtain ⟨⟨v14, h14, e14⟩, -⟩ : SFacts _ _ a' w' [14] := hf
        clear hag
        have HI := Lw.hid hI
        obtain ⟨n', t', p', rfl⟩ := e14
        clear hI
        go_wp2_with fail
        exact hK _ _ HI.out (Kept.refl _ _) ⟨n', rfl⟩
      refine ssteps_cons (fun a' w' hI hag hf K hK => ?_) ?_
      · obtain ⟨⟨v14, h14, e14⟩, -⟩ : SFacts _ _ a' w' [14] := hf
        clear hag
        have HI := Lw.hid hI
        obtain ⟨n', t', p', rfl⟩ := e14
        clear hI
        go_wp2_with fail
        exact hK _ _ HI.out (Kept.refl _ _) ⟨t', p', rfl⟩
      refine ssteps_cons (fun a' w' hI hag hf K hK => ?_) ?_
      · obtain ⟨⟨v15, h15, e15⟩, -⟩ : SFacts _ _ a' w' [15, 13, 0, 1, 2, 3, 4, 5, 6, 7, 8, 9, 10, 11, 12, 14] := hf
        clear hag
        have HI := Lw.hid hI
        obtain ⟨n', rfl⟩ := e15
        clear hI
        go_wp2_with fail
        exact hK _ _ HI.out (Kept.refl _ _) ⟨n', rfl⟩
      refine ssteps_cons (fun a' w' hI hag hf K hK => ?_) ?_
      · obtain ⟨⟨v16, h16, e16⟩, -⟩ : SFacts _ _ a' w' [16, 17, 0, 1, 2, 3, 4, 5, 6, 7, 8, 9, 10, 11, 12, 13, 14, 15] := hf
        clear hag
        have HI := Lw.hid hI
        obtain ⟨t', p', rfl⟩ := e16
        clear hI
        go_wp2_with fail
        exact hK _ _ HI.out (Kept.refl _ _) ⟨t', p', rfl⟩
      exact trivial
    · intro vs w2 hI hvs
      have q0 : vs 0 = (.pointer (some ⟨g, 0, none⟩)) := hvs 0 _ _ rfl rfl
      have q1 : vs 1 = (.pointer (some ⟨g, 0, none⟩)) := hvs 1 _ _ rfl rfl
      have q2 : vs 2 = (.pointer (some ⟨g, 0, none⟩)) := hvs 2 _ _ rfl rfl
      have q3 : vs 3 = (.string (BA s)) := hvs 3 _ _ rfl rfl
      have q4 : vs 4 = (.pointer (some ⟨g, 0, none⟩)) := hvs 4 _ _ rfl rfl
      have q5 : vs 5 = (.pointer (some ⟨g, 0, none⟩)) := hvs 5 _ _ rfl rfl
      have q6 : vs 6 = (.pointer (some ⟨g, 0, none⟩)) := hvs 6 _ _ rfl rfl
      have q7 : vs 7 = (.string (BA s)) := hvs 7 _ _ rfl rfl
      have q8 : vs 8 = (.int .i64 (n : Int)) := hvs 8 _ _ rfl rfl
      have q9 : vs 9 = (.string (BA r)) := hvs 9 _ _ rfl rfl
      have q10 : vs 10 = (.int .i64 (m : Int)) := hvs 10 _ _ rfl rfl
      have q11 : vs 11 = (.int .i64 (q : Int)) := hvs 11 _ _ rfl rfl
      have q12 : vs 12 = (.string (BA ds)) := hvs 12 _ _ rfl rfl
      have q13 := hvs 13 _ _ rfl rfl
      have q14 := hvs 14 _ _ rfl rfl
      have q15 := hvs 15 _ _ rfl rfl
      have q16 := hvs 16 _ _ rfl rfl
      have q17 := hvs 17 _ _ rfl rfl
      have q18 := hvs 18 _ _ rfl rfl
      clear hvs
      simp only [List.take_succ_cons, List.take_zero, List.drop_succ_cons, List.drop_zero, putAll, Act.put, List.setIfInBounds_toArray, List.set_cons_zero, List.set_cons_succ, Nat.reduceAdd, q0, q1, q2, q3, q4, q5, q6, q7, q8, q9, q10, q11, q12]
      clear q0 q1 q2 q3 q4 q5 q6 q7 q8 q9 q10 q11 q12
      generalize vs 13 = x13 at *
      generalize vs 14 = x14 at *
      generalize vs 15 = x15 at *
      generalize vs 16 = x16 at *
      generalize vs 17 = x17 at *
      generalize vs 18 = x18 at *
      obtain ⟨n13, t13, p13, rfl⟩ := q13
      obtain ⟨n14, t14, p14, rfl⟩ := q14
      obtain ⟨n15, rfl⟩ := q15
      obtain ⟨t16, p16, rfl⟩ := q16
      obtain ⟨n17, rfl⟩ := q17
      obtain ⟨t18, p18, rfl⟩ := q18
      simp only [wpList]
      have HN : Hid (AR w2 g s (d : Int) 0) := Lw.hid (HA.out.kept hI (fun h => h))
      have HK2 := Lw.hid (HK.out.trans hI (fun _ _ h => h))
      clear hI
      go_wp2_with fail
      refine (fail_any _ g s (d : Int) 0 24 HN.out).mono ?_
      rintro x w3 ⟨⟨a, rfl⟩, h3, k3⟩
      have H3 := Lw.hid h3; have K3 := Lw.hid k3
      clear h3 k3
      go_wp2_with fail
      go_ret
      exact ⟨rp_err HNF.out (by decide) ⟨_, rfl⟩ _ H3.out, (KG.of HK2.out).tr K3.out⟩
def dnF (d : Nat) (res : Rx) : Rx := if 16 < d + 1 then .error 12 else res
set_option maxHeartbeats 4000000 in
/-- down. -/
theorem down_one (w : World) (lo g : Nat) (s : List UInt8) (d : Nat) (res : Rx) (h : AR w g s (d : Int) 0) (hd : d ≤ 16) (hgl : g < lo)
    (hc : d + 1 ≤ 16 → ∀ w1, AR w1 g s ((d + 1 : Nat) : Int) 0 → KG g w w1 → w1.heap.size = w.heap.size → Calls Tryd.prog 59 #[.pointer (some ⟨g, 0, none⟩)] w1 fun x w' => RdPost lo g res (d + 1) x w' ∧ KG g w1 w') :
    Calls Tryd.prog 50 #[.pointer (some ⟨g, 0, none⟩), .func (.func 59) #[.pointer (some ⟨g, 0, none⟩)] #[]] w fun x w' => RdPost lo g (dnF d res) d x w' ∧ KG g w w' := by
  obtain ⟨⟨c0, c1', c2'⟩, f0, f1, f2⟩ := h.cells
  have H1 := Lw.hid (h.setD ((d : Int) + 1))
  obtain ⟨⟨x0, x1, x2⟩, z0, z1, z2⟩ := (h.setD ((d : Int) + 1)).cells
  have HC := Lw.hid hc
  clear h hc
  by_cases h16 : d + 1 ≤ 16
  · have hD : Hid (dnF d res = res) := Lw.hid (if_neg (by omega))
    have hb : decide (16 < (d : Int) + 1) = false := decide_eq_false (by omega)
    have HCC := Lw.hid (HC.out h16 (w.setCell ⟨g, 1, none⟩ (.int .i64 ((d : Int) + 1))) H1.out ((KG.refl g w).set 1 _) (World.size_setCell _ _ _))
    clear HC
    go_enter Tryd.func50, Tryd.ntmps50
    go_wp2_with fail
    refine HCC.out.mono ?_
    rintro x w2 ⟨hp, k2⟩
    have K2 := Lw.hid (((KG.refl g w).set 1 _).tr k2)
    cases res with
    | error e =>
      obtain ⟨he, ⟨a, rfl⟩, d', ha⟩ := hp
      have HA := Lw.hid ha
      obtain ⟨⟨y0, y1, y2⟩, u0, u1, u2⟩ := ha.cells
      clear ha k2 HCC
      go_wp2_with fail
      go_ret
      exact ⟨rp_err hD.out he ⟨_, rfl⟩ _ (HA.out.setD _), K2.out.set 1 _⟩
    | ok y =>
      obtain ⟨p, rfl, hn, ha⟩ := hp
      have HA := Lw.hid ha; have HNN := Lw.hid hn
      obtain ⟨⟨y0, y1, y2⟩, u0, u1, u2⟩ := ha.cells
      have e5 : ((d + 1 : Nat) : Int) - 1 = (d : Int) := by omega
      clear ha hn k2 HCC
      go_wp2_with fail
      go_ret
      exact ⟨rp_ok (y := y.1) (s := y.2) hD.out rfl (HNN.out.kept ((Kept.refl (fun k => k = g) w2).set g 1 (fun _ => rfl) _) (fun b hb e => by omega)) (HA.out.setD _), K2.out.set 1 _⟩
  · have hD : Hid (dnF d res = .error 12) := Lw.hid (if_pos (by omega))
    have hb : decide (16 < (d : Int) + 1) = true := decide_eq_true (by omega)
    clear HC
    go_enter Tryd.func50, Tryd.ntmps50
    go_wp2_with fail
    refine (fail_any _ g s _ 0 12 H1.out).mono ?_
    rintro x w3 ⟨⟨a, rfl⟩, h3, k3⟩
    have H3 := Lw.hid h3; have K3 := Lw.hid k3
    clear h3 k3
    go_wp2_with fail
    go_ret
    exact ⟨rp_err hD.out (by decide) ⟨_, rfl⟩ _ H3.out, ((KG.refl g w).set 1 _).tr K3.out⟩
set_option maxHeartbeats 4000000 in
/-- down. -/
theorem down_all (w : World) (lo g : Nat) (s : List UInt8) (d : Nat) (res : Rx) (h : AR w g s (d : Int) 0) (hd : d ≤ 16) (hgl : g < lo)
    (hc : d + 1 ≤ 16 → ∀ w1, AR w1 g s ((d + 1 : Nat) : Int) 0 → KG g w w1 → w1.heap.size = w.heap.size → Calls Tryd.prog 35 #[.pointer (some ⟨g, 0, none⟩)] w1 fun x w' => RdPost lo g res (d + 1) x w' ∧ KG g w1 w') :
    Calls Tryd.prog 50 #[.pointer (some ⟨g, 0, none⟩), .func (.func 35) #[.pointer (some ⟨g, 0, none⟩)] #[]] w fun x w' => RdPost lo g (dnF d res) d x w' ∧ KG g w w' := by
  obtain ⟨⟨c0, c1', c2'⟩, f0, f1, f2⟩ := h.cells
  have H1 := Lw.hid (h.setD ((d : Int) + 1))
  obtain ⟨⟨x0, x1, x2⟩, z0, z1, z2⟩ := (h.setD ((d : Int) + 1)).cells
  have HC := Lw.hid hc
  clear h hc
  by_cases h16 : d + 1 ≤ 16
  · have hD : Hid (dnF d res = res) := Lw.hid (if_neg (by omega))
    have hb : decide (16 < (d : Int) + 1) = false := decide_eq_false (by omega)
    have HCC := Lw.hid (HC.out h16 (w.setCell ⟨g, 1, none⟩ (.int .i64 ((d : Int) + 1))) H1.out ((KG.refl g w).set 1 _) (World.size_setCell _ _ _))
    clear HC
    go_enter Tryd.func50, Tryd.ntmps50
    go_wp2_with fail
    refine HCC.out.mono ?_
    rintro x w2 ⟨hp, k2⟩
    have K2 := Lw.hid (((KG.refl g w).set 1 _).tr k2)
    cases res with
    | error e =>
      obtain ⟨he, ⟨a, rfl⟩, d', ha⟩ := hp
      have HA := Lw.hid ha
      obtain ⟨⟨y0, y1, y2⟩, u0, u1, u2⟩ := ha.cells
      clear ha k2 HCC
      go_wp2_with fail
      go_ret
      exact ⟨rp_err hD.out he ⟨_, rfl⟩ _ (HA.out.setD _), K2.out.set 1 _⟩
    | ok y =>
      obtain ⟨p, rfl, hn, ha⟩ := hp
      have HA := Lw.hid ha; have HNN := Lw.hid hn
      obtain ⟨⟨y0, y1, y2⟩, u0, u1, u2⟩ := ha.cells
      have e5 : ((d + 1 : Nat) : Int) - 1 = (d : Int) := by omega
      clear ha hn k2 HCC
      go_wp2_with fail
      go_ret
      exact ⟨rp_ok (y := y.1) (s := y.2) hD.out rfl (HNN.out.kept ((Kept.refl (fun k => k = g) w2).set g 1 (fun _ => rfl) _) (fun b hb e => by omega)) (HA.out.setD _), K2.out.set 1 _⟩
  · have hD : Hid (dnF d res = .error 12) := Lw.hid (if_pos (by omega))
    have hb : decide (16 < (d : Int) + 1) = true := decide_eq_true (by omega)
    clear HC
    go_enter Tryd.func50, Tryd.ntmps50
    go_wp2_with fail
    refine (fail_any _ g s _ 0 12 H1.out).mono ?_
    rintro x w3 ⟨⟨a, rfl⟩, h3, k3⟩
    have H3 := Lw.hid h3; have K3 := Lw.hid k3
    clear h3 k3
    go_wp2_with fail
    go_ret
    exact ⟨rp_err hD.out (by decide) ⟨_, rfl⟩ _ H3.out, ((KG.refl g w).set 1 _).tr K3.out⟩
set_option maxHeartbeats 4000000 in
/-- down. -/
theorem down_cl (w : World) (lo g : Nat) (s : List UInt8) (d : Nat) (res : Rx) (c1 c2 : Nat) (h : AR w g s (d : Int) 0) (hd : d ≤ 16) (hgl : g < lo)
    (hc : d + 1 ≤ 16 → ∀ w1, AR w1 g s ((d + 1 : Nat) : Int) 0 → KG g w w1 → w1.heap.size = w.heap.size → Calls Tryd.prog 51 #[.pointer (some ⟨c1, 0, none⟩), .pointer (some ⟨c2, 0, none⟩)] w1 fun x w' => RdPost lo g res (d + 1) x w' ∧ KG g w1 w') :
    Calls Tryd.prog 50 #[.pointer (some ⟨g, 0, none⟩), .func (.func 51) #[] #[.pointer (some ⟨c1, 0, none⟩), .pointer (some ⟨c2, 0, none⟩)]] w fun x w' => RdPost lo g (dnF d res) d x w' ∧ KG g w w' := by
  obtain ⟨⟨c0, c1', c2'⟩, f0, f1, f2⟩ := h.cells
  have H1 := Lw.hid (h.setD ((d : Int) + 1))
  obtain ⟨⟨x0, x1, x2⟩, z0, z1, z2⟩ := (h.setD ((d : Int) + 1)).cells
  have HC := Lw.hid hc
  clear h hc
  by_cases h16 : d + 1 ≤ 16
  · have hD : Hid (dnF d res = res) := Lw.hid (if_neg (by omega))
    have hb : decide (16 < (d : Int) + 1) = false := decide_eq_false (by omega)
    have HCC := Lw.hid (HC.out h16 (w.setCell ⟨g, 1, none⟩ (.int .i64 ((d : Int) + 1))) H1.out ((KG.refl g w).set 1 _) (World.size_setCell _ _ _))
    clear HC
    go_enter Tryd.func50, Tryd.ntmps50
    go_wp2_with fail
    refine HCC.out.mono ?_
    rintro x w2 ⟨hp, k2⟩
    have K2 := Lw.hid (((KG.refl g w).set 1 _).tr k2)
    cases res with
    | error e =>
      obtain ⟨he, ⟨a, rfl⟩, d', ha⟩ := hp
      have HA := Lw.hid ha
      obtain ⟨⟨y0, y1, y2⟩, u0, u1, u2⟩ := ha.cells
      clear ha k2 HCC
      go_wp2_with fail
      go_ret
      exact ⟨rp_err hD.out he ⟨_, rfl⟩ _ (HA.out.setD _), K2.out.set 1 _⟩
    | ok y =>
      obtain ⟨p, rfl, hn, ha⟩ := hp
      have HA := Lw.hid ha; have HNN := Lw.hid hn
      obtain ⟨⟨y0, y1, y2⟩, u0, u1, u2⟩ := ha.cells
      have e5 : ((d + 1 : Nat) : Int) - 1 = (d : Int) := by omega
      clear ha hn k2 HCC
      go_wp2_with fail
      go_ret
      exact ⟨rp_ok (y := y.1) (s := y.2) hD.out rfl (HNN.out.kept ((Kept.refl (fun k => k = g) w2).set g 1 (fun _ => rfl) _) (fun b hb e => by omega)) (HA.out.setD _), K2.out.set 1 _⟩
  · have hD : Hid (dnF d res = .error 12) := Lw.hid (if_pos (by omega))
    have hb : decide (16 < (d : Int) + 1) = true := decide_eq_true (by omega)
    clear HC
    go_enter Tryd.func50, Tryd.ntmps50
    go_wp2_with fail
    refine (fail_any _ g s _ 0 12 H1.out).mono ?_
    rintro x w3 ⟨⟨a, rfl⟩, h3, k3⟩
    have H3 := Lw.hid h3; have K3 := Lw.hid k3
    clear h3 k3
    go_wp2_with fail
    go_ret
    exact ⟨rp_err hD.out (by decide) ⟨_, rfl⟩ _ H3.out, ((KG.refl g w).set 1 _).tr K3.out⟩
end Go.Proofs.YtoedopgjonhemaaDoor
