/- strings' byteStringReplacer, for this replacer's four bytes: Replace. -/
import Derived.Test.YtoedopgjonhemaaGreatDoorReplP
import Derived.Test.YtoedopgjonhemaaGreatDoorOnce
import Derived.Test.YtoedopgjonhemaaGreatDoorBuf
import Derived.Test.YtoedopgjonhemaaGreatDoorSetLaw
namespace Go.Proofs.YtoedopgjonhemaaGreatDoor
open Go Go.RowKit Go.Lw
set_option maxRecDepth 100000
set_option linter.unusedVariables false
set_option linter.unusedSimpArgs false
attribute [local go_sem] BA_toList
theorem EBf : ElemT Tryz.prog 113 5 1 1 := ElemT.of (z := .int .u8 0) Tryz.underlying113 (by kernel_rfl) rfl (by decide)
theorem buf_copied {w : World} {bb N L rl : Nat} {P R : List UInt8} (hL : P.length = L) (hR : R.length = rl) (hfit : L + rl ≤ N) (h : w.ownsRow 0 5 1 (.slice (some ⟨bb, 0, none⟩) N N) N (((bfB P N).map bv).take L ++ (R.map bv ++ ((bfB P N).map bv).drop (L + rl)))) : BufAt w bb N (bfB (P ++ R) N) := by
  refine buf_of_own (bfB_len (by rw [List.length_append]; omega)) ?_
  rw [← bfB_copy (by omega), hL, hR, List.map_append, List.map_append, List.map_take, List.map_drop]
  exact h
def torL : List (List UInt8) := [[42], [43], [41], [40]]
def torC (k : Nat) : UInt8 := ([42, 43, 41, 40] : List UInt8).getD k 0
theorem torC_spec (k : Nat) (hk : k < 4) : specB (torC k) = true := by
  have h : k = 0 ∨ k = 1 ∨ k = 2 ∨ k = 3 := by omega
  rcases h with rfl | rfl | rfl | rfl <;> decide
/-- The replacer, built. -/
structure RepAt (w : World) (pb : Nat) : Prop where
  spec : ∀ c : UInt8, specB c = true → ∃ g cap, w.cell? ⟨pb, c.toNat, none⟩ = some (.slice (some ⟨g, 0, none⟩) (repB c).length cap) ∧ RdB w (.slice (some ⟨g, 0, none⟩) (repB c).length cap) (repB c)
  plain : ∀ c : UInt8, specB c = false → w.cell? ⟨pb, c.toNat, none⟩ = some (.slice none 0 0)
  tor : ∃ tb cap, w.cell? ⟨pb, 256, none⟩ = some (.slice (some ⟨tb, 0, none⟩) 4 cap) ∧ 4 ≤ cap ∧ ∀ k, k < 4 → w.cell? ⟨tb, k, none⟩ = some (.string (BA [torC k]))
theorem RepAt.kept {w w' : World} {pb : Nat} (h : RepAt w pb) (k : Kept (fun _ => False) w w') : RepAt w' pb := by
  refine ⟨fun c hc => ?_, fun c hc => k.cell (h.plain c hc) (fun h => h), ?_⟩
  · obtain ⟨g, cap, h1, h2⟩ := h.spec c hc
    exact ⟨g, cap, k.cell h1 (fun h => h), h2.kept k (fun _ _ h => h)⟩
  · obtain ⟨tb, cap, h1, h2, h3⟩ := h.tor
    exact ⟨tb, cap, k.cell h1 (fun h => h), h2, fun j hj => k.cell (h3 j hj) (fun h => h)⟩
/-- What the first k of the four add. -/
def addN (s : List UInt8) (k : Nat) : Nat := ((List.range k).map fun j => cntB s (torC j) * ((repB (torC j)).length - 1)).sum
theorem addN_succ (s : List UInt8) (k : Nat) : addN s (k + 1) = addN s k + cntB s (torC k) * ((repB (torC k)).length - 1) := by
  unfold addN
  rw [List.range_succ, List.map_append, List.sum_append]
  simp
theorem addN_all (s : List UInt8) : s.length + addN s 4 = (repF s).length := by
  rw [repF_size]
  show s.length + addN s 4 = _
  rw [addN_succ, addN_succ, addN_succ, addN_succ]
  show s.length + ((((addN s 0) + cntB s 42 * 2) + cntB s 43 * 1) + cntB s 41 * 2 + cntB s 40 * 2) = _
  have : addN s 0 = 0 := rfl
  omega
def anyN (s : List UInt8) (k : Nat) : Bool := (List.range k).any fun j => cntB s (torC j) != 0
theorem anyN_succ (s : List UInt8) (k : Nat) : anyN s (k + 1) = (anyN s k || cntB s (torC k) != 0) := by
  unfold anyN
  rw [List.range_succ, List.any_append]
  simp
theorem anyN_all (s : List UInt8) : anyN s 4 = s.any specB := by
  rw [any_cnt, anyN_succ, anyN_succ, anyN_succ, anyN_succ]
  rfl
theorem cnt_le (s : List UInt8) (c : UInt8) : cntB s c ≤ s.length := List.countP_le_length
theorem addN_le (s : List UInt8) (k : Nat) : addN s k ≤ addN s (k + 1) := by rw [addN_succ]; exact Nat.le_add_right _ _
theorem addN_mono (s : List UInt8) (k : Nat) (hk : k < 4) : addN s k ≤ addN s 4 ∧ addN s (k + 1) ≤ addN s 4 := by
  have h1 : addN s 0 ≤ addN s 1 := addN_le s 0
  have h2 : addN s 1 ≤ addN s 2 := addN_le s 1
  have h3 : addN s 2 ≤ addN s 3 := addN_le s 2
  have h4 : addN s 3 ≤ addN s 4 := addN_le s 3
  have h : k = 0 ∨ k = 1 ∨ k = 2 ∨ k = 3 := by omega
  rcases h with rfl | rfl | rfl | rfl
  · exact ⟨by omega, by show addN s 1 ≤ _; omega⟩
  · exact ⟨by omega, by show addN s 2 ≤ _; omega⟩
  · exact ⟨by omega, by show addN s 3 ≤ _; omega⟩
  · exact ⟨by omega, by show addN s 4 ≤ _; omega⟩
theorem size_add {n ak q rl : Nat} (h : n + ak ≤ 3000) (hq : q ≤ 1000) (hr : 1 ≤ rl ∧ rl ≤ 3) : wrap64 ((n : Int) + (ak : Int) + wrap64 ((q : Int) * ((rl : Int) - 1))) = ((n + (ak + q * (rl - 1)) : Nat) : Int) := by
  obtain ⟨m, rfl⟩ : ∃ m, rl = m + 1 := ⟨rl - 1, by omega⟩
  have e1 : (((m + 1 : Nat) : Int) - 1) = (m : Int) := by omega
  have e2 : m + 1 - 1 = m := by omega
  rw [e1, e2, ← Int.natCast_mul]
  have h3 : q * m ≤ 1000 * 2 := Nat.mul_le_mul hq (by omega)
  generalize q * m = z at *
  have e3 : wrap64 (z : Int) = (z : Int) := by unfold wrap64; omega
  rw [e3]
  unfold wrap64; omega
set_option maxHeartbeats 16000000 in
theorem brepl_any (w : World) (pb : Nat) (s : List UInt8) (hs9 : s.length ≤ 1000) (h : RepAt w pb) :
    Calls Tryz.prog 173 #[.pointer (some ⟨pb, 0, none⟩), .string (BA s)] w fun x w' => x = .returned (.string (BA (repF s))) ∧ Kept (fun _ => False) w w' := by
  have hsz := BA_size s
  obtain ⟨n, hn⟩ : ∃ n, s.length = n := ⟨_, rfl⟩
  have HN := Lw.hid hn
  rw [hn] at hsz hs9
  obtain ⟨tb, tcap, ht0, ht1, ht2⟩ := h.tor
  have HT2 := Lw.hid ht2; have HR := Lw.hid h
  clear hn h ht2
  obtain ⟨i0, hi, hz0, hz1, hz2⟩ : ∃ i : TypeInfo, Tryz.prog.info? 5 = some i ∧ i.zero = some (.int .u8 0) ∧ i.size = 1 ∧ i.bytes = 1 := ⟨_, rfl, rfl, rfl, rfl⟩
  have hrl := repF_len s
  rw [HN.out] at hrl
  by_cases hbig : 32 ≤ n
  · have hb1 : decide ((32 : Int) ≤ (n : Int)) = true := decide_eq_true (by omega)
    go_enter Tryz.func173, Tryz.ntmps173
    go_wp2_with fail
    go_loopg [5, 6, 32] 4 (fun gk s5 s6 s32 wx => ∃ k : Nat, gk = 4 - k ∧ k ≤ 4 ∧ s32 = .int .i64 (k : Int) ∧ s5 = .int .i64 ((n + addN s k : Nat) : Int) ∧ s6 = .bool (anyN s k) ∧ Kept (fun _ => False) w wx)
    case atStart => exact ⟨0, rfl, Nat.zero_le _, rfl, rfl, rfl, Kept.refl _ _⟩
    case round =>
      obtain ⟨k, rfl, hk, rfl, rfl, rfl, hkx⟩ := hrel
      have HKX := Lw.hid hkx
      clear hkx
      by_cases hlt : k < 4
      · have hc := HKX.out.cell (HT2.out k hlt) (fun h => h)
        obtain ⟨c, hcc⟩ : ∃ c, torC k = c := ⟨_, rfl⟩
        have HCC := Lw.hid hcc
        have hcs := torC_spec k hlt
        rw [hcc] at hc hcs
        have HCT : Hid (Calls Tryz.prog 175 #[.string (BA s), .string (BA [c])] wr fun e w' => e = .returned (.int .i64 (cntB s c : Int)) ∧ w' = wr) := Lw.hid (Tryz.strings_Count_one (BA s) c wr)
        obtain ⟨q, hq⟩ : ∃ q, cntB s c = q := ⟨_, rfl⟩
        have hq9 : q ≤ n := by rw [← hq, ← HN.out]; exact cnt_le s c
        have HA : Hid (addN s (k + 1) = addN s k + q * ((repB c).length - 1)) := Lw.hid (by rw [addN_succ, hcc, hq])
        have HB : Hid (anyN s (k + 1) = (anyN s k || q != 0)) := Lw.hid (by rw [anyN_succ, hcc, hq])
        have HAL : Hid (addN s k ≤ addN s 4 ∧ addN s (k + 1) ≤ addN s 4) := Lw.hid (addN_mono s k hlt)
        have HALL := Lw.hid (addN_all s)
        have hak : n + addN s k ≤ 3 * n ∧ n + addN s (k + 1) ≤ 3 * n := by have := HAL.out; have := HALL.out; rw [HN.out] at this; omega
        rw [hq] at HCT
        obtain ⟨g, rcap, hr1, hr2⟩ := (HR.out.kept HKX.out).spec c hcs
        obtain ⟨rl, hrl9⟩ : ∃ l, (repB c).length = l := ⟨_, rfl⟩
        have hrb := repB_len c
        rw [hrl9] at hr1 hrb HA
        have hc256 := c.toNat_lt
        have hg0 := BA_get (l := [c]) (k := 0) rfl
        have hsz1 := BA_size [c]
        clear hq hcc hrl9
        obtain ⟨ak, hak2⟩ : ∃ a, addN s k = a := ⟨_, rfl⟩
        have HAK := Lw.hid hak2
        rw [hak2] at hak HA ⊢
        obtain ⟨yn, hyn⟩ : ∃ b, anyN s k = b := ⟨_, rfl⟩
        rw [hyn] at HB ⊢
        clear hyn hak2
        by_cases hq0 : q = 0
        · subst hq0
          have hb0 : (((0 : Nat) : Int) != 0) = false := rfl
          go_wp2_with fail
          refine HCT.out.mono ?_
          rintro x w2 ⟨rfl, h2⟩
          subst h2
          go_wp2_with fail
          go_roundg (4 - (k + 1))
          case measure => omega
          case rel => exact ⟨k + 1, rfl, by omega, by first | rfl | go_num, by rw [HA.out]; first | rfl | (congr 2; omega), by rw [HB.out]; simp, HKX.out⟩
        · have hb0 : ((q : Int) != 0) = true := by rw [bne_iff_ne]; omega
          have HVW : Hid (wrap64 ((n : Int) + (ak : Int) + wrap64 ((q : Int) * ((rl : Int) - 1))) = ((n + (ak + q * (rl - 1)) : Nat) : Int)) := Lw.hid (size_add (by omega) (by omega) hrb)
          go_wp2_with fail
          refine HCT.out.mono ?_
          rintro x w2 ⟨rfl, h2⟩
          subst h2
          go_wp2_with fail
          go_quiet (fail)
          go_wp2_with fail
          go_roundg (4 - (k + 1))
          case measure => omega
          case rel => exact ⟨k + 1, rfl, by omega, by first | rfl | go_num, by rw [HVW.out, HA.out], by rw [HB.out, show (q != 0) = true by rw [bne_iff_ne]; exact hq0, Bool.or_true], HKX.out.trans (kept_drewN' _ _) (fun _ _ h => h)⟩
      · obtain rfl : k = 4 := by omega
        have hsz5 : n + addN s 4 = (repF s).length := by have := addN_all s; rw [HN.out] at this; exact this
        obtain ⟨yn, hgoal⟩ : ∃ b, s.any specB = b := ⟨_, rfl⟩
        rw [hsz5, anyN_all, hgoal]
        have HRW := Lw.hid (HR.out.kept HKX.out)
        cases hany : s.any specB with
        | false =>
          have HF : Hid (repF s = s) := Lw.hid (repF_none s hany)
          rw [hany] at hgoal
          clear hany
          subst hgoal
          go_wp2_with fail
          go_ret
          rw [HF.out]
          exact ⟨rfl, HKX.out⟩
        | true =>
          rw [hany] at hgoal
          clear hany
          subst hgoal
          obtain ⟨wk, hwk⟩ : ∃ wk : World, wk = wr := ⟨_, rfl⟩
          subst hwk
          obtain ⟨N, hNN⟩ : ∃ N, (repF s).length = N := ⟨_, rfl⟩
          have HNN := Lw.hid hNN
          rw [hNN] at hrl ⊢
          clear hNN
          go_wp2_with (refine wpList_mk rfl _ _ _ rfl Tryz.underlying113 hi hz0 hz1 hz2 .i64 .i64 _ _ N rfl rfl rfl rfl (by omega) (by unfold maxLen; omega) ?_; intro bb wm hbb ho hk9 hlt9; have HO := Lw.hid ho; have HKM := Lw.hid hk9; clear ho hk9)
          have hbw : wk.heap.size ≤ bb := Nat.le_of_eq hbb.out.symm
          have hB0 : BufAt wm bb N (bfB [] N) := buf_of_own (bfB_len (Nat.zero_le _)) (by rw [← made_bufB]; exact HO.out)
          have HB0 := Lw.hid hB0
          clear hB0 HO
          go_loopg [13, 14] n (fun gk s13 s14 wx => ∃ i : Nat, gk = n - i ∧ i ≤ n ∧ s14 = .int .i64 (i : Int) ∧ s13 = .int .i64 ((repF (s.take i)).length : Int) ∧ BufAt wx bb N (bfB (repF (s.take i)) N) ∧ Kept (fun _ => False) wk wx)
          case atStart => exact ⟨0, rfl, Nat.zero_le _, rfl, rfl, HB0.out, HKM.out⟩
          case round =>
            clear HB0 HKM
            obtain ⟨i, rfl, hin, rfl, rfl, hbuf, hkx⟩ := hrel
            have HBU := Lw.hid hbuf; have HKX2 := Lw.hid hkx
            by_cases hil : i < n
            · obtain ⟨c, hc⟩ : ∃ c, s[i]? = some c := ⟨_, List.getElem?_eq_getElem (by rw [HN.out]; exact hil)⟩
              have g0 := BA_get hc
              have hc256 := c.toNat_lt
              have htk : s.take (i + 1) = s.take i ++ [c] := by
                obtain ⟨hl, he⟩ := List.getElem?_eq_some_iff.1 hc
                rw [List.take_succ_eq_append_getElem hl, he]
              have HTK : Hid (repF (s.take (i + 1)) = repF (s.take i) ++ repB c) := Lw.hid (by rw [htk, repF_app, repF_cons]; simp [repF])
              have hfit : (repF (s.take i)).length + (repB c).length ≤ N := by
                have h1 : repF s = repF (s.take (i + 1)) ++ repF (s.drop (i + 1)) := by rw [← repF_app, List.take_append_drop]
                have h2 := congrArg List.length h1
                rw [List.length_append, HTK.out, List.length_append, HNN.out] at h2
                omega
              obtain ⟨P, hP⟩ : ∃ P, repF (s.take i) = P := ⟨_, rfl⟩
              rw [hP] at hbuf HBU HTK hfit ⊢
              obtain ⟨L, hL⟩ : ∃ L, P.length = L := ⟨_, rfl⟩
              have HL := Lw.hid hL
              rw [hL] at hfit ⊢
              have hrb := repB_len c
              have hLN : L < N := by omega
              clear hc htk hP hL hkx
              cases hsp : specB c with
              | false =>
                have hcell := (HRW.out.kept HKX2.out).plain c hsp
                obtain ⟨xv, hxv⟩ := buf_cell hbuf L hLN
                have hfr := buf_free hbuf L
                have HS2 := Lw.hid (buf_set hbuf L c)
                have HRB := Lw.hid (repB_plain hsp)
                clear hsp hbuf
                go_wp2_with fail
                go_roundg (n - (i + 1))
                case measure => omega
                case rel => exact ⟨i + 1, rfl, by omega, by first | rfl | go_num, by rw [HTK.out, HRB.out, List.length_append, HL.out]; rfl, by rw [HTK.out, HRB.out, ← bfB_set c (by rw [HL.out]; exact hLN), HL.out]; exact HS2.out, HKX2.out.set bb L (fun h => by omega) _⟩
              | true =>
                obtain ⟨g, rcap, hcw, hr2⟩ := HRW.out.spec c hsp
                obtain ⟨rl, hrl9⟩ : ∃ l, (repB c).length = l := ⟨_, rfl⟩
                have HRL9 := Lw.hid hrl9
                have HCW := Lw.hid hcw
                have HR2 : Hid (Rd wk 1 (.slice (some ⟨g, 0, none⟩) rl rcap) rl ((repB c).map bv)) := Lw.hid (by unfold RdB at hr2; rw [hrl9] at hr2; exact hr2)
                have hcell := HKX2.out.cell hcw (fun h => h)
                rw [hrl9] at hcell hrb hfit HCW
                clear hsp hbuf hcw hr2 hrl9
                go_wp2_with fail
                refine wp_region_set 12 (fun D (_ : Unit) wz => Kept (fun _ => False) wk wz ∧ BufAt wz bb N (bfB (if D 10 = true then P ++ repB c else P) N)) (fun _ _ _ _ => True) [gV (.int .i64 (L : Int)), gV (.slice (some ⟨bb, 0, none⟩) N N), gV (.int .i64 (L : Int)), gV (.slice (some ⟨bb, L, none⟩) (N - L) (N - L)), gV (.pointer (some ⟨pb, 0, none⟩)), gV (.int .u8 (c.toNat : Int)), gV (.pointer (some ⟨pb, 0, none⟩)), gV (.pointer (some ⟨pb, 0, none⟩)), gV (.pointer (some ⟨pb, c.toNat, none⟩)), gV (.slice (some ⟨g, 0, none⟩) rl rcap), gV (.int .i64 (rl : Int)), gV (.int .i64 ((L : Int) + (rl : Int)))] (()) (by kernel_rfl) (by kernel_rfl) (⟨HKX2.out.drew, buf_kept HBU.out (Kept.refl (fun _ => False) _).drew (fun h => h)⟩) ?_ ?_
                · -- each operation by itself
                  refine gsteps_cons (fun D γ a' w' hI hD0 hdep hcl hag hlt hf K hK => ?_) ?_
                  · have s13 := hag.same 13 (by decide)
                    clear hlt
                    clear hag
                    go_wp2_with fail
                    exact hK _ () _ ⟨hI.1, by have h := hI.2; simpa using h⟩ trivial rfl
                  refine gsteps_cons (fun D γ a' w' hI hD0 hdep hcl hag hlt hf K hK => ?_) ?_
                  · have s12 := hag.same 12 (by decide)
                    clear hlt
                    clear hag
                    go_wp2_with fail
                    exact hK _ () _ ⟨hI.1, by have h := hI.2; simpa using h⟩ trivial rfl
                  refine gsteps_cons (fun D γ a' w' hI hD0 hdep hcl hag hlt hf K hK => ?_) ?_
                  · have s13 := hag.same 13 (by decide)
                    clear hlt
                    clear hag
                    go_wp2_with fail
                    exact hK _ () _ ⟨hI.1, by have h := hI.2; simpa using h⟩ trivial rfl
                  refine gsteps_cons (fun D γ a' w' hI hD0 hdep hcl hag hlt hf K hK => ?_) ?_
                  · obtain ⟨⟨_, h1, rfl⟩, ⟨_, h2, rfl⟩, -⟩ : SFacts _ _ a' w' [1, 2] := hf
                    clear hlt
                    clear hag
                    go_wp2_with fail
                    exact hK _ () _ ⟨hI.1, by have h := hI.2; simpa using h⟩ trivial rfl
                  refine gsteps_cons (fun D γ a' w' hI hD0 hdep hcl hag hlt hf K hK => ?_) ?_
                  · have s0 := hag.same 0 (by decide)
                    clear hlt
                    clear hag
                    go_wp2_with fail
                    exact hK _ () _ ⟨hI.1, by have h := hI.2; simpa using h⟩ trivial rfl
                  refine gsteps_cons (fun D γ a' w' hI hD0 hdep hcl hag hlt hf K hK => ?_) ?_
                  · have s15 := hag.same 15 (by decide)
                    clear hlt
                    clear hag
                    go_wp2_with fail
                    exact hK _ () _ ⟨hI.1, by have h := hI.2; simpa using h⟩ trivial rfl
                  refine gsteps_cons (fun D γ a' w' hI hD0 hdep hcl hag hlt hf K hK => ?_) ?_
                  · obtain ⟨⟨_, h4, rfl⟩, -⟩ : SFacts _ _ a' w' [4] := hf
                    clear hlt
                    clear hag
                    go_wp2_with fail
                    exact hK _ () _ ⟨hI.1, by have h := hI.2; simpa using h⟩ trivial rfl
                  refine gsteps_cons (fun D γ a' w' hI hD0 hdep hcl hag hlt hf K hK => ?_) ?_
                  · obtain ⟨⟨_, h6, rfl⟩, -⟩ : SFacts _ _ a' w' [6] := hf
                    clear hlt
                    clear hag
                    go_wp2_with fail
                    exact hK _ () _ ⟨hI.1, by have h := hI.2; simpa using h⟩ trivial rfl
                  refine gsteps_cons (fun D γ a' w' hI hD0 hdep hcl hag hlt hf K hK => ?_) ?_
                  · obtain ⟨⟨_, h7, rfl⟩, ⟨_, h5, rfl⟩, -⟩ : SFacts _ _ a' w' [7, 5] := hf
                    clear hlt
                    clear hag
                    go_wp2_with fail
                    exact hK _ () _ ⟨hI.1, by have h := hI.2; simpa using h⟩ trivial rfl
                  refine gsteps_cons (fun D γ a' w' hI hD0 hdep hcl hag hlt hf K hK => ?_) ?_
                  · obtain ⟨⟨_, h8, rfl⟩, -⟩ : SFacts _ _ a' w' [8] := hf
                    clear hlt
                    clear hag
                    have x0 := hI.1.cell HCW.out (fun h => h)
                    go_wp2_with fail
                    exact hK _ () _ ⟨hI.1, by have h := hI.2; simpa using h⟩ trivial rfl
                  refine gsteps_cons (fun D γ a' w' hI hD0 hdep hcl hag hlt hf K hK => ?_) ?_
                  · obtain ⟨⟨_, h3, rfl⟩, ⟨_, h9, rfl⟩, -⟩ : SFacts _ _ a' w' [3, 9] := hf
                    clear hlt
                    clear hag
                    have hb := hI.2
                    rw [if_neg (by rw [hD0]; simp)] at hb
                    refine wpList_copy rfl _ _ _ _ rfl EBf (.slice (some ⟨bb, 0, none⟩) N N) N _ (own_of_buf (by unfold maxLen; omega) hb) L (some ⟨bb, L, none⟩) (N - L) (by simp [Act.eval, h3]) (fun _ => ⟨bb, rfl, rfl⟩) _ rl ((repB c).map bv) (by simp [Act.eval, h9]) (HR2.out.kept hI.1 (fun _ _ h => h)) (fun u hu => by obtain ⟨x, _, rfl⟩ := List.mem_map.1 hu; rfl) (by omega) ?_
                    intro w9 ho hg
                    go_wp2_with fail
                    exact hK _ () _ ⟨hI.1.grown hg (fun k hk hl => by have e : k = bb := (by cases hk; rfl); omega), by rw [if_pos (by simp)]; exact buf_copied HL.out HRL9.out hfit ho⟩ trivial rfl
                  refine gsteps_cons (fun D γ a' w' hI hD0 hdep hcl hag hlt hf K hK => ?_) ?_
                  · obtain ⟨⟨_, h0, rfl⟩, ⟨_, h10, rfl⟩, -⟩ : SFacts _ _ a' w' [0, 10] := hf
                    clear hlt
                    clear hag
                    go_wp2_with fail
                    exact hK _ () _ ⟨hI.1, by have h := hI.2; simpa using h⟩ trivial rfl
                  exact trivial
                · intro vs γ w' hI hvs
                  have q0 : vs 0 = (.int .i64 (L : Int)) := hvs 0 _ _ rfl rfl
                  have q1 : vs 1 = (.slice (some ⟨bb, 0, none⟩) N N) := hvs 1 _ _ rfl rfl
                  have q2 : vs 2 = (.int .i64 (L : Int)) := hvs 2 _ _ rfl rfl
                  have q3 : vs 3 = (.slice (some ⟨bb, L, none⟩) (N - L) (N - L)) := hvs 3 _ _ rfl rfl
                  have q4 : vs 4 = (.pointer (some ⟨pb, 0, none⟩)) := hvs 4 _ _ rfl rfl
                  have q5 : vs 5 = (.int .u8 (c.toNat : Int)) := hvs 5 _ _ rfl rfl
                  have q6 : vs 6 = (.pointer (some ⟨pb, 0, none⟩)) := hvs 6 _ _ rfl rfl
                  have q7 : vs 7 = (.pointer (some ⟨pb, 0, none⟩)) := hvs 7 _ _ rfl rfl
                  have q8 : vs 8 = (.pointer (some ⟨pb, c.toNat, none⟩)) := hvs 8 _ _ rfl rfl
                  have q9 : vs 9 = (.slice (some ⟨g, 0, none⟩) rl rcap) := hvs 9 _ _ rfl rfl
                  have q10 : vs 10 = (.int .i64 (rl : Int)) := hvs 10 _ _ rfl rfl
                  have q11 : vs 11 = (.int .i64 ((L : Int) + (rl : Int))) := hvs 11 _ _ rfl rfl
                  clear hvs
                  simp only [List.take_succ_cons, List.take_zero, List.drop_succ_cons, List.drop_zero, putAll, Act.put, List.setIfInBounds_toArray, List.set_cons_zero, List.set_cons_succ, Nat.reduceAdd, q0, q1, q2, q3, q4, q5, q6, q7, q8, q9, q10, q11]
                  clear q0 q1 q2 q3 q4 q5 q6 q7 q8 q9 q10 q11
                  go_wp2_with fail
                  go_roundg (n - (i + 1))
                  case measure => omega
                  case rel => exact ⟨i + 1, rfl, by omega, by first | rfl | go_num, by rw [HTK.out, List.length_append, HL.out, HRL9.out]; first | rfl | go_num, by rw [HTK.out]; have h9 := hI.2; rw [if_pos (by first | rfl | decide | simp)] at h9; exact h9, hI.1⟩
            · obtain rfl : n = i := by omega
              have hta2 : s.take n = s := List.take_of_length_le (by rw [HN.out]; exact Nat.le_refl _)
              have HRD : Hid (RdB wr (.slice (some ⟨bb, 0, none⟩) N N) (repF s)) := Lw.hid (by
                have h1 := own_of_buf (by unfold maxLen; omega) hbuf
                rw [hta2, bfB_full HNN.out] at h1
                have h2 := Rd.own h1
                unfold RdB
                rw [HNN.out]; exact h2)
              clear hbuf
              go_wp2_with (refine wpList_strBA rfl _ _ _ rfl _ _ rfl HRD.out Tryz.underlying113 Tryz.underlying5 Tryz.underlying9 ?_)
              go_ret
              exact ⟨rfl, HKX.out.trans HKX2.out (fun _ _ h => h)⟩
  · have hb1 : decide ((32 : Int) ≤ (n : Int)) = false := decide_eq_false (by omega)
    go_enter Tryz.func173, Tryz.ntmps173
    go_wp2_with fail
    go_loopg [5, 6, 10] n (fun gk s5 s6 s10 wx => ∃ k : Nat, gk = n - k ∧ k ≤ n ∧ s10 = .int .i64 (k : Int) ∧ s5 = .int .i64 ((n - k + (repF (s.take k)).length : Nat) : Int) ∧ s6 = .bool ((s.take k).any specB) ∧ Kept (fun _ => False) w wx)
    case atStart => exact ⟨0, rfl, Nat.zero_le _, rfl, by rw [Nat.sub_zero]; rfl, rfl, Kept.refl _ _⟩
    case round =>
      obtain ⟨k, rfl, hk, rfl, rfl, rfl, hkx⟩ := hrel
      have HKX := Lw.hid hkx
      clear hkx
      by_cases hlt : k < n
      · obtain ⟨c, hc⟩ : ∃ c, s[k]? = some c := ⟨_, List.getElem?_eq_getElem (by rw [HN.out]; exact hlt)⟩
        have g0 := BA_get hc
        have hc256 := c.toNat_lt
        have htk : s.take (k + 1) = s.take k ++ [c] := by
          obtain ⟨hl, he⟩ := List.getElem?_eq_some_iff.1 hc
          rw [List.take_succ_eq_append_getElem hl, he]
        have hlk := repF_len (s.take k)
        rw [List.length_take, HN.out, Nat.min_eq_left (by omega)] at hlk
        have HTK1 : Hid ((repF (s.take (k + 1))).length = (repF (s.take k)).length + (repB c).length) := Lw.hid (by rw [htk, repF_app, List.length_append, repF_cons, List.length_append]; rfl)
        have HTK2 : Hid ((s.take (k + 1)).any specB = ((s.take k).any specB || specB c)) := Lw.hid (by rw [htk, List.any_append]; simp)
        obtain ⟨lk, hlk2⟩ : ∃ l, (repF (s.take k)).length = l := ⟨_, rfl⟩
        rw [hlk2] at hlk HTK1 ⊢
        obtain ⟨yn, hyn⟩ : ∃ b, (s.take k).any specB = b := ⟨_, rfl⟩
        rw [hyn] at HTK2 ⊢
        obtain ⟨sz, hszz⟩ : ∃ z, n - k + lk = z := ⟨_, rfl⟩
        have hszb : sz = n - k + lk ∧ sz ≤ 4000 := by omega
        rw [hszz]
        clear hyn hlk2 hc htk hszz
        cases hsp : specB c with
        | false =>
          have hcell := (HR.out.kept HKX.out).plain c hsp
          have HL : Hid ((repB c).length = 1) := Lw.hid (by rw [repB_plain hsp]; rfl)
          rw [hsp] at HTK2
          clear hsp
          go_wp2_with fail
          go_roundg (n - (k + 1))
          case measure => omega
          case rel => exact ⟨k + 1, rfl, by omega, by first | rfl | go_num, by rw [HTK1.out, HL.out]; congr 2; omega, by rw [HTK2.out, Bool.or_false], HKX.out⟩
        | true =>
          obtain ⟨g, rcap, hr1, hr2⟩ := (HR.out.kept HKX.out).spec c hsp
          obtain ⟨rl, hrl9⟩ : ∃ l, (repB c).length = l := ⟨_, rfl⟩
          have hrb := repB_len c
          rw [hrl9] at hr1 hrb HTK1
          rw [hsp] at HTK2
          clear hsp hrl9 hr2
          have HVW : Hid (wrap64 ((sz : Int) + ((rl : Int) - 1)) = ((n - (k + 1) + (lk + rl) : Nat) : Int)) := Lw.hid (by unfold wrap64; omega)
          go_wp2_with fail
          go_roundg (n - (k + 1))
          case measure => omega
          case rel => exact ⟨k + 1, rfl, by omega, by first | rfl | go_num, by rw [HTK1.out]; first | rw [HVW.out] | (congr 1; omega), by rw [HTK2.out, Bool.or_true], HKX.out⟩
      · obtain rfl : n = k := by omega
        have hta : s.take n = s := List.take_of_length_le (by rw [HN.out]; exact Nat.le_refl _)
        obtain ⟨yn, hgoal⟩ : ∃ b, s.any specB = b := ⟨_, rfl⟩
        rw [hta, Nat.sub_self, Nat.zero_add, hgoal]
        have HRW := Lw.hid (HR.out.kept HKX.out)
        cases hany : s.any specB with
        | false =>
          have HF : Hid (repF s = s) := Lw.hid (repF_none s hany)
          rw [hany] at hgoal
          clear hany
          subst hgoal
          go_wp2_with fail
          go_ret
          rw [HF.out]
          exact ⟨rfl, HKX.out⟩
        | true =>
          rw [hany] at hgoal
          clear hany
          subst hgoal
          obtain ⟨wk, hwk⟩ : ∃ wk : World, wk = wr := ⟨_, rfl⟩
          subst hwk
          obtain ⟨N, hNN⟩ : ∃ N, (repF s).length = N := ⟨_, rfl⟩
          have HNN := Lw.hid hNN
          rw [hNN] at hrl ⊢
          clear hNN
          go_wp2_with (refine wpList_mk rfl _ _ _ rfl Tryz.underlying113 hi hz0 hz1 hz2 .i64 .i64 _ _ N rfl rfl rfl rfl (by omega) (by unfold maxLen; omega) ?_; intro bb wm hbb ho hk9 hlt9; have HO := Lw.hid ho; have HKM := Lw.hid hk9; clear ho hk9)
          have hbw : wk.heap.size ≤ bb := Nat.le_of_eq hbb.out.symm
          have hB0 : BufAt wm bb N (bfB [] N) := buf_of_own (bfB_len (Nat.zero_le _)) (by rw [← made_bufB]; exact HO.out)
          have HB0 := Lw.hid hB0
          clear hB0 HO
          go_loopg [13, 14] n (fun gk s13 s14 wx => ∃ i : Nat, gk = n - i ∧ i ≤ n ∧ s14 = .int .i64 (i : Int) ∧ s13 = .int .i64 ((repF (s.take i)).length : Int) ∧ BufAt wx bb N (bfB (repF (s.take i)) N) ∧ Kept (fun _ => False) wk wx)
          case atStart => exact ⟨0, rfl, Nat.zero_le _, rfl, rfl, HB0.out, HKM.out⟩
          case round =>
            clear HB0 HKM
            obtain ⟨i, rfl, hin, rfl, rfl, hbuf, hkx⟩ := hrel
            have HBU := Lw.hid hbuf; have HKX2 := Lw.hid hkx
            by_cases hil : i < n
            · obtain ⟨c, hc⟩ : ∃ c, s[i]? = some c := ⟨_, List.getElem?_eq_getElem (by rw [HN.out]; exact hil)⟩
              have g0 := BA_get hc
              have hc256 := c.toNat_lt
              have htk : s.take (i + 1) = s.take i ++ [c] := by
                obtain ⟨hl, he⟩ := List.getElem?_eq_some_iff.1 hc
                rw [List.take_succ_eq_append_getElem hl, he]
              have HTK : Hid (repF (s.take (i + 1)) = repF (s.take i) ++ repB c) := Lw.hid (by rw [htk, repF_app, repF_cons]; simp [repF])
              have hfit : (repF (s.take i)).length + (repB c).length ≤ N := by
                have h1 : repF s = repF (s.take (i + 1)) ++ repF (s.drop (i + 1)) := by rw [← repF_app, List.take_append_drop]
                have h2 := congrArg List.length h1
                rw [List.length_append, HTK.out, List.length_append, HNN.out] at h2
                omega
              obtain ⟨P, hP⟩ : ∃ P, repF (s.take i) = P := ⟨_, rfl⟩
              rw [hP] at hbuf HBU HTK hfit ⊢
              obtain ⟨L, hL⟩ : ∃ L, P.length = L := ⟨_, rfl⟩
              have HL := Lw.hid hL
              rw [hL] at hfit ⊢
              have hrb := repB_len c
              have hLN : L < N := by omega
              clear hc htk hP hL hkx
              cases hsp : specB c with
              | false =>
                have hcell := (HRW.out.kept HKX2.out).plain c hsp
                obtain ⟨xv, hxv⟩ := buf_cell hbuf L hLN
                have hfr := buf_free hbuf L
                have HS2 := Lw.hid (buf_set hbuf L c)
                have HRB := Lw.hid (repB_plain hsp)
                clear hsp hbuf
                go_wp2_with fail
                go_roundg (n - (i + 1))
                case measure => omega
                case rel => exact ⟨i + 1, rfl, by omega, by first | rfl | go_num, by rw [HTK.out, HRB.out, List.length_append, HL.out]; rfl, by rw [HTK.out, HRB.out, ← bfB_set c (by rw [HL.out]; exact hLN), HL.out]; exact HS2.out, HKX2.out.set bb L (fun h => by omega) _⟩
              | true =>
                obtain ⟨g, rcap, hcw, hr2⟩ := HRW.out.spec c hsp
                obtain ⟨rl, hrl9⟩ : ∃ l, (repB c).length = l := ⟨_, rfl⟩
                have HRL9 := Lw.hid hrl9
                have HCW := Lw.hid hcw
                have HR2 : Hid (Rd wk 1 (.slice (some ⟨g, 0, none⟩) rl rcap) rl ((repB c).map bv)) := Lw.hid (by unfold RdB at hr2; rw [hrl9] at hr2; exact hr2)
                have hcell := HKX2.out.cell hcw (fun h => h)
                rw [hrl9] at hcell hrb hfit HCW
                clear hsp hbuf hcw hr2 hrl9
                go_wp2_with fail
                refine wp_region_set 12 (fun D (_ : Unit) wz => Kept (fun _ => False) wk wz ∧ BufAt wz bb N (bfB (if D 10 = true then P ++ repB c else P) N)) (fun _ _ _ _ => True) [gV (.int .i64 (L : Int)), gV (.slice (some ⟨bb, 0, none⟩) N N), gV (.int .i64 (L : Int)), gV (.slice (some ⟨bb, L, none⟩) (N - L) (N - L)), gV (.pointer (some ⟨pb, 0, none⟩)), gV (.int .u8 (c.toNat : Int)), gV (.pointer (some ⟨pb, 0, none⟩)), gV (.pointer (some ⟨pb, 0, none⟩)), gV (.pointer (some ⟨pb, c.toNat, none⟩)), gV (.slice (some ⟨g, 0, none⟩) rl rcap), gV (.int .i64 (rl : Int)), gV (.int .i64 ((L : Int) + (rl : Int)))] (()) (by kernel_rfl) (by kernel_rfl) (⟨HKX2.out.drew, buf_kept HBU.out (Kept.refl (fun _ => False) _).drew (fun h => h)⟩) ?_ ?_
                · -- each operation by itself
                  refine gsteps_cons (fun D γ a' w' hI hD0 hdep hcl hag hlt hf K hK => ?_) ?_
                  · have s13 := hag.same 13 (by decide)
                    clear hlt
                    clear hag
                    go_wp2_with fail
                    exact hK _ () _ ⟨hI.1, by have h := hI.2; simpa using h⟩ trivial rfl
                  refine gsteps_cons (fun D γ a' w' hI hD0 hdep hcl hag hlt hf K hK => ?_) ?_
                  · have s12 := hag.same 12 (by decide)
                    clear hlt
                    clear hag
                    go_wp2_with fail
                    exact hK _ () _ ⟨hI.1, by have h := hI.2; simpa using h⟩ trivial rfl
                  refine gsteps_cons (fun D γ a' w' hI hD0 hdep hcl hag hlt hf K hK => ?_) ?_
                  · have s13 := hag.same 13 (by decide)
                    clear hlt
                    clear hag
                    go_wp2_with fail
                    exact hK _ () _ ⟨hI.1, by have h := hI.2; simpa using h⟩ trivial rfl
                  refine gsteps_cons (fun D γ a' w' hI hD0 hdep hcl hag hlt hf K hK => ?_) ?_
                  · obtain ⟨⟨_, h1, rfl⟩, ⟨_, h2, rfl⟩, -⟩ : SFacts _ _ a' w' [1, 2] := hf
                    clear hlt
                    clear hag
                    go_wp2_with fail
                    exact hK _ () _ ⟨hI.1, by have h := hI.2; simpa using h⟩ trivial rfl
                  refine gsteps_cons (fun D γ a' w' hI hD0 hdep hcl hag hlt hf K hK => ?_) ?_
                  · have s0 := hag.same 0 (by decide)
                    clear hlt
                    clear hag
                    go_wp2_with fail
                    exact hK _ () _ ⟨hI.1, by have h := hI.2; simpa using h⟩ trivial rfl
                  refine gsteps_cons (fun D γ a' w' hI hD0 hdep hcl hag hlt hf K hK => ?_) ?_
                  · have s15 := hag.same 15 (by decide)
                    clear hlt
                    clear hag
                    go_wp2_with fail
                    exact hK _ () _ ⟨hI.1, by have h := hI.2; simpa using h⟩ trivial rfl
                  refine gsteps_cons (fun D γ a' w' hI hD0 hdep hcl hag hlt hf K hK => ?_) ?_
                  · obtain ⟨⟨_, h4, rfl⟩, -⟩ : SFacts _ _ a' w' [4] := hf
                    clear hlt
                    clear hag
                    go_wp2_with fail
                    exact hK _ () _ ⟨hI.1, by have h := hI.2; simpa using h⟩ trivial rfl
                  refine gsteps_cons (fun D γ a' w' hI hD0 hdep hcl hag hlt hf K hK => ?_) ?_
                  · obtain ⟨⟨_, h6, rfl⟩, -⟩ : SFacts _ _ a' w' [6] := hf
                    clear hlt
                    clear hag
                    go_wp2_with fail
                    exact hK _ () _ ⟨hI.1, by have h := hI.2; simpa using h⟩ trivial rfl
                  refine gsteps_cons (fun D γ a' w' hI hD0 hdep hcl hag hlt hf K hK => ?_) ?_
                  · obtain ⟨⟨_, h7, rfl⟩, ⟨_, h5, rfl⟩, -⟩ : SFacts _ _ a' w' [7, 5] := hf
                    clear hlt
                    clear hag
                    go_wp2_with fail
                    exact hK _ () _ ⟨hI.1, by have h := hI.2; simpa using h⟩ trivial rfl
                  refine gsteps_cons (fun D γ a' w' hI hD0 hdep hcl hag hlt hf K hK => ?_) ?_
                  · obtain ⟨⟨_, h8, rfl⟩, -⟩ : SFacts _ _ a' w' [8] := hf
                    clear hlt
                    clear hag
                    have x0 := hI.1.cell HCW.out (fun h => h)
                    go_wp2_with fail
                    exact hK _ () _ ⟨hI.1, by have h := hI.2; simpa using h⟩ trivial rfl
                  refine gsteps_cons (fun D γ a' w' hI hD0 hdep hcl hag hlt hf K hK => ?_) ?_
                  · obtain ⟨⟨_, h3, rfl⟩, ⟨_, h9, rfl⟩, -⟩ : SFacts _ _ a' w' [3, 9] := hf
                    clear hlt
                    clear hag
                    have hb := hI.2
                    rw [if_neg (by rw [hD0]; simp)] at hb
                    refine wpList_copy rfl _ _ _ _ rfl EBf (.slice (some ⟨bb, 0, none⟩) N N) N _ (own_of_buf (by unfold maxLen; omega) hb) L (some ⟨bb, L, none⟩) (N - L) (by simp [Act.eval, h3]) (fun _ => ⟨bb, rfl, rfl⟩) _ rl ((repB c).map bv) (by simp [Act.eval, h9]) (HR2.out.kept hI.1 (fun _ _ h => h)) (fun u hu => by obtain ⟨x, _, rfl⟩ := List.mem_map.1 hu; rfl) (by omega) ?_
                    intro w9 ho hg
                    go_wp2_with fail
                    exact hK _ () _ ⟨hI.1.grown hg (fun k hk hl => by have e : k = bb := (by cases hk; rfl); omega), by rw [if_pos (by simp)]; exact buf_copied HL.out HRL9.out hfit ho⟩ trivial rfl
                  refine gsteps_cons (fun D γ a' w' hI hD0 hdep hcl hag hlt hf K hK => ?_) ?_
                  · obtain ⟨⟨_, h0, rfl⟩, ⟨_, h10, rfl⟩, -⟩ : SFacts _ _ a' w' [0, 10] := hf
                    clear hlt
                    clear hag
                    go_wp2_with fail
                    exact hK _ () _ ⟨hI.1, by have h := hI.2; simpa using h⟩ trivial rfl
                  exact trivial
                · intro vs γ w' hI hvs
                  have q0 : vs 0 = (.int .i64 (L : Int)) := hvs 0 _ _ rfl rfl
                  have q1 : vs 1 = (.slice (some ⟨bb, 0, none⟩) N N) := hvs 1 _ _ rfl rfl
                  have q2 : vs 2 = (.int .i64 (L : Int)) := hvs 2 _ _ rfl rfl
                  have q3 : vs 3 = (.slice (some ⟨bb, L, none⟩) (N - L) (N - L)) := hvs 3 _ _ rfl rfl
                  have q4 : vs 4 = (.pointer (some ⟨pb, 0, none⟩)) := hvs 4 _ _ rfl rfl
                  have q5 : vs 5 = (.int .u8 (c.toNat : Int)) := hvs 5 _ _ rfl rfl
                  have q6 : vs 6 = (.pointer (some ⟨pb, 0, none⟩)) := hvs 6 _ _ rfl rfl
                  have q7 : vs 7 = (.pointer (some ⟨pb, 0, none⟩)) := hvs 7 _ _ rfl rfl
                  have q8 : vs 8 = (.pointer (some ⟨pb, c.toNat, none⟩)) := hvs 8 _ _ rfl rfl
                  have q9 : vs 9 = (.slice (some ⟨g, 0, none⟩) rl rcap) := hvs 9 _ _ rfl rfl
                  have q10 : vs 10 = (.int .i64 (rl : Int)) := hvs 10 _ _ rfl rfl
                  have q11 : vs 11 = (.int .i64 ((L : Int) + (rl : Int))) := hvs 11 _ _ rfl rfl
                  clear hvs
                  simp only [List.take_succ_cons, List.take_zero, List.drop_succ_cons, List.drop_zero, putAll, Act.put, List.setIfInBounds_toArray, List.set_cons_zero, List.set_cons_succ, Nat.reduceAdd, q0, q1, q2, q3, q4, q5, q6, q7, q8, q9, q10, q11]
                  clear q0 q1 q2 q3 q4 q5 q6 q7 q8 q9 q10 q11
                  go_wp2_with fail
                  go_roundg (n - (i + 1))
                  case measure => omega
                  case rel => exact ⟨i + 1, rfl, by omega, by first | rfl | go_num, by rw [HTK.out, List.length_append, HL.out, HRL9.out]; first | rfl | go_num, by rw [HTK.out]; have h9 := hI.2; rw [if_pos (by first | rfl | decide | simp)] at h9; exact h9, hI.1⟩
            · obtain rfl : n = i := by omega
              have hta2 : s.take n = s := List.take_of_length_le (by rw [HN.out]; exact Nat.le_refl _)
              have HRD : Hid (RdB wr (.slice (some ⟨bb, 0, none⟩) N N) (repF s)) := Lw.hid (by
                have h1 := own_of_buf (by unfold maxLen; omega) hbuf
                rw [hta2, bfB_full HNN.out] at h1
                have h2 := Rd.own h1
                unfold RdB
                rw [HNN.out]; exact h2)
              clear hbuf
              go_wp2_with (refine wpList_strBA rfl _ _ _ rfl _ _ rfl HRD.out Tryz.underlying113 Tryz.underlying5 Tryz.underlying9 ?_)
              go_ret
              exact ⟨rfl, HKX.out.trans HKX2.out (fun _ _ h => h)⟩

end Go.Proofs.YtoedopgjonhemaaGreatDoor
