/- PatternAdds, walked. -/
import Derived.Test.YtgedgnhloibclaaAddsP
import Derived.Test.YtgedgnhloibclaaSoftTail
import Derived.Deep.CutBlock
import Derived.Test.YtgedgnhloibclaaOpenStrs
namespace Go.Proofs.Ytgedgnhloibclaa
open Go Go.RowKit Go.Lw
set_option maxRecDepth 100000
set_option linter.unusedVariables false
attribute [local go_sem] BA_toList
theorem repeatL_one (c : UInt8) : ∀ n : Nat, Lib.repeatL [c] n = List.replicate n c
  | 0 => rfl
  | n + 1 => by
    have := repeatL_one c n
    rw [List.replicate_succ, ← this]
    rfl
theorem rep_any (w : World) (c : UInt8) (n : Nat) (hn : n ≤ 3) : Calls Try.prog 23 #[.string (BA [c]), .int .i64 (n : Int)] w fun e w' => e = .returned (.string (BA (List.replicate n c))) ∧ Kept (fun _ => False) w w' := by
  refine (Try.strings_Repeat (BA [c]) n w (by omega) (by rw [BA_size]; simp; omega)).mono ?_
  rintro e w' ⟨rfl, hb⟩
  rw [BA_list, repeatL_one]
  exact ⟨rfl, (Kept.of_below hb).mono (fun k hk h => by omega)⟩
/-- The last part's letters. -/
def lastB (l : List Sg) : List UInt8 := match l.getLast? with
  | some x => x.b
  | none => []
theorem lastB_snoc (l : List Sg) (x : Sg) : lastB (l ++ [x]) = x.b := by simp [lastB]
def low (c : UInt8) : UInt8 := UInt8.ofNat (97 + c.toNat % 3)
theorem low_bv (c : UInt8) : Value.int .u8 (97 + (c.toNat : Int) % 3) = bv (low c) := by
  unfold bv low
  congr 1
  simp only [UInt8.toNat_ofNat']
  omega
theorem low_letter (c : UInt8) : 97 ≤ (low c).toNat ∧ (low c).toNat ≤ 99 := by
  unfold low
  simp only [UInt8.toNat_ofNat']
  omega
theorem patT_len (m : Nat) : ∀ (l : List Sg), m ≤ 2 → (∀ x ∈ l, x.n ≤ 3 ∧ x.b.length ≤ 6) → (patT m l).length ≤ 1 + 20 * l.length
  | [], _, _ => by simp [patT]
  | x :: l, hm, h => by
    have ih := patT_len m l hm (fun y hy => h y (List.mem_cons_of_mem _ hy))
    have h1 := h x List.mem_cons_self
    unfold patT at *
    rw [List.flatMap_cons]
    simp only [List.length_cons, List.length_append] at ih ⊢
    have : (sgP m x).length ≤ 12 := by
      unfold sgP
      cases x.star <;> simp <;> omega
    omega
theorem txtT_len : ∀ (l : List Sg), (∀ x ∈ l, x.n ≤ 3 ∧ x.b.length ≤ 6) → (txtT l).length ≤ 1 + 20 * l.length
  | [], _ => by simp [txtT]
  | x :: l, h => by
    have ih := txtT_len l (fun y hy => h y (List.mem_cons_of_mem _ hy))
    have h1 := h x List.mem_cons_self
    unfold txtT at *
    rw [List.flatMap_cons]
    simp only [List.length_cons, List.length_append] at ih ⊢
    have : (sgS x).length ≤ 12 := by
      unfold sgS
      cases x.star <;> simp <;> omega
    omega
theorem containsAny_eq (l s : List UInt8) : Lib.containsAny l s = l.any (fun c => s.contains c) := by
  induction l with
  | nil => rfl
  | cons b l ih =>
    unfold Lib.containsAny at *
    unfold Lib.indexAny
    rw [List.any_cons]
    cases h : s.contains b with
    | true => simp
    | false =>
      have hge := Lib.indexAny_ge s l
      simp only [Bool.false_eq_true, if_false, Bool.false_or]
      rw [← ih]
      by_cases h2 : Lib.indexAny l s = -1
      · simp [h2]
      · rw [if_neg (by simpa using h2)]
        apply decide_eq_decide.2
        omega
theorem adds_any (m : Nat) {l : List Sg} (h : ∀ x ∈ l, letters x.b) : Lib.containsAny (patT (m + 1) l) [42, 63] = wakeF l := by
  rw [containsAny_eq, ← adds_has m h]
  congr 1
  funext c
  rw [Bool.eq_iff_iff]
  simp
theorem patT_ascii (m : Nat) {l : List Sg} (h : ∀ x ∈ l, letters x.b) : ∀ c ∈ patT m l, c.toNat < 128 := by
  intro c hc
  unfold patT at hc
  rcases List.mem_cons.1 hc with rfl | hc
  · decide
  · obtain ⟨x, hx, hc⟩ := List.mem_flatMap.1 hc
    unfold sgP at hc
    rcases List.mem_append.1 hc with hc | hc
    · split at hc
      · obtain ⟨_, rfl⟩ := List.mem_replicate.1 hc
        decide
      · simp at hc
    · rcases List.mem_append.1 hc with hc | hc
      · obtain ⟨_, rfl⟩ := List.mem_replicate.1 hc
        decide
      · rcases List.mem_append.1 hc with hc | hc
        · have := h x hx c hc
          omega
        · obtain rfl : c = 45 := by simpa using hc
          decide
structure Sgs (l : List Sg) (k : Nat) : Prop where
  len : l.length = k
  let' : ∀ x ∈ l, letters x.b
  few : ∀ x ∈ l, x.n ≤ 3 ∧ x.b.length ≤ 6
theorem Sgs.snoc {l : List Sg} {k : Nat} (h : Sgs l k) {x : Sg} (h1 : letters x.b) (h2 : x.n ≤ 3) (h3 : x.b.length ≤ 6) : Sgs (l ++ [x]) (k + 1) :=
  ⟨by rw [List.length_append, h.len]; rfl, fun y hy => by
    rcases List.mem_append.1 hy with hy | hy
    · exact h.let' y hy
    · obtain rfl : y = x := by simpa using hy
      exact h1, fun y hy => by
    rcases List.mem_append.1 hy with hy | hy
    · exact h.few y hy
    · obtain rfl : y = x := by simpa using hy
      exact ⟨h2, h3⟩⟩
set_option maxHeartbeats 16000000 in
theorem padds_any (w : World) (v : Value) (ls : List (List UInt8)) (hv : Rd w 1 v ls.length (ls.map fun l => .string (BA l))) (hls : ∀ l ∈ ls, l.length ≤ 9223372036854775807) (b0 b1 b2 b3 st : Nat) (h0 : b0 < 256) (h1 : b1 < 256) (h2 : b2 < 256) (h3 : b3 < 256) (hst : st < 256) :
    Calls Try.prog 8 #[v, .agg #[.int .u8 (b0 : Int), .int .u8 (b1 : Int), .int .u8 (b2 : Int), .int .u8 (b3 : Int)], .int .u8 (st : Int)] w fun e w' => e = .returned (.bool true) ∧ Kept (fun _ => False) w w' := by
  have HV := Lw.hid hv; have HLS := Lw.hid hls
  obtain ⟨_, ad, cap, rfl, hc1, hc2, _⟩ := hv
  obtain ⟨N, hN⟩ : ∃ N, ls.length = N := ⟨_, rfl⟩
  have HN := Lw.hid hN
  rw [hN] at HV hc1 ⊢
  unfold maxLen at hc2
  clear hls hN
  go_enter Try.func8, Try.ntmps8
  go_wp2_with fail
  go_loopg [7, 8, 9, 10, 21] N (fun gk s7 s8 s9 s10 s21 wx => ∃ (k : Nat) (l : List Sg), gk = N - k ∧ k ≤ N ∧ k ≤ 4 ∧ Sgs l k ∧ s7 = .string (BA (patT 1 l)) ∧ s8 = .string (BA (txtT l)) ∧ s9 = .string (BA (patT 2 l)) ∧ s10 = .string (BA (lastB l)) ∧ s21 = .int .i64 (k : Int) ∧ Kept (fun _ => False) (w.alloc (.cells #[.int .u8 (b0 : Int), .int .u8 (b1 : Int), .int .u8 (b2 : Int), .int .u8 (b3 : Int)] 38)) wx)
  case atStart => exact ⟨0, [], rfl, Nat.zero_le _, Nat.zero_le _, ⟨rfl, fun _ h => by simp at h, fun _ h => by simp at h⟩, rfl, rfl, rfl, rfl, rfl, Kept.refl _ _⟩
  case round =>
    obtain ⟨k, l, rfl, hk, hk4, hsg, rfl, rfl, rfl, rfl, rfl, hkk⟩ := hrel
    have HSG := Lw.hid hsg; have HK := Lw.hid hkk
    have HKW := Lw.hid (((Kept.refl (fun _ => False) w).alloc (.cells #[.int .u8 (b0 : Int), .int .u8 (b1 : Int), .int .u8 (b2 : Int), .int .u8 (b3 : Int)] 38)).trans hkk (fun _ _ h => h))
    have z7 : (BA (patT 1 l)).size ≤ 100 := by rw [BA_size]; have := patT_len 1 l (by omega) hsg.few; rw [hsg.len] at this; omega
    have z8 : (BA (txtT l)).size ≤ 100 := by rw [BA_size]; have := txtT_len l hsg.few; rw [hsg.len] at this; omega
    have z9 : (BA (patT 2 l)).size ≤ 100 := by rw [BA_size]; have := patT_len 2 l (by omega) hsg.few; rw [hsg.len] at this; omega
    clear hsg hkk
    by_cases hlt : k < N
    · obtain ⟨u, hu⟩ : ∃ u, ls[k]? = some u := ⟨_, List.getElem?_eq_getElem (by rw [HN.out]; exact hlt)⟩
      have hul := HLS.out u (List.mem_of_getElem? hu)
      obtain ⟨_, a', c', e', _, _, hcell⟩ := HV.out.kept HKW.out (fun _ _ h => h)
      cases e'
      obtain ⟨g9, off9, hae, c0⟩ := hcell k (.string (BA u)) (by rw [List.getElem?_map, hu]; rfl)
      subst hae
      by_cases hk5 : k = 4
      · have hk5b : ((k : Int) == 4) = true := by rw [hk5]; rfl
        clear hk5 hcell hu
        have HSG2 := HSG.out
        have hPL : (patT 1 l).length ≤ 100 := by rw [← BA_size]; exact z7
        have hSL : (txtT l).length ≤ 100 := by rw [← BA_size]; exact z8
        have hTL : (patT 2 l).length ≤ 100 := by rw [← BA_size]; exact z9
        have M1 := Lw.hid (adds_match 0 HSG2.let'); have M2 := Lw.hid (adds_match 1 HSG2.let')
        have M3 := Lw.hid (adds_last (m := 1) HSG2.let' (t := txtT l) (d := 33) (by decide) (by decide))
        have M4 := Lw.hid (adds_first (m := 1) HSG2.let' (txtT l))
        have M5 := Lw.hid (adds_alive 0 HSG2.let')
        have M6 := Lw.hid (adds_any 0 HSG2.let')
        have M7 := Lw.hid (patT_ascii 1 HSG2.let')
        simp only [Nat.reduceAdd] at M1 M2 M5 M6
        have H9 : Hid (∃ (n8 : Nat) (sh : Bool), (txtT l).length = n8 + 1 ∧ (decide (0 < N) && decide (0 < (lastB l).length)) = sh ∧ (sh = true → matchF (patT 1 l) ((txtT l).take n8) = false)) := Lw.hid (by
          refine ⟨(txtT l).length - 1, _, by unfold txtT; simp, rfl, fun hsh => ?_⟩
          rcases List.eq_nil_or_concat l with rfl | ⟨l', x, rfl⟩
          · simp [lastB] at hsh
          · rw [List.concat_eq_append] at *
            refine adds_short HSG2.let' (fun hb => ?_)
            rw [lastB_snoc, hb] at hsh
            simp at hsh)
        obtain ⟨n8, sh, h81, h82, h83⟩ := H9.out
        have H83 := Lw.hid h83
        have zB := BA_size (lastB l)
        have e8 := BA_head (txtT l) n8
        have zS8 : (BA (txtT l)).size = n8 + 1 := by rw [BA_size]; exact h81
        have hsh1 : sh = false → 0 < N → (lastB l).length = 0 := fun h h2 => by
          rw [h] at h82
          simp only [Bool.and_eq_false_iff, decide_eq_false_iff_not] at h82
          omega
        have hsh2 : sh = true → 0 < N ∧ 0 < (lastB l).length := fun h => by
          rw [h] at h82
          simpa using h82
        have HSH := Lw.hid (And.intro hsh1 hsh2)
        clear HSG2 h81 h82 h83 hsh1 hsh2 H9
        generalize patT 1 l = P at *
        generalize patT 2 l = T at *
        generalize txtT l = S at *
        generalize lastB l = B at *
        have HPL := Lw.hid hPL; have HSL := Lw.hid hSL; have HTL := Lw.hid hTL
        have a33 := BA_append S [33]
        have a121 := BA_append [121] S
        have l33 : (⟨#[33]⟩ : ByteArray) = BA [33] := rfl
        have l121 : (⟨#[121]⟩ : ByteArray) = BA [121] := rfl
        have l4263 : (⟨#[42, 63]⟩ : ByteArray) = BA [42, 63] := rfl
        have y1 : (BA [33]).size = 1 := BA_size _
        have y2 : (BA [121]).size = 1 := BA_size _
        simp only [List.cons_append, List.nil_append] at a121
        clear hPL hSL hTL
        go_wp2_with fail
        refine (match_any _ P S (by have := HPL.out; omega) (by have := HSL.out; omega)).mono ?_
        rw [M1.out]
        rintro e w1 ⟨rfl, k1⟩
        have K1 := Lw.hid (HKW.out.trans k1 (fun _ _ h => h))
        clear k1
        go_wp2_with fail
        refine (match_any _ T S (by have := HTL.out; omega) (by have := HSL.out; omega)).mono ?_
        rw [M2.out]
        rintro e w2 ⟨rfl, k2⟩
        have K2 := Lw.hid (K1.out.trans k2 (fun _ _ h => h))
        clear k2
        go_wp2_with fail
        refine (match_any _ P (S ++ [33]) (by have := HPL.out; omega) (by rw [List.length_append]; have := HSL.out; simp; omega)).mono ?_
        rw [M3.out]
        rintro e w3 ⟨rfl, k3⟩
        have K3 := Lw.hid (K2.out.trans k3 (fun _ _ h => h))
        clear k3
        go_wp2_with fail
        refine (match_any _ P (121 :: S) (by have := HPL.out; omega) (by rw [List.length_cons]; have := HSL.out; omega)).mono ?_
        rw [M4.out]
        rintro e w4 ⟨rfl, k4⟩
        have K4 := Lw.hid (K3.out.trans k4 (fun _ _ h => h))
        clear k4
        have HEND : ∀ wz, Kept (fun _ => False) w wz → True := fun _ _ => trivial
        clear HEND
        cases sh with
        | true =>
          have H84 := Lw.hid (H83.out rfl)
          have hN9 := (HSH.out.2 rfl).1
          have hB9 := (HSH.out.2 rfl).2
          have hb1 : decide (0 < N) = true := decide_eq_true hN9
          go_wp2_with fail
          refine (match_any _ P (S.take n8) (by have := HPL.out; omega) (by rw [List.length_take]; have := HSL.out; omega)).mono ?_
          rw [H84.out]
          rintro e w5 ⟨rfl, k5⟩
          have K5 := Lw.hid (K4.out.trans k5 (fun _ _ h => h))
          clear k5
          go_wp2_with fail
          refine (alive_any _ P (by have := HPL.out; omega)).mono ?_
          rw [M5.out]
          rintro e w6 ⟨rfl, k6⟩
          have K6 := Lw.hid (K5.out.trans k6 (fun _ _ h => h))
          clear k6
          go_wp2_with fail
          refine (Try.strings_ContainsAny_laid (BA P) (BA [42, 63]) _ (by rw [BA_size]; have := HPL.out; omega) (by rw [BA_size]; simp) (fun j b h => M7.out b (List.mem_of_getElem? h)) (fun j b h => by
            have hb := List.mem_of_getElem? h
            rw [BA_list] at hb
            have : b = 42 ∨ b = 63 := by simpa using hb
            rcases this with rfl | rfl <;> decide)).mono ?_
          rw [BA_list, BA_list, M6.out]
          rintro e w7 ⟨rfl, k7⟩
          have K7 := Lw.hid (K6.out.trans (Kept.of_below k7) (fun k hk h => by have := K6.out.size; omega))
          clear k7
          go_wp2_with fail
          refine (pwakes_any _).mono ?_
          rintro e w8 ⟨rfl, k8⟩
          have K8 := Lw.hid (K7.out.trans k8 (fun _ _ h => h))
          clear k8
          go_wp2_with fail
          go_ret
          exact ⟨rfl, K8.out⟩
        | false =>
          have K5 := K4
          by_cases hN9 : 0 < N
          · have hB9 := HSH.out.1 rfl hN9
            rw [hB9] at zB
            go_wp2_with fail
            refine (alive_any _ P (by have := HPL.out; omega)).mono ?_
            rw [M5.out]
            rintro e w6 ⟨rfl, k6⟩
            have K6 := Lw.hid (K5.out.trans k6 (fun _ _ h => h))
            clear k6
            go_wp2_with fail
            refine (Try.strings_ContainsAny_laid (BA P) (BA [42, 63]) _ (by rw [BA_size]; have := HPL.out; omega) (by rw [BA_size]; simp) (fun j b h => M7.out b (List.mem_of_getElem? h)) (fun j b h => by
              have hb := List.mem_of_getElem? h
              rw [BA_list] at hb
              have : b = 42 ∨ b = 63 := by simpa using hb
              rcases this with rfl | rfl <;> decide)).mono ?_
            rw [BA_list, BA_list, M6.out]
            rintro e w7 ⟨rfl, k7⟩
            have K7 := Lw.hid (K6.out.trans (Kept.of_below k7) (fun k hk h => by have := K6.out.size; omega))
            clear k7
            go_wp2_with fail
            refine (pwakes_any _).mono ?_
            rintro e w8 ⟨rfl, k8⟩
            have K8 := Lw.hid (K7.out.trans k8 (fun _ _ h => h))
            clear k8
            go_wp2_with fail
            go_ret
            exact ⟨rfl, K8.out⟩
          · have hb1 : decide (0 < N) = false := decide_eq_false hN9
            exact absurd (by omega) hN9
      · have hk5b : ((k : Int) == 4) = false := by simp; omega
        have hk3 : k ≤ 3 := by omega
        clear hk5
        have e6 := BA_min u 6 6 rfl
        have zu := BA_size u
        obtain ⟨q, hq⟩ : ∃ q, u.take 6 = q := ⟨_, rfl⟩
        have hql : q.length ≤ 6 := by rw [← hq]; exact List.length_take_le _ _
        rw [hq] at e6
        have hqs := BA_size q
        obtain ⟨n, hn⟩ : ∃ n, q.length = n := ⟨_, rfl⟩
        have HN6 := Lw.hid hn
        rw [hn] at hqs hql
        clear hcell hu hq hn
        go_wp2_with (refine wpList_bytes rfl _ _ _ rfl (BA q) rfl Try.underlying9 Try.underlying22 Try.underlying5 (by rw [hqs]; unfold maxLen; omega) ?_; intro g cap6 w1 hg hrow hrd hk1 hsz)
        rw [BA_list] at hrow hrd
        have HCAP : Hid (n ≤ cap6 ∧ cap6 ≤ maxLen) := Lw.hid (by
          obtain ⟨a, cap', e, h1, h2, _⟩ := hrd.open
          cases e
          rw [HN6.out] at h1
          exact ⟨h1, h2⟩)
        have HROW := Lw.hid hrow; have HK1 := Lw.hid hk1; have HG := Lw.hid hg.out
        have hkn9 : n ≤ 6 := hql
        clear c0 e6 zu hqs hrow hrd hk1 hsz hg hul
        go_wp2_with fail
        obtain ⟨w0, rfl⟩ : ∃ w0 : World, w0 = wr := ⟨_, rfl⟩
        go_loopg [36] n (fun gk s36 wx => ∃ (i : Nat) (q' : List UInt8), gk = n - i ∧ i ≤ n ∧ s36 = .int .i64 (i : Int) ∧ q'.length = n ∧ (∀ j c, j < i → q'[j]? = some c → 97 ≤ c.toNat ∧ c.toNat ≤ 99) ∧ RowAt wx g (q'.map bv) ∧ Kept (fun _ => False) w0 wx)
        case atStart => exact ⟨0, q, rfl, Nat.zero_le _, rfl, HN6.out, fun j c h => by omega, HROW.out, HK1.out⟩
        case round =>
          obtain ⟨i, q', rfl, hi, rfl, hq', hlow, hrow, hkk⟩ := hrel
          have HROW2 := Lw.hid hrow; have HKK := Lw.hid hkk; have HQ' := Lw.hid hq'; have HLOW := Lw.hid hlow
          clear hrow hkk hq' hlow
          by_cases hlt2 : i < n
          · obtain ⟨c, hc⟩ : ∃ c, q'[i]? = some c := ⟨_, List.getElem?_eq_getElem (by rw [HQ'.out]; exact hlt2)⟩
            have c0 : wr.cell? ⟨g, i, none⟩ = some (.int .u8 (c.toNat : Int)) := by
              apply HROW2.out.cell
              rw [List.getElem?_map, hc]; rfl
            have f0 : wr.frozen? ⟨g, i, none⟩ = false := HROW2.out.free i (by rw [List.length_map, HQ'.out]; exact hlt2)
            have hc9 := c.toNat_lt
            clear hc
            go_wp2_with fail
            go_roundg (n - (i + 1))
            case measure => omega
            case rel =>
              refine ⟨i + 1, q'.set i (low c), rfl, hlt2, by go_num, by rw [List.length_set]; exact HQ'.out, fun j d hj hd => ?_, ?_, ?_⟩
              · by_cases hji : j = i
                · subst hji
                  rw [List.getElem?_set_self (by rw [HQ'.out]; exact hlt2)] at hd
                  cases hd
                  exact low_letter c
                · rw [List.getElem?_set_ne (Ne.symm hji)] at hd
                  exact HLOW.out j d (by omega) hd
              · have := HROW2.out.stored i (bv (low c))
                rw [List.map_set, low_bv]; exact this
              · exact HKK.out.set g i (fun h => by have := HG.out; omega) _
          · obtain rfl : i = n := by omega
            have hlet : letters q' := fun c hc => by
              obtain ⟨j, hj⟩ := List.getElem?_of_mem hc
              have : j < q'.length := (List.getElem?_eq_some_iff.1 hj).1
              exact HLOW.out j c (by rw [HQ'.out] at this; exact this) hj
            have hrd : RdB wr (.slice (some ⟨g, 0, none⟩) i cap6) q' := by
              have h := HROW2.out.rd 1 i cap6 (by rw [List.length_map, HQ'.out]; omega) HCAP.out.1 HCAP.out.2
              unfold RdB
              rw [HQ'.out]
              exact h
            have HRD := Lw.hid hrd; have HLET := Lw.hid hlet
            have HK2 := Lw.hid (HK.out.trans HKK.out (fun _ _ h => h))
            obtain ⟨bk, hbk, c4⟩ : ∃ bk, bk < 256 ∧ wr.cell? ⟨w.heap.size, k, none⟩ = some (.int .u8 ((bk : Nat) : Int)) := by
              have hb := HK2.out.heap (heap_alloc w _) (fun h => h)
              rcases (by omega : k = 0 ∨ k = 1 ∨ k = 2 ∨ k = 3) with rfl | rfl | rfl | rfl
              · exact ⟨b0, h0, heap_cell hb 0⟩
              · exact ⟨b1, h1, heap_cell hb 1⟩
              · exact ⟨b2, h2, heap_cell hb 2⟩
              · exact ⟨b3, h3, heap_cell hb 3⟩
            clear hrd hlet HLOW HROW HROW2
            go_upto_region 14 with fail
            go_cut [16] (fun s16 wx => ∃ star : Bool, s16 = .bool star ∧ wx = wr)
            case first =>
              go_wp2_with fail
              go_meet
              case rel => exact ⟨_, rfl, rfl⟩
            case rest =>
              obtain ⟨star, rfl, rfl⟩ := hcut
              obtain ⟨m, hm, hm3⟩ : ∃ m : Nat, ((bk : Int) % 4) = (m : Int) ∧ m ≤ 3 := ⟨bk % 4, by omega, by omega⟩
              rw [hm]
              clear c4 hm
              obtain ⟨P, hP⟩ : ∃ P, patT 1 l = P := ⟨_, rfl⟩
              obtain ⟨S, hS⟩ : ∃ S, txtT l = S := ⟨_, rfl⟩
              obtain ⟨T, hT⟩ : ∃ T, patT 2 l = T := ⟨_, rfl⟩
              rw [hP] at z7 ⊢
              rw [hS] at z8 ⊢
              rw [hT] at z9 ⊢
              have HP := Lw.hid hP; have HS := Lw.hid hS; have HT := Lw.hid hT
              obtain ⟨R, hR⟩ : ∃ R, List.replicate m (63 : UInt8) = R := ⟨_, rfl⟩
              obtain ⟨Y, hY⟩ : ∃ Y, List.replicate m (121 : UInt8) = Y := ⟨_, rfl⟩
              have zR : (BA R).size ≤ 3 := by rw [BA_size, ← hR, List.length_replicate]; exact hm3
              have zY : (BA Y).size ≤ 3 := by rw [BA_size, ← hY, List.length_replicate]; exact hm3
              have zq : (BA q').size ≤ 6 := by rw [BA_size, HQ'.out]; exact hkn9
              have HR := Lw.hid hR; have HY := Lw.hid hY
              have l63 : (⟨#[63]⟩ : ByteArray) = BA [63] := rfl
              have l121 : (⟨#[121]⟩ : ByteArray) = BA [121] := rfl
              have l45 : (⟨#[45]⟩ : ByteArray) = BA [45] := rfl
              have l42 : (⟨#[42]⟩ : ByteArray) = BA [42] := rfl
              have l4242 : (⟨#[42, 42]⟩ : ByteArray) = BA [42, 42] := rfl
              have l122 : (⟨#[122, 122]⟩ : ByteArray) = BA [122, 122] := rfl
              have l0 : (⟨#[]⟩ : ByteArray) = BA [] := rfl
              have y1 : (BA [45]).size = 1 := BA_size _
              have y2 : (BA [42]).size = 1 := BA_size _
              have y3 : (BA [42, 42]).size = 2 := BA_size _
              have y4 : (BA [122, 122]).size = 2 := BA_size _
              have y5 : (BA []).size = 0 := BA_size _
              clear hP hS hT hR hY
              go_wp2_with fail
              refine (rep_any _ 63 m hm3).mono ?_
              rw [HR.out]
              rintro e w2 ⟨rfl, k2⟩
              have HRD2 := Lw.hid (HRD.out.kept k2 (fun _ _ h => h))
              have HK3 := Lw.hid (HK2.out.trans k2 (fun _ _ h => h))
              clear k2 HRD HK2
              cases star with
              | true =>
                obtain ⟨P1, hP1⟩ : ∃ X, P ++ [42] = X := ⟨_, rfl⟩
                have aP1 := BA_append P [42]
                rw [hP1] at aP1
                have zP1 : (BA P1).size ≤ 101 := by rw [← aP1, ByteArray.size_append]; omega
                have HP1 := Lw.hid hP1
                clear hP1
                obtain ⟨T1, hT1⟩ : ∃ X, T ++ [42, 42] = X := ⟨_, rfl⟩
                have aT1 := BA_append T [42, 42]
                rw [hT1] at aT1
                have zT1 : (BA T1).size ≤ 102 := by rw [← aT1, ByteArray.size_append]; omega
                have HT1 := Lw.hid hT1
                clear hT1
                obtain ⟨X1, hX1⟩ : ∃ X, R ++ q' = X := ⟨_, rfl⟩
                have aX1 := BA_append R q'
                rw [hX1] at aX1
                have zX1 : (BA X1).size ≤ 9 := by rw [← aX1, ByteArray.size_append]; omega
                have HX1 := Lw.hid hX1
                clear hX1
                obtain ⟨X2, hX2⟩ : ∃ X, X1 ++ [45] = X := ⟨_, rfl⟩
                have aX2 := BA_append X1 [45]
                rw [hX2] at aX2
                have zX2 : (BA X2).size ≤ 10 := by rw [← aX2, ByteArray.size_append]; omega
                have HX2 := Lw.hid hX2
                clear hX2
                obtain ⟨X3, hX3⟩ : ∃ X, P1 ++ X2 = X := ⟨_, rfl⟩
                have aX3 := BA_append P1 X2
                rw [hX3] at aX3
                have zX3 : (BA X3).size ≤ 111 := by rw [← aX3, ByteArray.size_append]; omega
                have HX3 := Lw.hid hX3
                clear hX3
                obtain ⟨X4, hX4⟩ : ∃ X, T1 ++ X2 = X := ⟨_, rfl⟩
                have aX4 := BA_append T1 X2
                rw [hX4] at aX4
                have zX4 : (BA X4).size ≤ 112 := by rw [← aX4, ByteArray.size_append]; omega
                have HX4 := Lw.hid hX4
                clear hX4
                obtain ⟨V1, hV1⟩ : ∃ X, [122, 122] ++ Y = X := ⟨_, rfl⟩
                have aV1 := BA_append [122, 122] Y
                rw [hV1] at aV1
                have zV1 : (BA V1).size ≤ 5 := by rw [← aV1, ByteArray.size_append]; omega
                have HV1 := Lw.hid hV1
                clear hV1
                obtain ⟨V2, hV2⟩ : ∃ X, V1 ++ q' = X := ⟨_, rfl⟩
                have aV2 := BA_append V1 q'
                rw [hV2] at aV2
                have zV2 : (BA V2).size ≤ 11 := by rw [← aV2, ByteArray.size_append]; omega
                have HV2 := Lw.hid hV2
                clear hV2
                obtain ⟨V3, hV3⟩ : ∃ X, V2 ++ [45] = X := ⟨_, rfl⟩
                have aV3 := BA_append V2 [45]
                rw [hV3] at aV3
                have zV3 : (BA V3).size ≤ 12 := by rw [← aV3, ByteArray.size_append]; omega
                have HV3 := Lw.hid hV3
                clear hV3
                obtain ⟨V4, hV4⟩ : ∃ X, S ++ V3 = X := ⟨_, rfl⟩
                have aV4 := BA_append S V3
                rw [hV4] at aV4
                have zV4 : (BA V4).size ≤ 112 := by rw [← aV4, ByteArray.size_append]; omega
                have HV4 := Lw.hid hV4
                clear hV4
                go_wp2_with (refine wpList_strBA rfl _ _ _ rfl _ q' rfl HRD2.out Try.underlying22 Try.underlying5 Try.underlying9 ?_)
                refine (quote_any _ q' (by rw [HQ'.out]; omega)).mono ?_
                rw [quote_letters HLET.out]
                rintro e w3 ⟨rfl, k1⟩
                have HRD3 := Lw.hid (HRD2.out.kept k1 (fun _ _ h => h))
                have HK4 := Lw.hid (HK3.out.trans k1 (fun _ _ h => h))
                clear k1
                go_wp2_with (refine wpList_strBA rfl _ _ _ rfl _ q' rfl HRD3.out Try.underlying22 Try.underlying5 Try.underlying9 ?_)
                refine (quote_any _ q' (by rw [HQ'.out]; omega)).mono ?_
                rw [quote_letters HLET.out]
                rintro e w4 ⟨rfl, k2⟩
                have HRD4 := Lw.hid (HRD3.out.kept k2 (fun _ _ h => h))
                have HK5 := Lw.hid (HK4.out.trans k2 (fun _ _ h => h))
                clear k2
                go_wp2_with fail
                refine wp_region_tail 10 [stV (.string (BA S)), stV (.string (BA [122, 122])), stV (.int .i64 (m : Int)), stV (.string (BA Y)), stV (.string (BA V1)), stV (.slice (some ⟨g, 0, none⟩) i cap6), stV (.string (BA q')), stV (.string (BA V2)), stV (.string (BA V3)), stV (.string (BA V4))] (by kernel_rfl) (by kernel_rfl) ?_ ?_
                · -- each operation by itself
                  refine ssteps_cons (fun a' w' hI hag hf K hK => ?_) ?_
                  · have s8 := hag.same 8 (by decide)
                    clear hag
                    go_wp2_with fail
                    exact hK _ _ hI (Kept.refl _ _) rfl
                  refine ssteps_cons (fun a' w' hI hag hf K hK => ?_) ?_
                  · have s18 := hag.same 18 (by decide)
                    clear hag
                    go_wp2_with fail
                    exact hK _ _ hI (Kept.refl _ _) rfl
                  refine ssteps_cons (fun a' w' hI hag hf K hK => ?_) ?_
                  · have s15 := hag.same 15 (by decide)
                    clear hag
                    go_wp2_with fail
                    exact hK _ _ hI (Kept.refl _ _) rfl
                  refine ssteps_cons (fun a' w' hI hag hf K hK => ?_) ?_
                  · obtain ⟨⟨_, h2, rfl⟩, -⟩ : SFacts _ _ a' w' [2] := hf
                    clear hag
                    go_wp2_with fail
                    refine (rep_any _ 121 m hm3).mono ?_
                    rw [HY.out]
                    rintro e wn ⟨rfl, hkn⟩
                    go_wp2_with fail
                    exact hK _ _ (hI.trans hkn (fun _ _ h => h)) hkn rfl
                  refine ssteps_cons (fun a' w' hI hag hf K hK => ?_) ?_
                  · obtain ⟨⟨_, h1, rfl⟩, ⟨_, h3, rfl⟩, -⟩ : SFacts _ _ a' w' [1, 3] := hf
                    clear hag
                    go_wp2_with fail
                    exact hK _ _ hI (Kept.refl _ _) rfl
                  refine ssteps_cons (fun a' w' hI hag hf K hK => ?_) ?_
                  · have s13 := hag.same 13 (by decide)
                    clear hag
                    go_wp2_with fail
                    exact hK _ _ hI (Kept.refl _ _) rfl
                  refine ssteps_cons (fun a' w' hI hag hf K hK => ?_) ?_
                  · obtain ⟨⟨_, h5, rfl⟩, -⟩ : SFacts _ _ a' w' [5] := hf
                    clear hag
                    refine wpList_strBA rfl _ _ _ rfl (.slice (some ⟨g, 0, none⟩) i cap6) q' (by simp [Act.eval, h5]) (HRD4.out.kept hI (fun _ _ h => h)) Try.underlying22 Try.underlying5 Try.underlying9 ?_
                    exact hK _ _ hI (Kept.refl _ _) rfl
                  refine ssteps_cons (fun a' w' hI hag hf K hK => ?_) ?_
                  · obtain ⟨⟨_, h4, rfl⟩, ⟨_, h6, rfl⟩, -⟩ : SFacts _ _ a' w' [4, 6] := hf
                    clear hag
                    go_wp2_with fail
                    exact hK _ _ hI (Kept.refl _ _) rfl
                  refine ssteps_cons (fun a' w' hI hag hf K hK => ?_) ?_
                  · obtain ⟨⟨_, h7, rfl⟩, -⟩ : SFacts _ _ a' w' [7] := hf
                    clear hag
                    go_wp2_with fail
                    exact hK _ _ hI (Kept.refl _ _) rfl
                  refine ssteps_cons (fun a' w' hI hag hf K hK => ?_) ?_
                  · obtain ⟨⟨_, h0, rfl⟩, ⟨_, h8, rfl⟩, -⟩ : SFacts _ _ a' w' [0, 8] := hf
                    clear hag
                    go_wp2_with fail
                    exact hK _ _ hI (Kept.refl _ _) rfl
                  exact trivial
                · intro vs w5 hI hvs
                  have q0 : vs 0 = (.string (BA S)) := hvs 0 _ _ rfl rfl
                  have q1 : vs 1 = (.string (BA [122, 122])) := hvs 1 _ _ rfl rfl
                  have q2 : vs 2 = (.int .i64 (m : Int)) := hvs 2 _ _ rfl rfl
                  have q3 : vs 3 = (.string (BA Y)) := hvs 3 _ _ rfl rfl
                  have q4 : vs 4 = (.string (BA V1)) := hvs 4 _ _ rfl rfl
                  have q5 : vs 5 = (.slice (some ⟨g, 0, none⟩) i cap6) := hvs 5 _ _ rfl rfl
                  have q6 : vs 6 = (.string (BA q')) := hvs 6 _ _ rfl rfl
                  have q7 : vs 7 = (.string (BA V2)) := hvs 7 _ _ rfl rfl
                  have q8 : vs 8 = (.string (BA V3)) := hvs 8 _ _ rfl rfl
                  have q9 : vs 9 = (.string (BA V4)) := hvs 9 _ _ rfl rfl
                  clear hvs
                  simp only [List.take_succ_cons, List.take_zero, List.drop_succ_cons, List.drop_zero, putAll, Act.put, List.setIfInBounds_toArray, List.set_cons_zero, List.set_cons_succ, Nat.reduceAdd, q0, q1, q2, q3, q4, q5, q6, q7, q8, q9]
                  clear q0 q1 q2 q3 q4 q5 q6 q7 q8 q9
                  have HRD5 := Lw.hid (HRD4.out.kept hI (fun _ _ h => h))
                  have HK6 := Lw.hid (HK5.out.trans hI (fun _ _ h => h))
                  clear hI
                  go_wp2_with (refine wpList_strBA rfl _ _ _ rfl _ q' rfl HRD5.out Try.underlying22 Try.underlying5 Try.underlying9 ?_)
                  go_roundg (N - (k + 1))
                  case measure => omega
                  case rel =>
                    refine ⟨k + 1, l ++ [⟨true, m, q'⟩], rfl, hlt, by omega, HSG.out.snoc HLET.out hm3 (by rw [HQ'.out]; exact hkn9), ?_, ?_, ?_, by rw [lastB_snoc], by go_num, HK6.out⟩
                    · rw [patT_snoc, HP.out, ← HX3.out, ← HX2.out, ← HX1.out, ← HR.out, ← HP1.out]; simp [sgP]
                    · rw [txtT_snoc, HS.out, ← HV4.out, ← HV3.out, ← HV2.out, ← HV1.out, ← HY.out]; simp [sgS]
                    · rw [patT_snoc, HT.out, ← HX4.out, ← HX2.out, ← HX1.out, ← HR.out, ← HT1.out]; simp [sgP]
              | false =>
                obtain ⟨X1, hX1⟩ : ∃ X, R ++ q' = X := ⟨_, rfl⟩
                have aX1 := BA_append R q'
                rw [hX1] at aX1
                have zX1 : (BA X1).size ≤ 9 := by rw [← aX1, ByteArray.size_append]; omega
                have HX1 := Lw.hid hX1
                clear hX1
                obtain ⟨X2, hX2⟩ : ∃ X, X1 ++ [45] = X := ⟨_, rfl⟩
                have aX2 := BA_append X1 [45]
                rw [hX2] at aX2
                have zX2 : (BA X2).size ≤ 10 := by rw [← aX2, ByteArray.size_append]; omega
                have HX2 := Lw.hid hX2
                clear hX2
                obtain ⟨X3, hX3⟩ : ∃ X, P ++ X2 = X := ⟨_, rfl⟩
                have aX3 := BA_append P X2
                rw [hX3] at aX3
                have zX3 : (BA X3).size ≤ 110 := by rw [← aX3, ByteArray.size_append]; omega
                have HX3 := Lw.hid hX3
                clear hX3
                obtain ⟨X4, hX4⟩ : ∃ X, T ++ X2 = X := ⟨_, rfl⟩
                have aX4 := BA_append T X2
                rw [hX4] at aX4
                have zX4 : (BA X4).size ≤ 110 := by rw [← aX4, ByteArray.size_append]; omega
                have HX4 := Lw.hid hX4
                clear hX4
                obtain ⟨V1, hV1⟩ : ∃ X, [] ++ Y = X := ⟨_, rfl⟩
                have aV1 := BA_append [] Y
                rw [hV1] at aV1
                have zV1 : (BA V1).size ≤ 3 := by rw [← aV1, ByteArray.size_append]; omega
                have HV1 := Lw.hid hV1
                clear hV1
                obtain ⟨V2, hV2⟩ : ∃ X, V1 ++ q' = X := ⟨_, rfl⟩
                have aV2 := BA_append V1 q'
                rw [hV2] at aV2
                have zV2 : (BA V2).size ≤ 9 := by rw [← aV2, ByteArray.size_append]; omega
                have HV2 := Lw.hid hV2
                clear hV2
                obtain ⟨V3, hV3⟩ : ∃ X, V2 ++ [45] = X := ⟨_, rfl⟩
                have aV3 := BA_append V2 [45]
                rw [hV3] at aV3
                have zV3 : (BA V3).size ≤ 10 := by rw [← aV3, ByteArray.size_append]; omega
                have HV3 := Lw.hid hV3
                clear hV3
                obtain ⟨V4, hV4⟩ : ∃ X, S ++ V3 = X := ⟨_, rfl⟩
                have aV4 := BA_append S V3
                rw [hV4] at aV4
                have zV4 : (BA V4).size ≤ 110 := by rw [← aV4, ByteArray.size_append]; omega
                have HV4 := Lw.hid hV4
                clear hV4
                go_wp2_with (refine wpList_strBA rfl _ _ _ rfl _ q' rfl HRD2.out Try.underlying22 Try.underlying5 Try.underlying9 ?_)
                refine (quote_any _ q' (by rw [HQ'.out]; omega)).mono ?_
                rw [quote_letters HLET.out]
                rintro e w3 ⟨rfl, k1⟩
                have HRD3 := Lw.hid (HRD2.out.kept k1 (fun _ _ h => h))
                have HK4 := Lw.hid (HK3.out.trans k1 (fun _ _ h => h))
                clear k1
                go_wp2_with (refine wpList_strBA rfl _ _ _ rfl _ q' rfl HRD3.out Try.underlying22 Try.underlying5 Try.underlying9 ?_)
                refine (quote_any _ q' (by rw [HQ'.out]; omega)).mono ?_
                rw [quote_letters HLET.out]
                rintro e w4 ⟨rfl, k2⟩
                have HRD4 := Lw.hid (HRD3.out.kept k2 (fun _ _ h => h))
                have HK5 := Lw.hid (HK4.out.trans k2 (fun _ _ h => h))
                clear k2
                go_wp2_with fail
                refine wp_region_tail 10 [stV (.string (BA S)), stV (.string (BA [])), stV (.int .i64 (m : Int)), stV (.string (BA Y)), stV (.string (BA V1)), stV (.slice (some ⟨g, 0, none⟩) i cap6), stV (.string (BA q')), stV (.string (BA V2)), stV (.string (BA V3)), stV (.string (BA V4))] (by kernel_rfl) (by kernel_rfl) ?_ ?_
                · -- each operation by itself
                  refine ssteps_cons (fun a' w' hI hag hf K hK => ?_) ?_
                  · have s8 := hag.same 8 (by decide)
                    clear hag
                    go_wp2_with fail
                    exact hK _ _ hI (Kept.refl _ _) rfl
                  refine ssteps_cons (fun a' w' hI hag hf K hK => ?_) ?_
                  · have s18 := hag.same 18 (by decide)
                    clear hag
                    go_wp2_with fail
                    exact hK _ _ hI (Kept.refl _ _) rfl
                  refine ssteps_cons (fun a' w' hI hag hf K hK => ?_) ?_
                  · have s15 := hag.same 15 (by decide)
                    clear hag
                    go_wp2_with fail
                    exact hK _ _ hI (Kept.refl _ _) rfl
                  refine ssteps_cons (fun a' w' hI hag hf K hK => ?_) ?_
                  · obtain ⟨⟨_, h2, rfl⟩, -⟩ : SFacts _ _ a' w' [2] := hf
                    clear hag
                    go_wp2_with fail
                    refine (rep_any _ 121 m hm3).mono ?_
                    rw [HY.out]
                    rintro e wn ⟨rfl, hkn⟩
                    go_wp2_with fail
                    exact hK _ _ (hI.trans hkn (fun _ _ h => h)) hkn rfl
                  refine ssteps_cons (fun a' w' hI hag hf K hK => ?_) ?_
                  · obtain ⟨⟨_, h1, rfl⟩, ⟨_, h3, rfl⟩, -⟩ : SFacts _ _ a' w' [1, 3] := hf
                    clear hag
                    go_wp2_with fail
                    exact hK _ _ hI (Kept.refl _ _) rfl
                  refine ssteps_cons (fun a' w' hI hag hf K hK => ?_) ?_
                  · have s13 := hag.same 13 (by decide)
                    clear hag
                    go_wp2_with fail
                    exact hK _ _ hI (Kept.refl _ _) rfl
                  refine ssteps_cons (fun a' w' hI hag hf K hK => ?_) ?_
                  · obtain ⟨⟨_, h5, rfl⟩, -⟩ : SFacts _ _ a' w' [5] := hf
                    clear hag
                    refine wpList_strBA rfl _ _ _ rfl (.slice (some ⟨g, 0, none⟩) i cap6) q' (by simp [Act.eval, h5]) (HRD4.out.kept hI (fun _ _ h => h)) Try.underlying22 Try.underlying5 Try.underlying9 ?_
                    exact hK _ _ hI (Kept.refl _ _) rfl
                  refine ssteps_cons (fun a' w' hI hag hf K hK => ?_) ?_
                  · obtain ⟨⟨_, h4, rfl⟩, ⟨_, h6, rfl⟩, -⟩ : SFacts _ _ a' w' [4, 6] := hf
                    clear hag
                    go_wp2_with fail
                    exact hK _ _ hI (Kept.refl _ _) rfl
                  refine ssteps_cons (fun a' w' hI hag hf K hK => ?_) ?_
                  · obtain ⟨⟨_, h7, rfl⟩, -⟩ : SFacts _ _ a' w' [7] := hf
                    clear hag
                    go_wp2_with fail
                    exact hK _ _ hI (Kept.refl _ _) rfl
                  refine ssteps_cons (fun a' w' hI hag hf K hK => ?_) ?_
                  · obtain ⟨⟨_, h0, rfl⟩, ⟨_, h8, rfl⟩, -⟩ : SFacts _ _ a' w' [0, 8] := hf
                    clear hag
                    go_wp2_with fail
                    exact hK _ _ hI (Kept.refl _ _) rfl
                  exact trivial
                · intro vs w5 hI hvs
                  have q0 : vs 0 = (.string (BA S)) := hvs 0 _ _ rfl rfl
                  have q1 : vs 1 = (.string (BA [])) := hvs 1 _ _ rfl rfl
                  have q2 : vs 2 = (.int .i64 (m : Int)) := hvs 2 _ _ rfl rfl
                  have q3 : vs 3 = (.string (BA Y)) := hvs 3 _ _ rfl rfl
                  have q4 : vs 4 = (.string (BA V1)) := hvs 4 _ _ rfl rfl
                  have q5 : vs 5 = (.slice (some ⟨g, 0, none⟩) i cap6) := hvs 5 _ _ rfl rfl
                  have q6 : vs 6 = (.string (BA q')) := hvs 6 _ _ rfl rfl
                  have q7 : vs 7 = (.string (BA V2)) := hvs 7 _ _ rfl rfl
                  have q8 : vs 8 = (.string (BA V3)) := hvs 8 _ _ rfl rfl
                  have q9 : vs 9 = (.string (BA V4)) := hvs 9 _ _ rfl rfl
                  clear hvs
                  simp only [List.take_succ_cons, List.take_zero, List.drop_succ_cons, List.drop_zero, putAll, Act.put, List.setIfInBounds_toArray, List.set_cons_zero, List.set_cons_succ, Nat.reduceAdd, q0, q1, q2, q3, q4, q5, q6, q7, q8, q9]
                  clear q0 q1 q2 q3 q4 q5 q6 q7 q8 q9
                  have HRD5 := Lw.hid (HRD4.out.kept hI (fun _ _ h => h))
                  have HK6 := Lw.hid (HK5.out.trans hI (fun _ _ h => h))
                  clear hI
                  go_wp2_with (refine wpList_strBA rfl _ _ _ rfl _ q' rfl HRD5.out Try.underlying22 Try.underlying5 Try.underlying9 ?_)
                  go_roundg (N - (k + 1))
                  case measure => omega
                  case rel =>
                    refine ⟨k + 1, l ++ [⟨false, m, q'⟩], rfl, hlt, by omega, HSG.out.snoc HLET.out hm3 (by rw [HQ'.out]; exact hkn9), ?_, ?_, ?_, by rw [lastB_snoc], by go_num, HK6.out⟩
                    · rw [patT_snoc, HP.out, ← HX3.out, ← HX2.out, ← HX1.out, ← HR.out]; simp [sgP]
                    · rw [txtT_snoc, HS.out, ← HV4.out, ← HV3.out, ← HV2.out, ← HV1.out, ← HY.out]; simp [sgS]
                    · rw [patT_snoc, HT.out, ← HX4.out, ← HX2.out, ← HX1.out, ← HR.out]; simp [sgP]
    · obtain rfl : N = k := by omega
      have HSG2 := HSG.out
      have hPL : (patT 1 l).length ≤ 100 := by rw [← BA_size]; exact z7
      have hSL : (txtT l).length ≤ 100 := by rw [← BA_size]; exact z8
      have hTL : (patT 2 l).length ≤ 100 := by rw [← BA_size]; exact z9
      have M1 := Lw.hid (adds_match 0 HSG2.let'); have M2 := Lw.hid (adds_match 1 HSG2.let')
      have M3 := Lw.hid (adds_last (m := 1) HSG2.let' (t := txtT l) (d := 33) (by decide) (by decide))
      have M4 := Lw.hid (adds_first (m := 1) HSG2.let' (txtT l))
      have M5 := Lw.hid (adds_alive 0 HSG2.let')
      have M6 := Lw.hid (adds_any 0 HSG2.let')
      have M7 := Lw.hid (patT_ascii 1 HSG2.let')
      simp only [Nat.reduceAdd] at M1 M2 M5 M6
      have H9 : Hid (∃ (n8 : Nat) (sh : Bool), (txtT l).length = n8 + 1 ∧ (decide (0 < N) && decide (0 < (lastB l).length)) = sh ∧ (sh = true → matchF (patT 1 l) ((txtT l).take n8) = false)) := Lw.hid (by
        refine ⟨(txtT l).length - 1, _, by unfold txtT; simp, rfl, fun hsh => ?_⟩
        rcases List.eq_nil_or_concat l with rfl | ⟨l', x, rfl⟩
        · simp [lastB] at hsh
        · rw [List.concat_eq_append] at *
          refine adds_short HSG2.let' (fun hb => ?_)
          rw [lastB_snoc, hb] at hsh
          simp at hsh)
      obtain ⟨n8, sh, h81, h82, h83⟩ := H9.out
      have H83 := Lw.hid h83
      have zB := BA_size (lastB l)
      have e8 := BA_head (txtT l) n8
      have zS8 : (BA (txtT l)).size = n8 + 1 := by rw [BA_size]; exact h81
      have hsh1 : sh = false → 0 < N → (lastB l).length = 0 := fun h h2 => by
        rw [h] at h82
        simp only [Bool.and_eq_false_iff, decide_eq_false_iff_not] at h82
        omega
      have hsh2 : sh = true → 0 < N ∧ 0 < (lastB l).length := fun h => by
        rw [h] at h82
        simpa using h82
      have HSH := Lw.hid (And.intro hsh1 hsh2)
      clear HSG2 h81 h82 h83 hsh1 hsh2 H9
      generalize patT 1 l = P at *
      generalize patT 2 l = T at *
      generalize txtT l = S at *
      generalize lastB l = B at *
      have HPL := Lw.hid hPL; have HSL := Lw.hid hSL; have HTL := Lw.hid hTL
      have a33 := BA_append S [33]
      have a121 := BA_append [121] S
      have l33 : (⟨#[33]⟩ : ByteArray) = BA [33] := rfl
      have l121 : (⟨#[121]⟩ : ByteArray) = BA [121] := rfl
      have l4263 : (⟨#[42, 63]⟩ : ByteArray) = BA [42, 63] := rfl
      have y1 : (BA [33]).size = 1 := BA_size _
      have y2 : (BA [121]).size = 1 := BA_size _
      simp only [List.cons_append, List.nil_append] at a121
      clear hPL hSL hTL
      go_wp2_with fail
      refine (match_any _ P S (by have := HPL.out; omega) (by have := HSL.out; omega)).mono ?_
      rw [M1.out]
      rintro e w1 ⟨rfl, k1⟩
      have K1 := Lw.hid (HKW.out.trans k1 (fun _ _ h => h))
      clear k1
      go_wp2_with fail
      refine (match_any _ T S (by have := HTL.out; omega) (by have := HSL.out; omega)).mono ?_
      rw [M2.out]
      rintro e w2 ⟨rfl, k2⟩
      have K2 := Lw.hid (K1.out.trans k2 (fun _ _ h => h))
      clear k2
      go_wp2_with fail
      refine (match_any _ P (S ++ [33]) (by have := HPL.out; omega) (by rw [List.length_append]; have := HSL.out; simp; omega)).mono ?_
      rw [M3.out]
      rintro e w3 ⟨rfl, k3⟩
      have K3 := Lw.hid (K2.out.trans k3 (fun _ _ h => h))
      clear k3
      go_wp2_with fail
      refine (match_any _ P (121 :: S) (by have := HPL.out; omega) (by rw [List.length_cons]; have := HSL.out; omega)).mono ?_
      rw [M4.out]
      rintro e w4 ⟨rfl, k4⟩
      have K4 := Lw.hid (K3.out.trans k4 (fun _ _ h => h))
      clear k4
      have HEND : ∀ wz, Kept (fun _ => False) w wz → True := fun _ _ => trivial
      clear HEND
      cases sh with
      | true =>
        have H84 := Lw.hid (H83.out rfl)
        have hN9 := (HSH.out.2 rfl).1
        have hB9 := (HSH.out.2 rfl).2
        have hb1 : decide (0 < N) = true := decide_eq_true hN9
        go_wp2_with fail
        refine (match_any _ P (S.take n8) (by have := HPL.out; omega) (by rw [List.length_take]; have := HSL.out; omega)).mono ?_
        rw [H84.out]
        rintro e w5 ⟨rfl, k5⟩
        have K5 := Lw.hid (K4.out.trans k5 (fun _ _ h => h))
        clear k5
        go_wp2_with fail
        refine (alive_any _ P (by have := HPL.out; omega)).mono ?_
        rw [M5.out]
        rintro e w6 ⟨rfl, k6⟩
        have K6 := Lw.hid (K5.out.trans k6 (fun _ _ h => h))
        clear k6
        go_wp2_with fail
        refine (Try.strings_ContainsAny_laid (BA P) (BA [42, 63]) _ (by rw [BA_size]; have := HPL.out; omega) (by rw [BA_size]; simp) (fun j b h => M7.out b (List.mem_of_getElem? h)) (fun j b h => by
          have hb := List.mem_of_getElem? h
          rw [BA_list] at hb
          have : b = 42 ∨ b = 63 := by simpa using hb
          rcases this with rfl | rfl <;> decide)).mono ?_
        rw [BA_list, BA_list, M6.out]
        rintro e w7 ⟨rfl, k7⟩
        have K7 := Lw.hid (K6.out.trans (Kept.of_below k7) (fun k hk h => by have := K6.out.size; omega))
        clear k7
        go_wp2_with fail
        refine (pwakes_any _).mono ?_
        rintro e w8 ⟨rfl, k8⟩
        have K8 := Lw.hid (K7.out.trans k8 (fun _ _ h => h))
        clear k8
        go_wp2_with fail
        go_ret
        exact ⟨rfl, K8.out⟩
      | false =>
        have K5 := K4
        by_cases hN9 : 0 < N
        · have hB9 := HSH.out.1 rfl hN9
          rw [hB9] at zB
          go_wp2_with fail
          refine (alive_any _ P (by have := HPL.out; omega)).mono ?_
          rw [M5.out]
          rintro e w6 ⟨rfl, k6⟩
          have K6 := Lw.hid (K5.out.trans k6 (fun _ _ h => h))
          clear k6
          go_wp2_with fail
          refine (Try.strings_ContainsAny_laid (BA P) (BA [42, 63]) _ (by rw [BA_size]; have := HPL.out; omega) (by rw [BA_size]; simp) (fun j b h => M7.out b (List.mem_of_getElem? h)) (fun j b h => by
            have hb := List.mem_of_getElem? h
            rw [BA_list] at hb
            have : b = 42 ∨ b = 63 := by simpa using hb
            rcases this with rfl | rfl <;> decide)).mono ?_
          rw [BA_list, BA_list, M6.out]
          rintro e w7 ⟨rfl, k7⟩
          have K7 := Lw.hid (K6.out.trans (Kept.of_below k7) (fun k hk h => by have := K6.out.size; omega))
          clear k7
          go_wp2_with fail
          refine (pwakes_any _).mono ?_
          rintro e w8 ⟨rfl, k8⟩
          have K8 := Lw.hid (K7.out.trans k8 (fun _ _ h => h))
          clear k8
          go_wp2_with fail
          go_ret
          exact ⟨rfl, K8.out⟩
        · have hb1 : decide (0 < N) = false := decide_eq_false hN9
          go_wp2_with fail
          refine (alive_any _ P (by have := HPL.out; omega)).mono ?_
          rw [M5.out]
          rintro e w6 ⟨rfl, k6⟩
          have K6 := Lw.hid (K5.out.trans k6 (fun _ _ h => h))
          clear k6
          go_wp2_with fail
          refine (Try.strings_ContainsAny_laid (BA P) (BA [42, 63]) _ (by rw [BA_size]; have := HPL.out; omega) (by rw [BA_size]; simp) (fun j b h => M7.out b (List.mem_of_getElem? h)) (fun j b h => by
            have hb := List.mem_of_getElem? h
            rw [BA_list] at hb
            have : b = 42 ∨ b = 63 := by simpa using hb
            rcases this with rfl | rfl <;> decide)).mono ?_
          rw [BA_list, BA_list, M6.out]
          rintro e w7 ⟨rfl, k7⟩
          have K7 := Lw.hid (K6.out.trans (Kept.of_below k7) (fun k hk h => by have := K6.out.size; omega))
          clear k7
          go_wp2_with fail
          refine (pwakes_any _).mono ?_
          rintro e w8 ⟨rfl, k8⟩
          have K8 := Lw.hid (K7.out.trans k8 (fun _ _ h => h))
          clear k8
          go_wp2_with fail
          go_ret
          exact ⟨rfl, K8.out⟩
theorem padds_below (w : World) (v : Value) (ls : List (List UInt8)) (hv : Rd w 1 v ls.length (ls.map fun l => .string (BA l))) (hls : ∀ l ∈ ls, l.length ≤ maxLen) (b0 b1 b2 b3 st : Nat) (h0 : b0 < 256) (h1 : b1 < 256) (h2 : b2 < 256) (h3 : b3 < 256) (hst : st < 256) :
    Calls Try.prog 8 #[v, .agg #[.int .u8 (b0 : Int), .int .u8 (b1 : Int), .int .u8 (b2 : Int), .int .u8 (b3 : Int)], .int .u8 (st : Int)] w fun e w' => e = .returned (.bool true) ∧ Below w.heap.size w w' :=
  (padds_any w v ls hv hls b0 b1 b2 b3 st h0 h1 h2 h3 hst).mono fun _ _ ⟨e, k⟩ => ⟨e, Below.of_kept k⟩
end Go.Proofs.Ytgedgnhloibclaa
