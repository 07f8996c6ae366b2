/- WordAdds, walked. -/
import Derived.Test.YtifcgeanippepaaDoorWAddsP
import Derived.Test.YtifcgeanippepaaDoorWordWt
import Derived.Test.YtifcgeanippepaaDoorWord8
namespace Go.Proofs.YtifcgeanippepaaDoor
open Go Go.RowKit Go.Lw
set_option maxRecDepth 100000
set_option linter.unusedVariables false
set_option linter.unusedSimpArgs false
attribute [local go_sem] BA_toList
theorem BA_mina (l : List UInt8) (m : Nat) (M : Int) (h : M = m) : (BA l).extract 0 (min (l.length : Int) M).toNat = BA (l.take m) := by
  subst h
  rw [BA_head]
  congr 1
  rw [show (min (l.length : Int) (m : Int)).toNat = min m l.length by omega]
  rw [List.take_eq_take_iff]; omega
theorem pc_app (a b : List (Prt × Value)) : (a ++ b).flatMap PC = a.flatMap PC ++ b.flatMap PC := List.flatMap_append
theorem pc_ones {w : World} {F : Nat → Prop} {ps : List (Prt × Value)} (h : ∀ x ∈ ps, WAt w F x.2 x.1.orw) : ∀ u ∈ ps.flatMap PC, u.oneCell' = true := by
  intro u hu
  obtain ⟨x, hx, hu⟩ := List.mem_flatMap.1 hu
  obtain ⟨a, n, c, e⟩ := (h x hx).slice
  exact pc_one' x (by rw [e]; rfl) u hu
/-- Where the loop stands that puts the parts together. -/
def ARel (w2 : World) (L : List Prt) (gk : Nat) (v s65 : Value) (wx : World) : Prop :=
  ∃ (k : Nat) (ps : List (Prt × Value)), gk = L.length - k ∧ k ≤ L.length ∧ s65 = .int .i64 (k : Int) ∧ ps.map Prod.fst = (L.take k).foldl putF [] ∧ WOwn wx (fun b => b < w2.heap.size) w2.heap.size v ps ∧ Kept (fun b => w2.heap.size ≤ b) w2 wx
theorem ARel.next {w2 wr w9 : World} {L : List Prt} {k : Nat} {p : Prt} {v : Value} {l : List Prt} {x : Ending} {v' : Value} (hp : L[k]? = some p) (hl : l = (L.take k).foldl putF []) (h : PutPost wr (fun b => b < w2.heap.size) w2.heap.size v l p x w9) (hx : x = .returned v') (hk : Kept (fun b => w2.heap.size ≤ b) w2 wr) (hv : ∀ b, blk v b → w2.heap.size ≤ b) (hlt : k < L.length) :
    ARel w2 L (L.length - (k + 1)) v' (.int .i64 ((k : Int) + 1)) w9 := by
  obtain ⟨v9, ps9, hx9, hps, how, kk⟩ := h
  rw [hx] at hx9
  cases hx9
  refine ⟨k + 1, ps9, rfl, hlt, by simp, ?_, how, hk.trans kk (fun b _ hb => hv b hb)⟩
  rw [hps, hl, List.take_add_one, hp, List.foldl_append]
  rfl
set_option maxHeartbeats 40000000 in
theorem wadds_any (w : World) (s0 t0 : List UInt8) (hE : WEnv w) (hs9 : s0.length ≤ 9223372036854775807) (ht9 : t0.length ≤ 9223372036854775807) :
    Calls Tryd.prog 8 #[.string (BA s0), .string (BA t0)] w fun x w' => x = .returned (.bool true) ∧ Kept (fun _ => False) w w' := by
  have HE := Lw.hid hE
  clear hE
  have hs0 := BA_size s0; have ht0 := BA_size t0
  have e1 := BA_mina s0 100 100 rfl
  have e2 := BA_mina t0 100 100 rfl
  obtain ⟨s1, hs⟩ : ∃ s, s0.take 100 = s := ⟨_, rfl⟩
  obtain ⟨t, ht⟩ : ∃ s, t0.take 100 = s := ⟨_, rfl⟩
  have hsl : s1.length ≤ 100 := by rw [← hs]; exact List.length_take_le _ _
  have htl : t.length ≤ 100 := by rw [← ht]; exact List.length_take_le _ _
  rw [hs] at e1; rw [ht] at e2
  have b1 : BA s1 ++ (⟨#[39, 39]⟩ : ByteArray) = BA (s1 ++ [39, 39]) := BA_append s1 [39, 39]
  have z1 : (BA s1).size ≤ 100 := by rw [BA_size]; exact hsl
  obtain ⟨s, hss⟩ : ∃ s, s1 ++ [39, 39] = s := ⟨_, rfl⟩
  have hsl2 : s.length ≤ 102 := by rw [← hss, List.length_append]; simp; omega
  have HSS := Lw.hid hss.symm
  rw [hss] at b1
  have zs : (BA s).size ≤ 102 := by rw [BA_size]; exact hsl2
  have zt : (BA t).size ≤ 100 := by rw [BA_size]; exact htl
  obtain ⟨n0, hn0⟩ : ∃ n, s0.length = n := ⟨_, rfl⟩
  obtain ⟨m0, hm0⟩ : ∃ n, t0.length = n := ⟨_, rfl⟩
  rw [hn0] at e1 hs0 hs9
  rw [hm0] at e2 ht0 ht9
  have HP1 := Lw.hid fun wx hx => parse_any wx s hx (by omega)
  have HP2 := Lw.hid fun wx hx => parse_any wx t hx (by omega)
  have HL2 : Hid (s.length ≤ 102 ∧ t.length ≤ 100) := Lw.hid ⟨hsl2, htl⟩
  have HEK : Hid (∀ wx, Kept (fun _ => False) w wx → WEnv wx) := Lw.hid fun wx k => HE.out.kept k (fun h => h) (fun h => h) (fun h => h)
  clear hs ht hn0 hm0 hss hsl2
  cases hpa : parseW s with
  | error e =>
    have HPA := Lw.hid hpa
    have he0 : ((e : Int) != 0) = true := by have := parseW_ne0 hpa; simp [bne]; omega
    clear hpa
    go_enter Tryd.func8, Tryd.ntmps8
    go_wp2_with fail
    go_quiet (fail)
    go_wp2_with fail
    refine (HP1.out _ (HEK.out _ (kept_drewN' w nq))).mono ?_
    rintro x w1 ⟨hx, k1⟩
    unfold ParsePost at hx
    rw [HPA.out] at hx
    subst hx
    have K1 := Lw.hid ((kept_drewN' w nq).trans k1 (fun _ _ h => h))
    clear k1
    go_wp2_with fail
    refine (HP2.out _ (HEK.out _ K1.out)).mono ?_
    rintro x w2 ⟨hx, k2⟩
    have K2 := Lw.hid (K1.out.trans k2 (fun _ _ h => h))
    obtain ⟨vv, ee, rfl⟩ : ∃ (vv : Value) (ee : Int), x = .returned (.tuple #[vv, .int .i64 ee]) := by
      unfold ParsePost at hx
      split at hx
      · exact ⟨_, _, hx⟩
      · obtain ⟨v, hx, _⟩ := hx; exact ⟨_, _, hx⟩
    clear k2 hx
    go_wp2_with fail
    refine (wakes17_any _ (HEK.out _ K2.out)).mono ?_
    rintro x w3 ⟨rfl, k3⟩
    have K3 := Lw.hid (K2.out.trans k3 (fun _ _ h => h))
    clear k3
    go_wp2_with fail
    go_ret
    exact ⟨rfl, K3.out⟩
  | ok a =>
    have HPA := Lw.hid hpa
    cases hpb : parseW t with
    | error e =>
      have HPB := Lw.hid hpb
      have he0 : ((e : Int) != 0) = true := by have := parseW_ne0 hpb; simp [bne]; omega
      clear hpa hpb
      go_enter Tryd.func8, Tryd.ntmps8
      go_wp2_with fail
      go_quiet (fail)
      go_wp2_with fail
      refine (HP1.out _ (HEK.out _ (kept_drewN' w nq))).mono ?_
      rintro x w1 ⟨hx, k1⟩
      obtain ⟨v1, rfl, ha1⟩ := pp_at hx HPA.out
      have K1 := Lw.hid ((kept_drewN' w nq).trans k1 (fun _ _ h => h))
      clear k1 hx ha1
      go_wp2_with fail
      refine (HP2.out _ (HEK.out _ K1.out)).mono ?_
      rintro x w2 ⟨hx, k2⟩
      have K2 := Lw.hid (K1.out.trans k2 (fun _ _ h => h))
      unfold ParsePost at hx
      rw [HPB.out] at hx
      subst hx
      clear k2
      go_wp2_with fail
      refine (wakes17_any _ (HEK.out _ K2.out)).mono ?_
      rintro x w3 ⟨rfl, k3⟩
      have K3 := Lw.hid (K2.out.trans k3 (fun _ _ h => h))
      clear k3
      go_wp2_with fail
      go_ret
      exact ⟨rfl, K3.out⟩
    | ok b =>
      have HPB := Lw.hid hpb
      obtain ⟨hpc, haa, a0, ha0⟩ := adds_parse HSS.out (by have := HL2.out; omega) hpa hpb
      obtain ⟨c, hc⟩ : ∃ c, b.foldl putF a = c := ⟨_, rfl⟩
      have hcq : textW c ≠ [] := by
        rw [← hc]
        exact text_quoted (fold_quoted b (by rw [ha0]; exact putF_last a0 _ rfl))
      have hcf : (a ++ b).foldl putF [] = c := by rw [List.foldl_append, haa, hc]
      rw [hc] at hpc
      have hct := parse_text hpc
      have hce : (textW c).isEmpty = false := by simpa using hcq
      have HPC := Lw.hid hpc; have HCF := Lw.hid hcf
      have HCT : Hid ((textW c).length ≤ 1000000000) := Lw.hid (by rw [List.length_append] at hct; have := HL2.out; omega)
      have HLB : Hid (a.length ≤ 102 ∧ b.length ≤ 100 ∧ tmass a ≤ 102 ∧ tmass b ≤ 100) := Lw.hid (by
        have h1 := parse_len hpa; have h2 := parse_len hpb; have h3 := HL2.out
        omega)
      have HPX := Lw.hid fun wx hx => parse_any wx (s ++ t) hx (by rw [List.length_append]; have := HL2.out; omega)
      have HAN := Lw.hid (assign_n1 hpb)
      have HAX := Lw.hid fun wx hx => assign_any wx ([110, 95, 49, 61] ++ t) hx (by rw [List.length_append]; have := HL2.out; simp; omega)
      have c1 : BA s ++ BA t = BA (s ++ t) := BA_append s t
      have c2 : (⟨#[110, 95, 49, 61]⟩ : ByteArray) ++ BA t = BA ([110, 95, 49, 61] ++ t) := BA_append [110, 95, 49, 61] t
      obtain ⟨ST, hST⟩ : ∃ q, s ++ t = q := ⟨_, rfl⟩
      obtain ⟨NT, hNT⟩ : ∃ q, [110, 95, 49, 61] ++ t = q := ⟨_, rfl⟩
      rw [hST] at HPC HPX c1
      rw [hNT] at HAN HAX c2
      clear hpa hpb hpc haa ha0 hc hcf hct hcq hST hNT
      go_enter Tryd.func8, Tryd.ntmps8
      go_wp2_with fail
      go_quiet (fail)
      go_wp2_with fail
      refine (HP1.out _ (HEK.out _ (kept_drewN' w nq))).mono ?_
      rintro x w1 ⟨hx, k1⟩
      obtain ⟨v1, rfl, ha1⟩ := pp_at hx HPA.out
      have K1 := Lw.hid ((kept_drewN' w nq).trans k1 (fun _ _ h => h))
      have HA1 := Lw.hid ha1
      clear k1 hx ha1
      go_wp2_with fail
      refine (HP2.out _ (HEK.out _ K1.out)).mono ?_
      rintro x w2 ⟨hx, k2⟩
      obtain ⟨v2, rfl, hb2⟩ := pp_at hx HPB.out
      have K2 := Lw.hid (K1.out.trans k2 (fun _ _ h => h))
      have HA2 := Lw.hid (HA1.out.kept k2 (fun _ _ h => h)); have HB2 := Lw.hid hb2
      clear k2 hx hb2
      go_wp2_with fail
      refine (HPX.out _ (HEK.out _ K2.out)).mono ?_
      rintro x w3 ⟨hx, k3⟩
      obtain ⟨v3, rfl, hc3⟩ := pp_at hx HPC.out
      have K3 := Lw.hid (K2.out.trans k3 (fun _ _ h => h))
      have HA3 := Lw.hid (HA2.out.kept k3 (fun _ _ h => h)); have HB3 := Lw.hid (HB2.out.kept k3 (fun _ _ h => h)); have HC3 := Lw.hid hc3
      clear k3 hx hc3
      go_wp2_with fail
      refine (text_any HCT.out HC3.out).mono ?_
      rintro x w4 ⟨rfl, k4⟩
      have K4 := Lw.hid (K3.out.trans k4 (fun _ _ h => h))
      have ha4 := HA3.out.kept k4 (fun _ _ h => h); have hb4 := HB3.out.kept k4 (fun _ _ h => h)
      have HC4 := Lw.hid (HC3.out.kept k4 (fun _ _ h => h))
      clear k4
      obtain ⟨psa, hpsa, hrda, hbla, hora⟩ := ha4.open
      obtain ⟨psb, hpsb, hrdb, hblb, horb⟩ := hb4.open
      have hla : psa.length = a.length := by rw [← hpsa, List.length_map]
      have hlb : psb.length = b.length := by rw [← hpsb, List.length_map]
      have HLA : Hid (psa.length ≤ 102 ∧ psb.length ≤ 100) := Lw.hid (by have := HLB.out; omega)
      have HRA := Lw.hid hrda; have HRB := Lw.hid hrdb
      have HOA := Lw.hid hora; have HOB := Lw.hid horb
      have HPSA := Lw.hid hpsa; have HPSB := Lw.hid hpsb
      have HB4 := Lw.hid hb4
      have hblb2 : ∀ k, blk v2 k → k < w4.heap.size := fun k hk => (hblb k hk).2
      have HBL2 := Lw.hid hblb2
      clear ha4 hb4 hpsa hpsb hrda hrdb hora horb hbla hblb hla hlb hblb2
      obtain ⟨NA, hNA⟩ : ∃ n, psa.length = n := ⟨_, rfl⟩
      obtain ⟨NB, hNB⟩ : ∃ n, psb.length = n := ⟨_, rfl⟩
      rw [hNA] at HRA; rw [hNB] at HRB; rw [hNA, hNB] at HLA
      have hLA := HLA.out
      have HNA := Lw.hid hNA; have HNB := Lw.hid hNB
      clear hNA hNB
      go_wp2_with (first
        | (at_builtin; refine wpList_app rfl _ _ _ rfl EPt _ 0 [] rfl (World.ownsRow_nil w4 0 46 4) _ NA (psa.flatMap PC) rfl HRA.out (pc_ones HOA.out) (by unfold maxLen; omega) (by omega) ?_; intro ad5 cap5 w5 ho5 hg5 hf5; simp only [Nat.zero_add, List.nil_append] at ho5 hf5; have K5 := Lw.hid ((Kept.refl (fun _ => False) w4).grown hg5 (fun k hk => by cases hk)); have HO5 := Lw.hid ho5; have HF5 := Lw.hid hf5; clear ho5 hg5 hf5)
        | (at_builtin; refine wpList_app rfl _ _ _ rfl EPt _ NA (psa.flatMap PC) rfl HO5.out _ NB (psb.flatMap PC) rfl (Rd.kept K5.out HRB.out (fun _ _ h => h)) (pc_ones HOB.out) (by unfold maxLen; omega) (by omega) ?_; intro ad6 cap6 w6 ho6 hg6 hf6; have K6 := Lw.hid (K5.out.grown hg6 (fun k hk hlt => by
            rcases HF5.out k hk with h' | h'
            · cases h'
            · omega)); have HO6 := Lw.hid ho6; clear ho6 hg6 hf6))
      have HWAB : Hid (WAt w6 (fun b => b < w6.heap.size) (.slice ad6 (NA + NB) cap6) (a ++ b)) := Lw.hid (by
        have hl : (psa ++ psb).length = NA + NB := by rw [List.length_append, HNA.out, HNB.out]
        have hk46 := K6.out.size
        have h := WAt.mk (w := w6) (F := fun b => b < w6.heap.size) (.slice ad6 (NA + NB) cap6) (psa ++ psb) (by rw [hl, pc_app]; exact Rd.own HO6.out) (fun k hk => ⟨own_lt HO6.out k hk, own_lt HO6.out k hk⟩) (fun x hx => by
          rcases List.mem_append.1 hx with hx | hx
          · exact ((HOA.out x hx).kept K6.out (fun _ _ h => h)).mono (fun k hk _ => hk)
          · exact ((HOB.out x hx).kept K6.out (fun _ _ h => h)).mono (fun k hk _ => hk))
        rwa [List.map_append, HPSA.out, HPSB.out] at h)
      have HLN : Hid ((a ++ b).length = NA + NB) := Lw.hid HWAB.out.elem.1.symm
      have HTM : Hid (tmass (a ++ b) ≤ 202) := Lw.hid (by rw [tmass_app]; have := HLB.out; omega)
      have HC6 := Lw.hid (HC4.out.kept K6.out (fun _ _ h => h))
      have HB6 := Lw.hid (HB4.out.kept K6.out (fun _ _ h => h))
      have K7 := Lw.hid (K4.out.trans K6.out (fun _ _ h => h))
      obtain ⟨L, hL⟩ : ∃ L, a ++ b = L := ⟨_, rfl⟩
      obtain ⟨N, hN⟩ : ∃ N, NA + NB = N := ⟨_, rfl⟩
      have hN9 : N ≤ 202 := by omega
      have hNc : ((NA : Int) + (NB : Int)) = (N : Int) := by omega
      rw [hL] at HWAB HLN HTM HCF
      rw [hN] at HWAB HLN
      rw [hN, hNc]
      clear hNc
      clear hL hN HO5 HO6 HF5 K5 K6 HRA HRB HOA HOB HPSA HPSB HA2 HA3 HB2 HB3 HC3 HC4 HB4 HNA HNB hLA HLA HBL2 HP1 HP2 HPX
      have HSTART : Hid (ARel w6 L L.length (.slice none 0 0) (.int .i64 0) w6) := Lw.hid ⟨0, [], rfl, Nat.zero_le _, rfl, rfl, ⟨World.ownsRow_nil _ _ _ _, fun k hk => (by cases hk), fun k hk => hk, fun x hx => (by cases hx)⟩, Kept.refl _ _⟩
      go_loopg [11, 65] L.length (fun gk s11 s65 wx => ARel w6 L gk s11 s65 wx)
      case atStart => exact HSTART.out
      case round =>
        obtain ⟨k, ps, rfl, hk, rfl, hpsl, how, hkk⟩ := hrel
        have hwl : WAt wr (fun b => b < w6.heap.size) (.slice ad6 N cap6) L := HWAB.out.kept hkk (fun k hk h => by omega)
        have HOW := Lw.hid how; have HKK := Lw.hid hkk; have HPL := Lw.hid hpsl
        have hlo : w6.heap.size ≤ wr.heap.size := hkk.size
        have hvlo : ∀ b, blk u11 b → w6.heap.size ≤ b := fun b hb => (how.blk b hb).1
        have HVLO := Lw.hid hvlo
        have hfm := fold_mass (L.take k) []
        rw [← hpsl] at hfm
        have hpsn : ps.length ≤ k := by
          have := hfm.1
          rw [List.length_map, List.length_take] at this
          simp at this; omega
        have htk : tmass (ps.map Prod.fst) ≤ 202 := by
          have h1 := hfm.2
          have h2 : tmass L = tmass (L.take k) + tmass (L.drop k) := by rw [← tmass_app, List.take_append_drop]
          have h3 : tmass ([] : List Prt) = 0 := rfl
          have := HTM.out
          omega
        have HTK := Lw.hid htk
        rw [HLN.out] at hk
        clear how hkk hpsl hfm htk hvlo
        by_cases hlt : k < N
        · obtain ⟨p, hp⟩ : ∃ p, L[k]? = some p := ⟨_, List.getElem?_eq_getElem (by rw [HLN.out]; exact hlt)⟩
          have hpt : p.text.length ≤ 1000 := by have := tmass_mem (List.mem_of_getElem? hp); have := HTM.out; omega
          obtain ⟨b1, o1, oa, on, oc, e1, p0, p1, p2, p3, hao⟩ := hwl.elem.2 k p hp
          subst e1
          have hbl : b1 < wr.heap.size := World.block_lt_of_cell? wr _ p0
          have HAO := Lw.hid hao; have HP := Lw.hid hp
          have hltL : k < L.length := by rw [HLN.out]; exact hlt
          have HLTL := Lw.hid hltL
          clear hwl hao hp hltL
          obtain ⟨wo, rfl⟩ : ∃ wo : World, wo = wr := ⟨_, rfl⟩
          rcases List.eq_nil_or_concat ps with rfl | ⟨qs, x, rfl⟩
          · obtain ⟨ad, cap, rfl, _, _, _⟩ := own_slice HOW.out.own
            have HOWN := Lw.hid HOW.out.own
            rw [show ([] : List (Prt × Value)).length = 0 from rfl] at HOWN HOW
            rw [show ([] : List (Prt × Value)).length = 0 from rfl]
            go_wp2_with fail
            go_quiet (fail)
            go_wp2_with (at_builtin; refine wpList_app rfl _ _ _ rfl EPt _ 0 [] rfl (World.ownsRow.alloc (w := (wo.alloc (.cells #[.int .i64 p.kind, .string (BA p.text), .slice oa on oc, .bool p.quoted] 46)).drewN nq) (HOWN.out.alloc _) _) _ 1 [.int .i64 p.kind, .string (BA p.text), .slice oa on oc, .bool p.quoted] rfl (Rd.lit _ [.int .i64 p.kind, .string (BA p.text), .slice oa on oc, .bool p.quoted] _ 4 _ 1 (by simp) rfl (by unfold maxLen; omega)) (pc_one' (p, .slice oa on oc) rfl) (by unfold maxLen; omega) (by omega) ?_; intro ad9 cap9 w9 ho9 hg9 hf9)
            go_wp2_with fail
            go_roundg (L.length - (k + 1))
            case measure => have := HLN.out; omega
            case rel => exact ARel.next HP.out HPL.out (put_add (p := p) HOW.out HAO.out hlo rfl ho9 ((((Kept.refl (fun _ => False) wo).alloc _).trans (kept_drewN' _ nq) (fun _ _ h => h)).alloc _) hg9 hf9) rfl HKK.out HVLO.out HLTL.out
          · rw [List.concat_eq_append] at *
            obtain ⟨⟨xk, xt, xo, xq⟩, xv⟩ := x
            obtain ⟨xa, xn, xc, exv⟩ := (HOW.out.ors (Prt.mk xk xt xo xq, xv) (by simp)).slice
            obtain rfl : xv = .slice xa xn xc := exv
            obtain ⟨ad0, cap, rfl, _, _, hsome⟩ := own_slice HOW.out.own
            obtain ⟨b0, rfl⟩ := hsome (by simp)
            have hb0 : b0 < wo.heap.size := own_lt HOW.out.own b0 rfl
            clear hsome
            obtain ⟨m, hm⟩ : ∃ m, qs.length = m := ⟨_, rfl⟩
            have HM := Lw.hid hm
            have hlen : (qs ++ [(Prt.mk xk xt xo xq, Value.slice xa xn xc)]).length = m + 1 := by simp [hm]
            have HLEN := Lw.hid hlen
            have each : ∀ j, j < 4 → wo.cell? ⟨b0, m * 4 + j, none⟩ = (PC (Prt.mk xk xt xo xq, Value.slice xa xn xc))[j]? := fun j hj => by
              rw [HOW.out.own.cellAt _ (by rw [hlen]; omega), ← hm, pc_last _ _ _ hj]
            have c0 : wo.cell? ⟨b0, m * 4, none⟩ = some (.int .i64 xk) := each 0 (by decide)
            have c1' : wo.cell? ⟨b0, m * 4 + 1, none⟩ = some (.string (BA xt)) := each 1 (by decide)
            have c3 : wo.cell? ⟨b0, m * 4 + 3, none⟩ = some (.bool xq) := each 3 (by decide)
            have f1 : wo.frozen? ⟨b0, m * 4 + 1, none⟩ = false := HOW.out.own.frozenAt _
            have hx9 : xt.length ≤ 1000 := by
              have h1 : (Prt.mk xk xt xo xq).text.length ≤ tmass ((qs ++ [(Prt.mk xk xt xo xq, Value.slice xa xn xc)]).map Prod.fst) := tmass_mem (List.mem_map.2 ⟨(Prt.mk xk xt xo xq, Value.slice xa xn xc), by simp, rfl⟩)
              have h2 := HTK.out
              have h3 : (Prt.mk xk xt xo xq).text = xt := rfl
              rw [h3] at h1
              omega
            have HOWN := Lw.hid HOW.out.own
            have how' := HOW.out
            rw [hlen] at HOWN how' hpsn
            rw [hlen]
            have HOW := Lw.hid how'
            have HPF := Lw.hid (putF_snoc (qs.map Prod.fst) (.mk xk xt xo xq) p)
            have HMAP : Hid ((qs ++ [(Prt.mk xk xt xo xq, Value.slice xa xn xc)]).map Prod.fst = qs.map Prod.fst ++ [.mk xk xt xo xq]) := Lw.hid (by simp)
            have hgeq : decide ((m : Int) ≥ 0) = true := by simp
            clear each hm hlen how'
            by_cases hkk1 : p.kind = 1
            · have bk : (p.kind == 1) = true := by rw [hkk1]; rfl
              by_cases hx : xk = 1
              · have bx : (xk == 1) = true := by rw [hx]; rfl
                by_cases hq : xq = p.quoted
                · have bq : (xq == p.quoted) = true := by rw [hq]; simp
                  have hcat := BA_append xt p.text
                  have hz1 := BA_size xt
                  have hz2 := BA_size p.text
                  have HPY : Hid (putF ((qs ++ [(Prt.mk xk xt xo xq, Value.slice xa xn xc)]).map Prod.fst) p = (qs ++ [(Prt.mk xk (xt ++ p.text) xo xq, Value.slice xa xn xc)]).map Prod.fst) := Lw.hid (by rw [HMAP.out, HPF.out, if_pos ⟨hkk1, hx, hq⟩]; simp [Prt.kind, Prt.text, Prt.orw, Prt.quoted])
                  obtain ⟨z1', hz1'⟩ : ∃ n, xt.length = n := ⟨_, rfl⟩
                  obtain ⟨z2', hz2'⟩ : ∃ n, p.text.length = n := ⟨_, rfl⟩
                  rw [hz1'] at hz1 hx9; rw [hz2'] at hz2 hpt
                  clear hkk1 hx hq hz1' hz2'
                  go_wp2_with fail
                  go_quiet (fail)
                  go_wp2_with fail
                  go_region
                  go_wp2_with fail
                  go_roundg (L.length - (k + 1))
                  case measure => have := HLN.out; omega
                  case rel => exact ARel.next HP.out HPL.out (put_merge HOW.out HM.out (((Kept.refl (fun _ => False) wo).alloc _).trans (kept_drewN' _ _) (fun _ _ h => h)) (Prt.mk xk (xt ++ p.text) xo xq, Value.slice xa xn xc) _ rfl rfl rfl HPY.out) rfl HKK.out HVLO.out HLTL.out
                · have bq : (xq == p.quoted) = false := by simpa using hq
                  have HPN : Hid (putF ((qs ++ [(Prt.mk xk xt xo xq, Value.slice xa xn xc)]).map Prod.fst) p = (qs ++ [(Prt.mk xk xt xo xq, Value.slice xa xn xc)]).map Prod.fst ++ [p]) := Lw.hid (by rw [HMAP.out, HPF.out, if_neg (fun x => hq x.2.2)])
                  clear hkk1 hx hq
                  go_wp2_with fail
                  go_quiet (fail)
                  go_wp2_with (at_builtin; refine wpList_app rfl _ _ _ rfl EPt _ (m + 1) ((qs ++ [(Prt.mk xk xt xo xq, Value.slice xa xn xc)]).flatMap PC) rfl (World.ownsRow.alloc (w := (wo.alloc (.cells #[.int .i64 p.kind, .string (BA p.text), .slice oa on oc, .bool p.quoted] 46)).drewN nq) (HOWN.out.alloc _) _) _ 1 [.int .i64 p.kind, .string (BA p.text), .slice oa on oc, .bool p.quoted] rfl (Rd.lit _ [.int .i64 p.kind, .string (BA p.text), .slice oa on oc, .bool p.quoted] _ 4 _ 1 (by simp) rfl (by unfold maxLen; omega)) (pc_one' (p, .slice oa on oc) rfl) (by unfold maxLen; omega) (by omega) ?_; intro ad9 cap9 w9 ho9 hg9 hf9)
                  go_wp2_with fail
                  go_roundg (L.length - (k + 1))
                  case measure => have := HLN.out; omega
                  case rel => exact ARel.next HP.out HPL.out (put_add (p := p) HOW.out HAO.out hlo HPN.out (by rw [HLEN.out]; exact ho9) ((((Kept.refl (fun _ => False) wo).alloc _).trans (kept_drewN' _ nq) (fun _ _ h => h)).alloc _) hg9 hf9) rfl HKK.out HVLO.out HLTL.out
              · have bx : (xk == 1) = false := by simpa using hx
                have HPN : Hid (putF ((qs ++ [(Prt.mk xk xt xo xq, Value.slice xa xn xc)]).map Prod.fst) p = (qs ++ [(Prt.mk xk xt xo xq, Value.slice xa xn xc)]).map Prod.fst ++ [p]) := Lw.hid (by rw [HMAP.out, HPF.out, if_neg (fun x => hx x.2.1)])
                clear hkk1 hx
                go_wp2_with fail
                go_quiet (fail)
                go_wp2_with (at_builtin; refine wpList_app rfl _ _ _ rfl EPt _ (m + 1) ((qs ++ [(Prt.mk xk xt xo xq, Value.slice xa xn xc)]).flatMap PC) rfl (World.ownsRow.alloc (w := (wo.alloc (.cells #[.int .i64 p.kind, .string (BA p.text), .slice oa on oc, .bool p.quoted] 46)).drewN nq) (HOWN.out.alloc _) _) _ 1 [.int .i64 p.kind, .string (BA p.text), .slice oa on oc, .bool p.quoted] rfl (Rd.lit _ [.int .i64 p.kind, .string (BA p.text), .slice oa on oc, .bool p.quoted] _ 4 _ 1 (by simp) rfl (by unfold maxLen; omega)) (pc_one' (p, .slice oa on oc) rfl) (by unfold maxLen; omega) (by omega) ?_; intro ad9 cap9 w9 ho9 hg9 hf9)
                go_wp2_with fail
                go_roundg (L.length - (k + 1))
                case measure => have := HLN.out; omega
                case rel => exact ARel.next HP.out HPL.out (put_add (p := p) HOW.out HAO.out hlo HPN.out (by rw [HLEN.out]; exact ho9) ((((Kept.refl (fun _ => False) wo).alloc _).trans (kept_drewN' _ nq) (fun _ _ h => h)).alloc _) hg9 hf9) rfl HKK.out HVLO.out HLTL.out
            · have bk : (p.kind == 1) = false := by simpa using hkk1
              have HPN : Hid (putF ((qs ++ [(Prt.mk xk xt xo xq, Value.slice xa xn xc)]).map Prod.fst) p = (qs ++ [(Prt.mk xk xt xo xq, Value.slice xa xn xc)]).map Prod.fst ++ [p]) := Lw.hid (by rw [HMAP.out, HPF.out, if_neg (fun x => hkk1 x.1)])
              clear hkk1
              go_wp2_with fail
              go_quiet (fail)
              go_wp2_with (at_builtin; refine wpList_app rfl _ _ _ rfl EPt _ (m + 1) ((qs ++ [(Prt.mk xk xt xo xq, Value.slice xa xn xc)]).flatMap PC) rfl (World.ownsRow.alloc (w := (wo.alloc (.cells #[.int .i64 p.kind, .string (BA p.text), .slice oa on oc, .bool p.quoted] 46)).drewN nq) (HOWN.out.alloc _) _) _ 1 [.int .i64 p.kind, .string (BA p.text), .slice oa on oc, .bool p.quoted] rfl (Rd.lit _ [.int .i64 p.kind, .string (BA p.text), .slice oa on oc, .bool p.quoted] _ 4 _ 1 (by simp) rfl (by unfold maxLen; omega)) (pc_one' (p, .slice oa on oc) rfl) (by unfold maxLen; omega) (by omega) ?_; intro ad9 cap9 w9 ho9 hg9 hf9)
              go_wp2_with fail
              go_roundg (L.length - (k + 1))
              case measure => have := HLN.out; omega
              case rel => exact ARel.next HP.out HPL.out (put_add (p := p) HOW.out HAO.out hlo HPN.out (by rw [HLEN.out]; exact ho9) ((((Kept.refl (fun _ => False) wo).alloc _).trans (kept_drewN' _ nq) (fun _ _ h => h)).alloc _) hg9 hf9) rfl HKK.out HVLO.out HLTL.out
        · obtain rfl : k = N := by omega
          have hke : L.take k = L := List.take_of_length_le (by rw [HLN.out]; exact Nat.le_refl _)
          have HWANT : Hid (WAt wr (fun _ => True) u11 c) := Lw.hid (by
            have h := HOW.out.at.mono (G := fun _ => True) (fun _ _ _ => trivial)
            rwa [HPL.out, hke, HCF.out] at h)
          have HC8 := Lw.hid ((HC6.out.mono (G := fun b => b < w6.heap.size) (fun b hb _ => hb)).kept (S := fun b => w6.heap.size ≤ b) HKK.out (fun k hk h => by omega))
          have HB8 := Lw.hid ((HB6.out.mono (G := fun b => b < w6.heap.size) (fun b hb _ => hb)).kept (S := fun b => w6.heap.size ≤ b) HKK.out (fun k hk h => by omega))
          have hk7 := K7.out.size
          have K8 : Hid (Kept (fun _ => False) w wr) := Lw.hid (K7.out.trans HKK.out (fun i hi h => by omega))
          clear hke hlt hwl HOW HKK HPL hpsn
          obtain ⟨wo, rfl⟩ : ∃ wo : World, wo = wr := ⟨_, rfl⟩
          go_wp2_with fail
          refine (HAX.out wo (HEK.out _ K8.out)).mono ?_
          rintro x w9 ⟨hx, k9⟩
          obtain ⟨v9, rfl, hv9⟩ : ∃ v, x = .returned (.tuple #[.string (BA [110, 95, 49]), v, .bool true]) ∧ WAt w9 (fun b => wo.heap.size ≤ b) v b := by
            unfold AssignPost at hx
            rw [HAN.out] at hx
            exact hx
          have K9 := Lw.hid (K8.out.trans k9 (fun _ _ h => h))
          have HV9 := Lw.hid hv9
          have HC9 := Lw.hid (HC8.out.kept k9 (fun _ _ h => h)); have HB9 := Lw.hid (HB8.out.kept k9 (fun _ _ h => h)); have HW9 := Lw.hid (HWANT.out.kept k9 (fun _ _ h => h))
          clear k9 hx hv9
          have hnb : (BA [110, 95, 49] == (⟨#[110, 95, 49]⟩ : ByteArray)) = true := by decide
          have S1 := Lw.hid (same_any HC9.out HW9.out)
          go_wp2_with fail
          refine S1.out.mono ?_
          rw [same_self _ c (Nat.le_refl _)]
          rintro x w10 ⟨rfl, k10⟩
          have K10 := Lw.hid (K9.out.trans k10 (fun _ _ h => h))
          have S2 := Lw.hid (same_any (HV9.out.kept k10 (fun _ _ h => h)) (HB9.out.kept k10 (fun _ _ h => h)))
          clear k10
          go_wp2_with fail
          refine S2.out.mono ?_
          rw [same_self _ b (Nat.le_refl _)]
          rintro x w11 ⟨rfl, k11⟩
          have K11 := Lw.hid (K10.out.trans k11 (fun _ _ h => h))
          clear k11
          go_wp2_with fail
          refine (wakes17_any _ (HEK.out _ K11.out)).mono ?_
          rintro x w12 ⟨rfl, k12⟩
          have K12 := Lw.hid (K11.out.trans k12 (fun _ _ h => h))
          clear k12
          go_wp2_with fail
          go_ret
          exact ⟨rfl, K12.out⟩
theorem wadds_below (w : World) (s t : ByteArray) (hE : WEnv w) (hs : s.size ≤ 9223372036854775807) (ht : t.size ≤ 9223372036854775807) :
    Calls Tryd.prog 8 #[.string s, .string t] w fun e w' => e = .returned (.bool true) ∧ Below w.heap.size w w' := by
  have h := wadds_any w s.data.toList t.data.toList hE (by rw [← BA_size, ← BA_of]; exact hs) (by rw [← BA_size, ← BA_of]; exact ht)
  rw [← BA_of, ← BA_of] at h
  exact h.mono fun _ _ ⟨e, k⟩ => ⟨e, Below.of_kept k⟩
end Go.Proofs.YtifcgeanippepaaDoor
