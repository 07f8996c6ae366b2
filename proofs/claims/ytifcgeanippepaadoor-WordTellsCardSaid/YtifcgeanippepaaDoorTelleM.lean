/- WordTells: the document's Text. -/
import Derived.Test.YtifcgeanippepaaDoorTell6M
import Derived.Test.YtifcgeanippepaaDoorWordTM
namespace Go.Proofs.YtifcgeanippepaaDoor
open Go Go.RowKit Go.Lw
set_option maxRecDepth 100000
set_option linter.unusedVariables false
set_option linter.unusedSimpArgs false
attribute [local go_sem] BA_toList
/-- A part's block. -/
def PZt (w : World) (b : Nat) (k : Int) (t : List UInt8) (o : Value) (q : Bool) : Prop := w.heap[b]? = some (.cells #[.int .i64 k, .string (BA t), o, .bool q] 103 (0, 0))
theorem PZt.cells {w : World} {b : Nat} {k : Int} {t : List UInt8} {o : Value} {q : Bool} (h : PZt w b k t o q) :
    (w.cell? ⟨b, 0, none⟩ = some (.int .i64 k) ∧ w.cell? ⟨b, 1, none⟩ = some (.string (BA t)) ∧ w.cell? ⟨b, 2, none⟩ = some o ∧ w.cell? ⟨b, 3, none⟩ = some (.bool q)) ∧
    (w.frozen? ⟨b, 0, none⟩ = false ∧ w.frozen? ⟨b, 1, none⟩ = false ∧ w.frozen? ⟨b, 2, none⟩ = false ∧ w.frozen? ⟨b, 3, none⟩ = false) :=
  ⟨⟨heap_cell h 0, heap_cell h 1, heap_cell h 2, heap_cell h 3⟩, heap_free h 0, heap_free h 1, heap_free h 2, heap_free h 3⟩
/-- The contract of the document's Text, for words of a size. -/
def CTextZ (n : Nat) : Prop := ∀ (w : World) (F : Nat → Prop) (v : Value) (l : List Prt), szL l ≤ n → (textW l).length ≤ 1000000 → WAt w F v l →
  Calls Tryd.prog 30 #[v] w fun x w' => x = .returned (.string (BA (textW l))) ∧ Kept (fun _ => False) w w'
set_option maxHeartbeats 16000000 in
theorem textz_all (n : Nat) : CTextZ n := by
  induction n using Nat.strongRecOn with
  | ind n ih =>
    intro w F v l hn htl hv
    obtain ⟨a, N, c, rfl⟩ := hv.slice
    have hN := hv.elem.1
    have hn9 := hv.max
    have HV := Lw.hid hv; have HN := Lw.hid hN; have HTL := Lw.hid htl; have HSZ := Lw.hid hn
    have HT : Hid (CTextZ (n - 1)) := Lw.hid (ih (n - 1) (by have := szL_pos l; omega))
    clear ih hv hN htl hn
    go_enter Tryd.func30, Tryd.ntmps30
    go_wp2_with fail
    go_loopg [3, 4] N (fun gk s3 s4 wx => ∃ k : Nat, gk = N - k ∧ k ≤ N ∧ s3 = .string (BA (textW (l.take k))) ∧ s4 = .int .i64 (k : Int) ∧ Kept (fun _ => False) w wx)
    case atStart => exact ⟨0, rfl, Nat.zero_le _, by rw [List.take_zero, textW_nil]; rfl, rfl, Kept.refl _ _⟩
    case round =>
      obtain ⟨k, rfl, hk, rfl, rfl, hkk⟩ := hrel
      have HKK := Lw.hid hkk
      clear hkk
      by_cases hlt : k < N
      · obtain ⟨p, hp⟩ : ∃ p, l[k]? = some p := ⟨_, List.getElem?_eq_getElem (by rw [← HN.out]; exact hlt)⟩
        have hpm : p ∈ l := List.mem_of_getElem? hp
        have hps : szL p.orw ≤ n - 1 := by
          have h1 : szP p < szL l := szL_mem hpm
          have h2 := sizeOf_orw p
          have h3 := HSZ.out
          omega
        have hnx := textW_take hp
        have hle1 := textW_le l (k + 1)
        rw [hnx, List.length_append] at hle1
        have hpt : (textP p).length ≤ 1000000 := by have := HTL.out; omega
        have zA : (BA (textW (l.take k))).size ≤ 1000000 := by rw [BA_size]; have := HTL.out; omega
        have bA := BA_append (textW (l.take k)) (textP p)
        rw [← hnx] at bA
        have hdN : decide (k < N) = true := decide_eq_true hlt
        obtain ⟨b1, o1, oa, on, oc, e1, p0, p1, p2, p3, hao⟩ := (HV.out.kept HKK.out (fun _ _ h => h)).elem.2 k p hp
        subst e1
        have hbl : b1 < wr.heap.size := World.block_lt_of_cell? wr _ p0
        obtain ⟨kk, t, o, q⟩ := p
        simp only [Prt.kind, Prt.text, Prt.orw, Prt.quoted] at p0 p1 p2 p3 hao hps
        have HAO := Lw.hid (hao.kept ((Kept.refl (fun _ => False) wr).alloc (.cells #[.int .i64 kk, .string (BA t), .slice oa on oc, .bool q] 103)) (fun _ _ h => h))
        have K2 := Lw.hid (HKK.out.alloc (.cells #[.int .i64 kk, .string (BA t), .slice oa on oc, .bool q] 103))
        have HNX := Lw.hid hnx
        generalize BA (textW (List.take k l)) = O at *
        generalize hTN : BA (textW (List.take (k + 1) l)) = TN at *
        have HTN := Lw.hid hTN
        clear hp hpm hnx hle1 hao hTN
        by_cases h1 : kk = 1
        · subst h1
          cases q with
          | true =>
            have HX : Hid (textP (.mk 1 t o true) = quoteF t) := Lw.hid (by rw [textP_mk]; rfl)
            rw [HX.out] at hpt bA
            have htl : t.length ≤ 1000000 := by have := quoteF_len t; omega
            have zq : (BA (quoteF t)).size ≤ 1000000 := by rw [BA_size]; exact hpt
            clear hpt HX
            go_wp2_with fail
            refine (z_quote _ t htl).mono ?_
            rintro x w4 ⟨rfl, k4⟩
            have K4 := Lw.hid (K2.out.trans k4 (fun _ _ h => h))
            clear k4
            generalize BA (quoteF t) = S0 at *
            go_wp2_with fail
            go_roundg (N - (k + 1))
            case measure => omega
            case rel => exact ⟨k + 1, rfl, hlt, by rw [HTN.out], by go_num, K4.out⟩
          | false =>
            have HX : Hid (textP (.mk 1 t o false) = t) := Lw.hid (by rw [textP_mk]; rfl)
            rw [HX.out] at hpt bA
            have zt : (BA t).size ≤ 1000000 := by rw [BA_size]; exact hpt
            clear hpt HX
            go_wp2_with fail
            go_roundg (N - (k + 1))
            case measure => omega
            case rel => exact ⟨k + 1, rfl, hlt, by rw [HTN.out], by go_num, K2.out⟩
        have b1 : (kk == 1) = false := by simpa using h1
        by_cases h2 : kk = 2
        · subst h2
          cases q with
          | true =>
            have HX : Hid (textP (.mk 2 t o true) = [34] ++ ([36, 123] ++ t ++ [125]) ++ [34]) := Lw.hid (by rw [textP_mk]; unfold coreF; rfl)
            rw [HX.out] at hpt bA
            have zt : (BA t).size ≤ 1000000 := (by rw [BA_size]; first | omega | (simp only [List.length_append, List.length_cons, List.length_nil] at hpt ⊢; omega) | (simp only [List.length_append, List.length_cons, List.length_nil] at hpt; omega) | simp)
            have a0 : (⟨#[36, 123]⟩ : ByteArray) ++ BA (t) = BA ([36, 123] ++ t) := BA_append ([36, 123]) (t)
            have z0 : (BA ([36, 123] ++ t)).size ≤ 1000100 := (by rw [BA_size]; first | omega | (simp only [List.length_append, List.length_cons, List.length_nil] at hpt ⊢; omega) | (simp only [List.length_append, List.length_cons, List.length_nil] at hpt; omega) | simp)
            have a1 : BA ([36, 123] ++ t) ++ (⟨#[125]⟩ : ByteArray) = BA ([36, 123] ++ t ++ [125]) := BA_append ([36, 123] ++ t) ([125])
            have z1 : (BA ([36, 123] ++ t ++ [125])).size ≤ 1000100 := (by rw [BA_size]; first | omega | (simp only [List.length_append, List.length_cons, List.length_nil] at hpt ⊢; omega) | (simp only [List.length_append, List.length_cons, List.length_nil] at hpt; omega) | simp)
            have a2 : (⟨#[34]⟩ : ByteArray) ++ BA ([36, 123] ++ t ++ [125]) = BA ([34] ++ ([36, 123] ++ t ++ [125])) := BA_append ([34]) ([36, 123] ++ t ++ [125])
            have z2 : (BA ([34] ++ ([36, 123] ++ t ++ [125]))).size ≤ 1000100 := (by rw [BA_size]; first | omega | (simp only [List.length_append, List.length_cons, List.length_nil] at hpt ⊢; omega) | (simp only [List.length_append, List.length_cons, List.length_nil] at hpt; omega) | simp)
            have a3 : BA ([34] ++ ([36, 123] ++ t ++ [125])) ++ (⟨#[34]⟩ : ByteArray) = BA ([34] ++ ([36, 123] ++ t ++ [125]) ++ [34]) := BA_append ([34] ++ ([36, 123] ++ t ++ [125])) ([34])
            have z3 : (BA ([34] ++ ([36, 123] ++ t ++ [125]) ++ [34])).size ≤ 1000100 := (by rw [BA_size]; first | omega | (simp only [List.length_append, List.length_cons, List.length_nil] at hpt ⊢; omega) | (simp only [List.length_append, List.length_cons, List.length_nil] at hpt; omega) | simp)
            have zc : (BA ([36, 123] ++ t ++ [125])).size ≤ 1000100 := (by rw [BA_size]; first | omega | (simp only [List.length_append, List.length_cons, List.length_nil] at hpt ⊢; omega) | (simp only [List.length_append, List.length_cons, List.length_nil] at hpt; omega) | simp)
            have zf : (BA ([34] ++ ([36, 123] ++ t ++ [125]) ++ [34])).size ≤ 1000100 := (by rw [BA_size]; first | omega | (simp only [List.length_append, List.length_cons, List.length_nil] at hpt ⊢; omega) | (simp only [List.length_append, List.length_cons, List.length_nil] at hpt; omega) | simp)
            clear hpt HX
            generalize BA ([34] ++ ([36, 123] ++ t ++ [125]) ++ [34]) = S3 at *
            generalize BA ([34] ++ ([36, 123] ++ t ++ [125])) = S2 at *
            generalize BA ([36, 123] ++ t ++ [125]) = S1 at *
            generalize BA ([36, 123] ++ t) = S0 at *
            go_wp2_with fail
            go_roundg (N - (k + 1))
            case measure => omega
            case rel => exact ⟨k + 1, rfl, hlt, by rw [HTN.out], by go_num, K2.out⟩
          | false =>
            have HX : Hid (textP (.mk 2 t o false) = [36, 123] ++ t ++ [125]) := Lw.hid (by rw [textP_mk]; unfold coreF; rfl)
            rw [HX.out] at hpt bA
            have zt : (BA t).size ≤ 1000000 := (by rw [BA_size]; first | omega | (simp only [List.length_append, List.length_cons, List.length_nil] at hpt ⊢; omega) | (simp only [List.length_append, List.length_cons, List.length_nil] at hpt; omega) | simp)
            have a0 : (⟨#[36, 123]⟩ : ByteArray) ++ BA (t) = BA ([36, 123] ++ t) := BA_append ([36, 123]) (t)
            have z0 : (BA ([36, 123] ++ t)).size ≤ 1000100 := (by rw [BA_size]; first | omega | (simp only [List.length_append, List.length_cons, List.length_nil] at hpt ⊢; omega) | (simp only [List.length_append, List.length_cons, List.length_nil] at hpt; omega) | simp)
            have a1 : BA ([36, 123] ++ t) ++ (⟨#[125]⟩ : ByteArray) = BA ([36, 123] ++ t ++ [125]) := BA_append ([36, 123] ++ t) ([125])
            have z1 : (BA ([36, 123] ++ t ++ [125])).size ≤ 1000100 := (by rw [BA_size]; first | omega | (simp only [List.length_append, List.length_cons, List.length_nil] at hpt ⊢; omega) | (simp only [List.length_append, List.length_cons, List.length_nil] at hpt; omega) | simp)
            have zc : (BA ([36, 123] ++ t ++ [125])).size ≤ 1000100 := (by rw [BA_size]; first | omega | (simp only [List.length_append, List.length_cons, List.length_nil] at hpt ⊢; omega) | (simp only [List.length_append, List.length_cons, List.length_nil] at hpt; omega) | simp)
            have zf : (BA ([36, 123] ++ t ++ [125])).size ≤ 1000100 := (by rw [BA_size]; first | omega | (simp only [List.length_append, List.length_cons, List.length_nil] at hpt ⊢; omega) | (simp only [List.length_append, List.length_cons, List.length_nil] at hpt; omega) | simp)
            clear hpt HX
            generalize BA ([36, 123] ++ t ++ [125]) = S1 at *
            generalize BA ([36, 123] ++ t) = S0 at *
            go_wp2_with fail
            go_roundg (N - (k + 1))
            case measure => omega
            case rel => exact ⟨k + 1, rfl, hlt, by rw [HTN.out], by go_num, K2.out⟩
        have b2 : (kk == 2) = false := by simpa using h2
        by_cases h3 : kk = 3
        · subst h3
          have HPZ : Hid (PZt (wr.alloc (.cells #[.int .i64 3, .string (BA t), .slice oa on oc, .bool q] 103)) wr.heap.size 3 t (.slice oa on oc) q) := Lw.hid (heap_alloc wr _)
          cases q with
          | true =>
            have HX : Hid (textP (.mk 3 t o true) = [34] ++ ([36, 123] ++ t ++ [58, 45] ++ textW o ++ [125]) ++ [34]) := Lw.hid (by rw [textP_mk]; unfold coreF; rfl)
            rw [HX.out] at hpt bA
            have htx : (textW o).length ≤ 1000000 := by simp only [List.length_append, List.length_cons, List.length_nil] at hpt; omega
            have HC := Lw.hid (HT.out _ F (.slice oa on oc) o hps htx HAO.out)
            have zo : (BA (textW o)).size ≤ 1000000 := by rw [BA_size]; exact htx
            have zt : (BA t).size ≤ 1000000 := (by rw [BA_size]; first | omega | (simp only [List.length_append, List.length_cons, List.length_nil] at hpt ⊢; omega) | (simp only [List.length_append, List.length_cons, List.length_nil] at hpt; omega) | simp)
            have a0 : (⟨#[36, 123]⟩ : ByteArray) ++ BA (t) = BA ([36, 123] ++ t) := BA_append ([36, 123]) (t)
            have z0 : (BA ([36, 123] ++ t)).size ≤ 1000100 := (by rw [BA_size]; first | omega | (simp only [List.length_append, List.length_cons, List.length_nil] at hpt ⊢; omega) | (simp only [List.length_append, List.length_cons, List.length_nil] at hpt; omega) | simp)
            have a1 : BA ([36, 123] ++ t) ++ (⟨#[58, 45]⟩ : ByteArray) = BA ([36, 123] ++ t ++ [58, 45]) := BA_append ([36, 123] ++ t) ([58, 45])
            have z1 : (BA ([36, 123] ++ t ++ [58, 45])).size ≤ 1000100 := (by rw [BA_size]; first | omega | (simp only [List.length_append, List.length_cons, List.length_nil] at hpt ⊢; omega) | (simp only [List.length_append, List.length_cons, List.length_nil] at hpt; omega) | simp)
            have a2 : BA ([36, 123] ++ t ++ [58, 45]) ++ BA (textW o) = BA ([36, 123] ++ t ++ [58, 45] ++ textW o) := BA_append ([36, 123] ++ t ++ [58, 45]) (textW o)
            have z2 : (BA ([36, 123] ++ t ++ [58, 45] ++ textW o)).size ≤ 1000100 := (by rw [BA_size]; first | omega | (simp only [List.length_append, List.length_cons, List.length_nil] at hpt ⊢; omega) | (simp only [List.length_append, List.length_cons, List.length_nil] at hpt; omega) | simp)
            have a3 : BA ([36, 123] ++ t ++ [58, 45] ++ textW o) ++ (⟨#[125]⟩ : ByteArray) = BA ([36, 123] ++ t ++ [58, 45] ++ textW o ++ [125]) := BA_append ([36, 123] ++ t ++ [58, 45] ++ textW o) ([125])
            have z3 : (BA ([36, 123] ++ t ++ [58, 45] ++ textW o ++ [125])).size ≤ 1000100 := (by rw [BA_size]; first | omega | (simp only [List.length_append, List.length_cons, List.length_nil] at hpt ⊢; omega) | (simp only [List.length_append, List.length_cons, List.length_nil] at hpt; omega) | simp)
            have a4 : (⟨#[34]⟩ : ByteArray) ++ BA ([36, 123] ++ t ++ [58, 45] ++ textW o ++ [125]) = BA ([34] ++ ([36, 123] ++ t ++ [58, 45] ++ textW o ++ [125])) := BA_append ([34]) ([36, 123] ++ t ++ [58, 45] ++ textW o ++ [125])
            have z4 : (BA ([34] ++ ([36, 123] ++ t ++ [58, 45] ++ textW o ++ [125]))).size ≤ 1000100 := (by rw [BA_size]; first | omega | (simp only [List.length_append, List.length_cons, List.length_nil] at hpt ⊢; omega) | (simp only [List.length_append, List.length_cons, List.length_nil] at hpt; omega) | simp)
            have a5 : BA ([34] ++ ([36, 123] ++ t ++ [58, 45] ++ textW o ++ [125])) ++ (⟨#[34]⟩ : ByteArray) = BA ([34] ++ ([36, 123] ++ t ++ [58, 45] ++ textW o ++ [125]) ++ [34]) := BA_append ([34] ++ ([36, 123] ++ t ++ [58, 45] ++ textW o ++ [125])) ([34])
            have z5 : (BA ([34] ++ ([36, 123] ++ t ++ [58, 45] ++ textW o ++ [125]) ++ [34])).size ≤ 1000100 := (by rw [BA_size]; first | omega | (simp only [List.length_append, List.length_cons, List.length_nil] at hpt ⊢; omega) | (simp only [List.length_append, List.length_cons, List.length_nil] at hpt; omega) | simp)
            have zc : (BA ([36, 123] ++ t ++ [58, 45] ++ textW o ++ [125])).size ≤ 1000100 := (by rw [BA_size]; first | omega | (simp only [List.length_append, List.length_cons, List.length_nil] at hpt ⊢; omega) | (simp only [List.length_append, List.length_cons, List.length_nil] at hpt; omega) | simp)
            have zf : (BA ([34] ++ ([36, 123] ++ t ++ [58, 45] ++ textW o ++ [125]) ++ [34])).size ≤ 1000100 := (by rw [BA_size]; first | omega | (simp only [List.length_append, List.length_cons, List.length_nil] at hpt ⊢; omega) | (simp only [List.length_append, List.length_cons, List.length_nil] at hpt; omega) | simp)
            clear hpt HX
            generalize BA ([34] ++ ([36, 123] ++ t ++ [58, 45] ++ textW o ++ [125]) ++ [34]) = S6 at *
            generalize BA ([34] ++ ([36, 123] ++ t ++ [58, 45] ++ textW o ++ [125])) = S5 at *
            generalize BA ([36, 123] ++ t ++ [58, 45] ++ textW o ++ [125]) = S4 at *
            generalize BA ([36, 123] ++ t ++ [58, 45] ++ textW o) = S3 at *
            generalize BA ([36, 123] ++ t ++ [58, 45]) = S2 at *
            generalize BA ([36, 123] ++ t) = S1 at *
            generalize BA (textW o) = S0 at *
            go_wp2_with fail
            refine HC.out.mono ?_
            rintro x w4 ⟨rfl, k4⟩
            have K4 := Lw.hid (K2.out.trans k4 (fun _ _ h => h))
            have hh : PZt w4 wr.heap.size 3 t (.slice oa on oc) true := k4.heap HPZ.out (fun h => h)
            obtain ⟨⟨r0, r1, r2, r3⟩, -⟩ := PZt.cells hh
            clear k4 hh
            go_wp2_with fail
            go_roundg (N - (k + 1))
            case measure => omega
            case rel => exact ⟨k + 1, rfl, hlt, by rw [HTN.out], by go_num, K4.out⟩
          | false =>
            have HX : Hid (textP (.mk 3 t o false) = [36, 123] ++ t ++ [58, 45] ++ textW o ++ [125]) := Lw.hid (by rw [textP_mk]; unfold coreF; rfl)
            rw [HX.out] at hpt bA
            have htx : (textW o).length ≤ 1000000 := by simp only [List.length_append, List.length_cons, List.length_nil] at hpt; omega
            have HC := Lw.hid (HT.out _ F (.slice oa on oc) o hps htx HAO.out)
            have zo : (BA (textW o)).size ≤ 1000000 := by rw [BA_size]; exact htx
            have zt : (BA t).size ≤ 1000000 := (by rw [BA_size]; first | omega | (simp only [List.length_append, List.length_cons, List.length_nil] at hpt ⊢; omega) | (simp only [List.length_append, List.length_cons, List.length_nil] at hpt; omega) | simp)
            have a0 : (⟨#[36, 123]⟩ : ByteArray) ++ BA (t) = BA ([36, 123] ++ t) := BA_append ([36, 123]) (t)
            have z0 : (BA ([36, 123] ++ t)).size ≤ 1000100 := (by rw [BA_size]; first | omega | (simp only [List.length_append, List.length_cons, List.length_nil] at hpt ⊢; omega) | (simp only [List.length_append, List.length_cons, List.length_nil] at hpt; omega) | simp)
            have a1 : BA ([36, 123] ++ t) ++ (⟨#[58, 45]⟩ : ByteArray) = BA ([36, 123] ++ t ++ [58, 45]) := BA_append ([36, 123] ++ t) ([58, 45])
            have z1 : (BA ([36, 123] ++ t ++ [58, 45])).size ≤ 1000100 := (by rw [BA_size]; first | omega | (simp only [List.length_append, List.length_cons, List.length_nil] at hpt ⊢; omega) | (simp only [List.length_append, List.length_cons, List.length_nil] at hpt; omega) | simp)
            have a2 : BA ([36, 123] ++ t ++ [58, 45]) ++ BA (textW o) = BA ([36, 123] ++ t ++ [58, 45] ++ textW o) := BA_append ([36, 123] ++ t ++ [58, 45]) (textW o)
            have z2 : (BA ([36, 123] ++ t ++ [58, 45] ++ textW o)).size ≤ 1000100 := (by rw [BA_size]; first | omega | (simp only [List.length_append, List.length_cons, List.length_nil] at hpt ⊢; omega) | (simp only [List.length_append, List.length_cons, List.length_nil] at hpt; omega) | simp)
            have a3 : BA ([36, 123] ++ t ++ [58, 45] ++ textW o) ++ (⟨#[125]⟩ : ByteArray) = BA ([36, 123] ++ t ++ [58, 45] ++ textW o ++ [125]) := BA_append ([36, 123] ++ t ++ [58, 45] ++ textW o) ([125])
            have z3 : (BA ([36, 123] ++ t ++ [58, 45] ++ textW o ++ [125])).size ≤ 1000100 := (by rw [BA_size]; first | omega | (simp only [List.length_append, List.length_cons, List.length_nil] at hpt ⊢; omega) | (simp only [List.length_append, List.length_cons, List.length_nil] at hpt; omega) | simp)
            have zc : (BA ([36, 123] ++ t ++ [58, 45] ++ textW o ++ [125])).size ≤ 1000100 := (by rw [BA_size]; first | omega | (simp only [List.length_append, List.length_cons, List.length_nil] at hpt ⊢; omega) | (simp only [List.length_append, List.length_cons, List.length_nil] at hpt; omega) | simp)
            have zf : (BA ([36, 123] ++ t ++ [58, 45] ++ textW o ++ [125])).size ≤ 1000100 := (by rw [BA_size]; first | omega | (simp only [List.length_append, List.length_cons, List.length_nil] at hpt ⊢; omega) | (simp only [List.length_append, List.length_cons, List.length_nil] at hpt; omega) | simp)
            clear hpt HX
            generalize BA ([36, 123] ++ t ++ [58, 45] ++ textW o ++ [125]) = S4 at *
            generalize BA ([36, 123] ++ t ++ [58, 45] ++ textW o) = S3 at *
            generalize BA ([36, 123] ++ t ++ [58, 45]) = S2 at *
            generalize BA ([36, 123] ++ t) = S1 at *
            generalize BA (textW o) = S0 at *
            go_wp2_with fail
            refine HC.out.mono ?_
            rintro x w4 ⟨rfl, k4⟩
            have K4 := Lw.hid (K2.out.trans k4 (fun _ _ h => h))
            have hh : PZt w4 wr.heap.size 3 t (.slice oa on oc) false := k4.heap HPZ.out (fun h => h)
            obtain ⟨⟨r0, r1, r2, r3⟩, -⟩ := PZt.cells hh
            clear k4 hh
            go_wp2_with fail
            go_roundg (N - (k + 1))
            case measure => omega
            case rel => exact ⟨k + 1, rfl, hlt, by rw [HTN.out], by go_num, K4.out⟩
        have b3 : (kk == 3) = false := by simpa using h3
        by_cases h4 : kk = 4
        · subst h4
          cases q with
          | true =>
            have HX : Hid (textP (.mk 4 t o true) = [34] ++ ([36, 63]) ++ [34]) := Lw.hid (by rw [textP_mk]; rfl)
            rw [HX.out] at hpt bA
            have a0 : (⟨#[34]⟩ : ByteArray) ++ (⟨#[36, 63]⟩ : ByteArray) = BA ([34] ++ [36, 63]) := BA_append [34] [36, 63]
            have a1 : BA ([34] ++ [36, 63]) ++ (⟨#[34]⟩ : ByteArray) = BA ([34] ++ [36, 63] ++ [34]) := BA_append _ [34]
            have z0 : (BA ([34] ++ [36, 63])).size ≤ 100 := by rw [BA_size]; simp
            have z1 : (BA ([34] ++ [36, 63] ++ [34])).size ≤ 100 := by rw [BA_size]; simp
            clear hpt HX
            generalize BA ([34] ++ [36, 63] ++ [34]) = S1 at *
            generalize BA ([34] ++ [36, 63]) = S0 at *
            go_wp2_with fail
            go_roundg (N - (k + 1))
            case measure => omega
            case rel => exact ⟨k + 1, rfl, hlt, by rw [HTN.out], by go_num, K2.out⟩
          | false =>
            have HX : Hid (textP (.mk 4 t o false) = [36, 63]) := Lw.hid (by rw [textP_mk]; rfl)
            rw [HX.out] at hpt bA
            have bA' : O ++ (⟨#[36, 63]⟩ : ByteArray) = TN := bA
            clear hpt HX bA
            go_wp2_with fail
            go_roundg (N - (k + 1))
            case measure => omega
            case rel => exact ⟨k + 1, rfl, hlt, by rw [HTN.out], by go_num, K2.out⟩
        have b4 : (kk == 4) = false := by simpa using h4
        by_cases h5 : kk = 5
        · subst h5
          cases q with
          | true =>
            have HX : Hid (textP (.mk 5 t o true) = [34] ++ ([36, 40, 40] ++ t ++ [41, 41]) ++ [34]) := Lw.hid (by rw [textP_mk]; unfold coreF; rfl)
            rw [HX.out] at hpt bA
            have zt : (BA t).size ≤ 1000000 := (by rw [BA_size]; first | omega | (simp only [List.length_append, List.length_cons, List.length_nil] at hpt ⊢; omega) | (simp only [List.length_append, List.length_cons, List.length_nil] at hpt; omega) | simp)
            have a0 : (⟨#[36, 40, 40]⟩ : ByteArray) ++ BA (t) = BA ([36, 40, 40] ++ t) := BA_append ([36, 40, 40]) (t)
            have z0 : (BA ([36, 40, 40] ++ t)).size ≤ 1000100 := (by rw [BA_size]; first | omega | (simp only [List.length_append, List.length_cons, List.length_nil] at hpt ⊢; omega) | (simp only [List.length_append, List.length_cons, List.length_nil] at hpt; omega) | simp)
            have a1 : BA ([36, 40, 40] ++ t) ++ (⟨#[41, 41]⟩ : ByteArray) = BA ([36, 40, 40] ++ t ++ [41, 41]) := BA_append ([36, 40, 40] ++ t) ([41, 41])
            have z1 : (BA ([36, 40, 40] ++ t ++ [41, 41])).size ≤ 1000100 := (by rw [BA_size]; first | omega | (simp only [List.length_append, List.length_cons, List.length_nil] at hpt ⊢; omega) | (simp only [List.length_append, List.length_cons, List.length_nil] at hpt; omega) | simp)
            have a2 : (⟨#[34]⟩ : ByteArray) ++ BA ([36, 40, 40] ++ t ++ [41, 41]) = BA ([34] ++ ([36, 40, 40] ++ t ++ [41, 41])) := BA_append ([34]) ([36, 40, 40] ++ t ++ [41, 41])
            have z2 : (BA ([34] ++ ([36, 40, 40] ++ t ++ [41, 41]))).size ≤ 1000100 := (by rw [BA_size]; first | omega | (simp only [List.length_append, List.length_cons, List.length_nil] at hpt ⊢; omega) | (simp only [List.length_append, List.length_cons, List.length_nil] at hpt; omega) | simp)
            have a3 : BA ([34] ++ ([36, 40, 40] ++ t ++ [41, 41])) ++ (⟨#[34]⟩ : ByteArray) = BA ([34] ++ ([36, 40, 40] ++ t ++ [41, 41]) ++ [34]) := BA_append ([34] ++ ([36, 40, 40] ++ t ++ [41, 41])) ([34])
            have z3 : (BA ([34] ++ ([36, 40, 40] ++ t ++ [41, 41]) ++ [34])).size ≤ 1000100 := (by rw [BA_size]; first | omega | (simp only [List.length_append, List.length_cons, List.length_nil] at hpt ⊢; omega) | (simp only [List.length_append, List.length_cons, List.length_nil] at hpt; omega) | simp)
            have zc : (BA ([36, 40, 40] ++ t ++ [41, 41])).size ≤ 1000100 := (by rw [BA_size]; first | omega | (simp only [List.length_append, List.length_cons, List.length_nil] at hpt ⊢; omega) | (simp only [List.length_append, List.length_cons, List.length_nil] at hpt; omega) | simp)
            have zf : (BA ([34] ++ ([36, 40, 40] ++ t ++ [41, 41]) ++ [34])).size ≤ 1000100 := (by rw [BA_size]; first | omega | (simp only [List.length_append, List.length_cons, List.length_nil] at hpt ⊢; omega) | (simp only [List.length_append, List.length_cons, List.length_nil] at hpt; omega) | simp)
            clear hpt HX
            generalize BA ([34] ++ ([36, 40, 40] ++ t ++ [41, 41]) ++ [34]) = S3 at *
            generalize BA ([34] ++ ([36, 40, 40] ++ t ++ [41, 41])) = S2 at *
            generalize BA ([36, 40, 40] ++ t ++ [41, 41]) = S1 at *
            generalize BA ([36, 40, 40] ++ t) = S0 at *
            go_wp2_with fail
            go_roundg (N - (k + 1))
            case measure => omega
            case rel => exact ⟨k + 1, rfl, hlt, by rw [HTN.out], by go_num, K2.out⟩
          | false =>
            have HX : Hid (textP (.mk 5 t o false) = [36, 40, 40] ++ t ++ [41, 41]) := Lw.hid (by rw [textP_mk]; unfold coreF; rfl)
            rw [HX.out] at hpt bA
            have zt : (BA t).size ≤ 1000000 := (by rw [BA_size]; first | omega | (simp only [List.length_append, List.length_cons, List.length_nil] at hpt ⊢; omega) | (simp only [List.length_append, List.length_cons, List.length_nil] at hpt; omega) | simp)
            have a0 : (⟨#[36, 40, 40]⟩ : ByteArray) ++ BA (t) = BA ([36, 40, 40] ++ t) := BA_append ([36, 40, 40]) (t)
            have z0 : (BA ([36, 40, 40] ++ t)).size ≤ 1000100 := (by rw [BA_size]; first | omega | (simp only [List.length_append, List.length_cons, List.length_nil] at hpt ⊢; omega) | (simp only [List.length_append, List.length_cons, List.length_nil] at hpt; omega) | simp)
            have a1 : BA ([36, 40, 40] ++ t) ++ (⟨#[41, 41]⟩ : ByteArray) = BA ([36, 40, 40] ++ t ++ [41, 41]) := BA_append ([36, 40, 40] ++ t) ([41, 41])
            have z1 : (BA ([36, 40, 40] ++ t ++ [41, 41])).size ≤ 1000100 := (by rw [BA_size]; first | omega | (simp only [List.length_append, List.length_cons, List.length_nil] at hpt ⊢; omega) | (simp only [List.length_append, List.length_cons, List.length_nil] at hpt; omega) | simp)
            have zc : (BA ([36, 40, 40] ++ t ++ [41, 41])).size ≤ 1000100 := (by rw [BA_size]; first | omega | (simp only [List.length_append, List.length_cons, List.length_nil] at hpt ⊢; omega) | (simp only [List.length_append, List.length_cons, List.length_nil] at hpt; omega) | simp)
            have zf : (BA ([36, 40, 40] ++ t ++ [41, 41])).size ≤ 1000100 := (by rw [BA_size]; first | omega | (simp only [List.length_append, List.length_cons, List.length_nil] at hpt ⊢; omega) | (simp only [List.length_append, List.length_cons, List.length_nil] at hpt; omega) | simp)
            clear hpt HX
            generalize BA ([36, 40, 40] ++ t ++ [41, 41]) = S1 at *
            generalize BA ([36, 40, 40] ++ t) = S0 at *
            go_wp2_with fail
            go_roundg (N - (k + 1))
            case measure => omega
            case rel => exact ⟨k + 1, rfl, hlt, by rw [HTN.out], by go_num, K2.out⟩
        have b5 : (kk == 5) = false := by simpa using h5
        cases q with
        | true =>
          have HX : Hid (textP (.mk kk t o true) = [34] ++ (t) ++ [34]) := Lw.hid (by rw [textP_mk]; unfold coreF; simp [h1, h2, h3, h4, h5])
          rw [HX.out] at hpt bA
          have zt : (BA t).size ≤ 1000000 := (by rw [BA_size]; first | omega | (simp only [List.length_append, List.length_cons, List.length_nil] at hpt ⊢; omega) | (simp only [List.length_append, List.length_cons, List.length_nil] at hpt; omega) | simp)
          have a0 : (⟨#[34]⟩ : ByteArray) ++ BA (t) = BA ([34] ++ (t)) := BA_append ([34]) (t)
          have z0 : (BA ([34] ++ (t))).size ≤ 1000100 := (by rw [BA_size]; first | omega | (simp only [List.length_append, List.length_cons, List.length_nil] at hpt ⊢; omega) | (simp only [List.length_append, List.length_cons, List.length_nil] at hpt; omega) | simp)
          have a1 : BA ([34] ++ (t)) ++ (⟨#[34]⟩ : ByteArray) = BA ([34] ++ (t) ++ [34]) := BA_append ([34] ++ (t)) ([34])
          have z1 : (BA ([34] ++ (t) ++ [34])).size ≤ 1000100 := (by rw [BA_size]; first | omega | (simp only [List.length_append, List.length_cons, List.length_nil] at hpt ⊢; omega) | (simp only [List.length_append, List.length_cons, List.length_nil] at hpt; omega) | simp)
          have zf : (BA ([34] ++ (t) ++ [34])).size ≤ 1000100 := (by rw [BA_size]; first | omega | (simp only [List.length_append, List.length_cons, List.length_nil] at hpt ⊢; omega) | (simp only [List.length_append, List.length_cons, List.length_nil] at hpt; omega) | simp)
          clear hpt HX
          generalize BA ([34] ++ (t) ++ [34]) = S1 at *
          generalize BA ([34] ++ (t)) = S0 at *
          go_wp2_with fail
          go_roundg (N - (k + 1))
          case measure => omega
          case rel => exact ⟨k + 1, rfl, hlt, by rw [HTN.out], by go_num, K2.out⟩
        | false =>
          have HX : Hid (textP (.mk kk t o false) = t) := Lw.hid (by rw [textP_mk]; unfold coreF; simp [h1, h2, h3, h4, h5])
          rw [HX.out] at hpt bA
          have zt : (BA t).size ≤ 1000000 := (by rw [BA_size]; first | omega | (simp only [List.length_append, List.length_cons, List.length_nil] at hpt ⊢; omega) | (simp only [List.length_append, List.length_cons, List.length_nil] at hpt; omega) | simp)
          have zf : (BA (t)).size ≤ 1000100 := (by rw [BA_size]; first | omega | (simp only [List.length_append, List.length_cons, List.length_nil] at hpt ⊢; omega) | (simp only [List.length_append, List.length_cons, List.length_nil] at hpt; omega) | simp)
          clear hpt HX
          go_wp2_with fail
          go_roundg (N - (k + 1))
          case measure => omega
          case rel => exact ⟨k + 1, rfl, hlt, by rw [HTN.out], by go_num, K2.out⟩
      · obtain rfl : k = N := by omega
        have hdN : decide (k < k) = false := decide_eq_false (by omega)
        have htk : l.take k = l := List.take_of_length_le (by rw [← HN.out]; exact Nat.le_refl _)
        rw [htk]
        go_wp2_with fail
        go_ret
        exact ⟨rfl, HKK.out⟩
/-- Text. -/
theorem z_text {w : World} {F : Nat → Prop} {v : Value} {l : List Prt} (hl : (textW l).length ≤ 1000000) (hv : WAt w F v l) :
    Calls Tryd.prog 30 #[v] w fun x w' => x = .returned (.string (BA (textW l))) ∧ Kept (fun _ => False) w w' := textz_all (szL l) w F v l (Nat.le_refl _) hl hv
end Go.Proofs.YtifcgeanippepaaDoor
