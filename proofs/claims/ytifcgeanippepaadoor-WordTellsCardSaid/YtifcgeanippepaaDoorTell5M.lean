/- WordTells: the document's Lex. -/
import Derived.Test.YtifcgeanippepaaDoorTell4M
import Derived.Test.YtifcgeanippepaaDoorTellQM
import Derived.Test.YtifcgeanippepaaDoorLex2M
namespace Go.Proofs.YtifcgeanippepaaDoor
open Go Go.RowKit Go.Lw
set_option maxRecDepth 100000
set_option linter.unusedVariables false
set_option linter.unusedSimpArgs false
attribute [local go_sem] BA_toList
theorem ETz : ElemT Tryd.prog 136 139 3 32 := ElemT.of (z := .agg #[.int .i64 0, .string ⟨#[]⟩, .int .i64 0]) Tryd.underlying136 (by kernel_rfl) rfl (by decide)
/-- How the document's Lex answers. -/
def LexZ (w : World) (s : List UInt8) (x : Ending) (w' : World) : Prop := match lexT s with
  | .error e => x = .returned (.tuple #[.slice none 0 0, .int .i64 (e : Int)])
  | .ok l => ∃ v, x = .returned (.tuple #[v, .int .i64 0]) ∧ w'.ownsRow 0 139 3 v l.length (l.flatMap Tk.cells) ∧ (∀ k, blk v k → w.heap.size ≤ k) ∧ l.length ≤ 2048
theorem lz_error {w w' : World} {s : List UInt8} {x : Ending} {e : Nat} (h : lexT s = .error e) (hx : x = .returned (.tuple #[.slice none 0 0, .int .i64 (e : Int)])) : LexZ w s x w' := by
  unfold LexZ; rw [h]; exact hx
theorem lz_ok {w w' : World} {s : List UInt8} {x : Ending} {l : List Tk} {v : Value} (h : lexT s = .ok l) (hx : x = .returned (.tuple #[v, .int .i64 0])) (ho : w'.ownsRow 0 139 3 v l.length (l.flatMap Tk.cells)) (hb : ∀ k, blk v k → w.heap.size ≤ k) (hl : l.length ≤ 2048) : LexZ w s x w' := by
  unfold LexZ; rw [h]; exact ⟨v, hx, ho, hb, hl⟩
/-- The tokens that are out. -/
def TZ (w wx : World) (v : Value) (acc : List Tk) : Prop := wx.ownsRow 0 139 3 v acc.length (acc.flatMap Tk.cells) ∧ ∀ k, blk v k → w.heap.size ≤ k
theorem TZ.kept {w wx wy : World} {v : Value} {acc : List Tk} (h : TZ w wx v acc) (k : Kept (fun _ => False) wx wy) : TZ w wy v acc :=
  ⟨own_kept k h.1 (fun b hb e => e), h.2⟩
theorem TZ.add {w wx w9 : World} {v : Value} {acc : List Tk} (h : TZ w wx v acc) (hk : Kept (fun _ => False) w wx) {ob : Obj} {v' : Value} {t : Tk}
    (ho : w9.ownsRow 0 139 3 v' (acc.length + 1) (acc.flatMap Tk.cells ++ t.cells)) (hg : (wx.alloc ob).grownBy w9 v.ownBlock) (hf : Fresh (wx.alloc ob) v v') :
    TZ w w9 v' (acc ++ [t]) ∧ Kept (fun _ => False) w w9 := by
  have hsz := hk.size
  refine ⟨⟨by rw [List.length_append, List.flatMap_append]; simpa using ho, fun k hb => ?_⟩, ?_⟩
  · rcases hf k hb with h' | h'
    · exact h.2 k h'
    · rw [World.size_alloc] at h'; omega
  · exact (hk.alloc ob).grown hg (fun k hb hl => by have := h.2 k hb; omega)
/-- Where Lex stands. -/
def LzR (w : World) (s : List UInt8) (N : Nat) (R0 : Except Nat (List Tk)) (gk : Nat) (v s5 : Value) (wx : World) : Prop :=
  ∃ (a m : Nat) (r : List UInt8) (acc : List Tk), gk = r.length ∧ s5 = .int .i64 (a : Int) ∧ r.length < m ∧ a + r.length = N ∧ s.drop a = r ∧ TZ w wx v acc ∧ (lexF m N r).map (acc ++ ·) = R0 ∧ Kept (fun _ => False) w wx ∧ acc.length ≤ a
/-- Where a word stands. -/
def WzR (w0 : World) (s : List UInt8) (N : Nat) (R0 : Rs) (gk : Nat) (s5 : Value) (wx : World) : Prop :=
  ∃ (a m : Nat) (r : List UInt8), gk = N - a ∧ s5 = .int .i64 (a : Int) ∧ a + r.length = N ∧ s.drop a = r ∧ r.length < m ∧ wordF m r = R0 ∧ Kept (fun _ => False) w0 wx
theorem okB_nat (c : UInt8) : (okB c = false) ↔ (c.toNat < 32 ∧ c.toNat ≠ 9 ∧ c.toNat ≠ 10 ∨ c.toNat = 127) := by
  unfold okB
  by_cases h1 : c.toNat < 32 <;> by_cases h2 : c.toNat = 9 <;> by_cases h3 : c.toNat = 10 <;> by_cases h4 : c.toNat = 127 <;> simp [h1, h2, h3, h4] <;> omega
set_option maxHeartbeats 400000000 in
theorem t16_lex (w : World) (s : List UInt8) (hs9 : s.length ≤ 1000000) :
    Calls Tryd.prog 96 #[.string (BA s)] w fun x w' => LexZ w s x w' ∧ Kept (fun _ => False) w w' := by
  have hs := BA_size s
  obtain ⟨N, hN⟩ : ∃ N, s.length = N := ⟨_, rfl⟩
  have HN := Lw.hid hN
  rw [hN] at hs hs9
  clear hN
  by_cases hlong : 2048 < N
  · have HL : Hid (lexT s = .error 3) := Lw.hid (by unfold lexT; rw [if_pos (by rw [HN.out]; exact hlong)])
    go_enter Tryd.func96, Tryd.ntmps96
    go_wp2_with fail
    all_goals
      go_ret2
      exact ⟨lz_error HL.out rfl, Kept.refl _ _⟩
  have hshort : N ≤ 2048 := by omega
  go_enter Tryd.func96, Tryd.ntmps96
  go_wp2_with fail
  go_loopg [4] N (fun gk s3 wx => ∃ k : Nat, gk = N - k ∧ k ≤ N ∧ s3 = .int .i64 (k : Int) ∧ (s.take k).all okB = true ∧ Kept (fun _ => False) w wx)
  case atStart => exact ⟨0, rfl, Nat.zero_le _, rfl, rfl, Kept.refl _ w⟩
  case round =>
    obtain ⟨k, rfl, hk, rfl, hall, hkk⟩ := hrel
    have HALL := Lw.hid hall; have HK := Lw.hid hkk
    clear hall hkk
    by_cases hlt : k < N
    · obtain ⟨c, hc⟩ : ∃ c, s[k]? = some c := ⟨_, List.getElem?_eq_getElem (by rw [HN.out]; exact hlt)⟩
      have g0 := BA_get hc
      cases hok : okB c with
      | false =>
        have HL : Hid (lexT s = .error 5) := Lw.hid (by unfold lexT; rw [if_neg (by rw [HN.out]; exact hlong), if_pos (all_miss hc hok)])
        have hnat := (okB_nat c).1 hok
        clear hok hc
        rcases hnat with ⟨h1, h2, h3⟩ | h1
        · have b1 : decide ((c.toNat : Int) < 32) = true := decide_eq_true (by omega)
          have b2 : ((c.toNat : Int) != 9) = true := by rw [bne_iff_ne]; omega
          have b3 : ((c.toNat : Int) != 10) = true := by rw [bne_iff_ne]; omega
          clear h1 h2 h3
          go_wp2_with fail
          all_goals
            go_ret2
            exact ⟨lz_error HL.out rfl, HK.out⟩
        · have b1 : decide ((c.toNat : Int) < 32) = false := decide_eq_false (by omega)
          have b4 : ((c.toNat : Int) == 127) = true := by rw [beq_iff_eq]; omega
          clear h1
          go_wp2_with fail
          all_goals
            go_ret2
            exact ⟨lz_error HL.out rfl, HK.out⟩
      | true =>
        have HALL2 : Hid ((s.take (k + 1)).all okB = true) := Lw.hid (by rw [all_snoc hc, HALL.out, hok]; rfl)
        have hnat : ¬ (c.toNat < 32 ∧ c.toNat ≠ 9 ∧ c.toNat ≠ 10 ∨ c.toNat = 127) := fun h => by rw [(okB_nat c).2 h] at hok; cases hok
        have b4 : ((c.toNat : Int) == 127) = false := by rw [beq_eq_false_iff_ne]; omega
        clear hok hc
        by_cases h32 : c.toNat < 32
        · have b1 : decide ((c.toNat : Int) < 32) = true := decide_eq_true (by omega)
          by_cases h9 : c.toNat = 9
          · have b2 : ((c.toNat : Int) != 9) = false := by rw [bne_eq_false_iff_eq]; omega
            clear h32 h9 hnat
            go_wp2_with fail
            go_roundg (N - (k + 1))
            case measure => omega
            case rel => exact ⟨k + 1, rfl, hlt, by go_num, HALL2.out, HK.out⟩
          · have b2 : ((c.toNat : Int) != 9) = true := by rw [bne_iff_ne]; omega
            have b3 : ((c.toNat : Int) != 10) = false := by rw [bne_eq_false_iff_eq]; omega
            clear h32 h9 hnat
            go_wp2_with fail
            go_roundg (N - (k + 1))
            case measure => omega
            case rel => exact ⟨k + 1, rfl, hlt, by go_num, HALL2.out, HK.out⟩
        · have b1 : decide ((c.toNat : Int) < 32) = false := decide_eq_false (by omega)
          clear h32 hnat
          go_wp2_with fail
          go_roundg (N - (k + 1))
          case measure => omega
          case rel => exact ⟨k + 1, rfl, hlt, by go_num, HALL2.out, HK.out⟩
    · obtain rfl : k = N := by omega
      have htk : s.take k = s := List.take_of_length_le (by rw [HN.out]; exact Nat.le_refl _)
      have HL : Hid (lexT s = lexF (k + 1) k s) := Lw.hid (by
        have := HALL.out
        rw [htk] at this
        unfold lexT
        rw [if_neg (by rw [HN.out]; exact hlong), if_neg (by rw [this]; decide), HN.out])
      obtain ⟨R0, hR0⟩ : ∃ R0, lexF (k + 1) k s = R0 := ⟨_, rfl⟩
      rw [hR0] at HL
      have HR0 : Hid ((lexF (k + 1) k s).map ([] ++ ·) = R0) := Lw.hid (by rw [hR0]; cases R0 <;> rfl)
      clear hR0 htk HALL
      go_wp2_with fail
      obtain ⟨w0, hw0⟩ : ∃ w0 : World, w0 = wr := ⟨_, rfl⟩
      rw [← hw0] at HK ⊢
      clear hw0
      go_loopg [5, 6] k (fun gk s4 s5 wx => LzR w s k R0 gk s4 s5 wx)
      case atStart => exact ⟨0, k + 1, s, [], HN.out.symm, rfl, by rw [HN.out]; omega, by rw [HN.out]; omega, rfl, ⟨World.ownsRow_nil _ _ _ _, fun k hb => by cases hb⟩, HR0.out, HK.out, Nat.le_refl _⟩
      case round =>
      obtain ⟨a, m, r, acc, rfl, rfl, hm, hr, hdr, hto, hlx, hkx, hacc⟩ := hrel
      have HM := Lw.hid hm; have HRL := Lw.hid hr; have HDR := Lw.hid hdr; have HTO := Lw.hid hto; have HLX := Lw.hid hlx; have HKX := Lw.hid hkx
      have haN : a ≤ k := by omega
      clear hm hr hdr hto hlx hkx HR0 HK
      obtain ⟨m, rfl⟩ : ∃ m', m = m' + 1 := ⟨m - 1, by have := HM.out; omega⟩
      cases r with
      | nil =>
        have hge : ¬ (a < k) := by have := HRL.out; simp at this; omega
        have HRE : Hid (lexT s = .ok acc) := Lw.hid (by rw [HL.out, ← HLX.out]; show Except.ok (acc ++ []) = _; rw [List.append_nil])
        have hacc9 : acc.length ≤ 2048 := by omega
        go_wp2_with fail
        go_ret2
        exact ⟨lz_ok HRE.out rfl HTO.out.1 HTO.out.2 hacc9, HKX.out⟩
      | cons c r =>
        obtain ⟨hc0, hd1, hl1⟩ := drop_cons HDR.out
        have g0 := BA_get hc0
        have HD1 := Lw.hid hd1
        have hlt : a < k := by rw [HN.out] at hl1; omega
        have HL1 : Hid (a + 1 + r.length = k) := Lw.hid (by rw [HN.out] at hl1; omega)
        have HCR : Hid ((c :: r).length = r.length + 1) := Lw.hid rfl
        clear hc0 hd1 hl1
        by_cases hbl : c = 32 ∨ c = 9
        · have HLX2 : Hid ((lexF m k r).map (acc ++ ·) = R0) := Lw.hid (by rw [← HLX.out, lex_blank hbl])
          rcases hbl with h | h
          · have b1 : ((c.toNat : Int) == 32) = true := by rw [h]; rfl
            clear h
            go_wp2_with fail
            go_roundg r.length
            case measure => have := HCR.out; omega
            case rel => exact ⟨a + 1, m, r, acc, rfl, by go_num, by have := HM.out; have := HCR.out; omega, HL1.out, HD1.out, HTO.out, HLX2.out, HKX.out, by omega⟩
          · have b1 : ((c.toNat : Int) == 32) = false := by rw [h]; rfl
            have b2 : ((c.toNat : Int) == 9) = true := by rw [h]; rfl
            clear h
            go_wp2_with fail
            go_roundg r.length
            case measure => have := HCR.out; omega
            case rel => exact ⟨a + 1, m, r, acc, rfl, by go_num, by have := HM.out; have := HCR.out; omega, HL1.out, HD1.out, HTO.out, HLX2.out, HKX.out, by omega⟩
        have b32 : ((c.toNat : Int) == 32) = false := u8ne (k := 32) rfl (fun e => hbl (.inl e))
        have b9 : ((c.toNat : Int) == 9) = false := u8ne (k := 9) rfl (fun e => hbl (.inr e))
        by_cases h35 : c = 35
        · have b35 : ((c.toNat : Int) == 35) = true := by rw [h35]; rfl
          obtain ⟨r', hr'⟩ : ∃ r', (c :: r).dropWhile (· != 10) = r' := ⟨_, rfl⟩
          have HLX2 : Hid ((lexF m k r').map (acc ++ ·) = R0) := Lw.hid (by rw [← HLX.out, lex_hash hbl h35, hr'])
          have HDW := Lw.hid hr'
          have HLE : Hid (r'.length ≤ r.length) := Lw.hid (by
            rw [← hr', h35, List.dropWhile_cons]
            have := takeWhile_len (· != 10) r
            simp; omega)
          clear hbl h35 hr'
          go_wp2_with fail
          obtain ⟨w1, hw1⟩ : ∃ w1 : World, w1 = wr := ⟨_, rfl⟩
          rw [← hw1] at HTO HKX
          have HK1 : Hid (Kept (fun _ => False) w1 wr) := Lw.hid (by rw [hw1]; exact Kept.refl _ _)
          clear hw1
          go_loopg [6] (k - a) (fun gk s5 wx => ∃ (b : Nat) (t : List UInt8), gk = k - b ∧ s5 = .int .i64 (b : Int) ∧ b + t.length = k ∧ s.drop b = t ∧ t.dropWhile (· != 10) = r' ∧ Kept (fun _ => False) w1 wx)
          case atStart => exact ⟨a, c :: r, rfl, rfl, HRL.out, HDR.out, HDW.out, HK1.out⟩
          case round =>
            obtain ⟨b, t, rfl, rfl, hbt, hdt, hdw, hkb⟩ := hrel
            have HDT := Lw.hid hdt; have HDW2 := Lw.hid hdw; have HKB := Lw.hid hkb; have HBT := Lw.hid hbt
            clear hdt hdw hkb hbt HDW HK1
            cases t with
            | nil =>
              have hge : ¬ (b < k) := by have := HBT.out; simp at this; omega
              have hr0 : Hid (r' = [] ∧ b = k) := Lw.hid ⟨HDW2.out.symm, by have := HBT.out; simp at this; omega⟩
              go_wp2_with fail
              go_roundg r'.length
              case measure => have := HLE.out; have := HCR.out; omega
              case rel => exact ⟨b, m, r', acc, rfl, rfl, by have h1 := HLE.out; have h2 := HM.out; have h3 := HCR.out; omega, by rw [hr0.out.1, hr0.out.2]; rfl, by rw [hr0.out.1]; exact HDT.out, HTO.out.kept HKB.out, HLX2.out, HKX.out.trans HKB.out (fun _ _ h => h), by have := HBT.out; simp at this; omega⟩
            | cons d t =>
              obtain ⟨hc1, hd2, hl2⟩ := drop_cons HDT.out
              have g1 := BA_get hc1
              have HD2 := Lw.hid hd2
              have hlt2 : b < k := by rw [HN.out] at hl2; omega
              clear hc1 hd2
              by_cases h10 : d = 10
              · have b10 : ((d.toNat : Int) != 10) = false := by rw [h10]; rfl
                have hr0 : Hid (d :: t = r') := Lw.hid (by rw [← HDW2.out, h10]; rfl)
                clear h10
                go_wp2_with fail
                go_roundg r'.length
                case measure => have := HLE.out; have := HCR.out; omega
                case rel => exact ⟨b, m, r', acc, rfl, rfl, by have h1 := HLE.out; have h2 := HM.out; have h3 := HCR.out; omega, by rw [← hr0.out]; exact HBT.out, by rw [← hr0.out]; exact HDT.out, HTO.out.kept HKB.out, HLX2.out, HKX.out.trans HKB.out (fun _ _ h => h), by have h1 := HLE.out; have h2 := HL1.out; have h3 := HBT.out; rw [hr0.out] at h3; omega⟩
              · have b10 : ((d.toNat : Int) != 10) = true := by have := u8ne (k := 10) rfl h10; simpa using this
                have hr0 : Hid (t.dropWhile (· != 10) = r') := Lw.hid (by rw [← HDW2.out, List.dropWhile_cons, if_pos (by simp [h10])])
                clear h10
                go_wp2_with fail
                go_roundg (k - (b + 1))
                case measure => omega
                case rel => exact ⟨b + 1, t, rfl, by go_num, by have := HBT.out; simp at this; omega, HD2.out, hr0.out, HKB.out⟩
        have b35 : ((c.toNat : Int) == 35) = false := u8ne (k := 35) rfl h35
        have HOP := Lw.hid (t16_operator wr s a (by rw [HN.out]; exact hs9) (by rw [HN.out]; omega))
        rw [HDR.out] at HOP
        cases hop : operF (c :: r) with
        | some o =>
          obtain ⟨ok, ot⟩ := o
          have hol := operF_len hop
          have hin := operF_in hop
          have HLS := Lw.hid (lex_some (m := m) (N := k) hbl h35 hop)
          rw [hop] at HOP
          have HOP2 : Hid (Calls Tryd.prog 114 #[.string (BA s), .int .i64 (a : Int)] wr fun x w' => x = .returned (.tuple #[.int .i64 (ok : Int), .int .i64 (ot.length : Int)]) ∧ w' = wr) := HOP
          have HOT : Hid ((BA s).extract a (a + ot.length) = BA ot) := Lw.hid (by
            rw [BA_extract]
            congr 1
            rw [List.drop_take, HDR.out, Nat.add_sub_cancel_left]
            exact hin.2)
          have HDL : Hid (s.drop (a + ot.length) = (c :: r).drop ot.length) := Lw.hid (by rw [← List.drop_drop, HDR.out])
          have HLL : Hid (ot.length ≤ r.length + 1 ∧ 1 ≤ ot.length) := Lw.hid (by have h := hol; rw [HCR.out] at h; exact ⟨h.2.1, h.1⟩)
          have HDR2 : Hid (((c :: r).drop ot.length).length = r.length + 1 - ot.length) := Lw.hid (by rw [List.length_drop, HCR.out])
          have hoz := BA_size ot
          obtain ⟨Lo, hLo⟩ : ∃ L, ot.length = L := ⟨_, rfl⟩
          rw [hLo] at hoz HOT HDL HLL HDR2 HOP2 HLS
          have haL : a + Lo ≤ k := by have h1 := HLL.out.1; have h2 := HL1.out; omega
          have hL1 : 1 ≤ Lo := HLL.out.2
          have bL : decide ((Lo : Int) > 0) = true := decide_eq_true (by omega)
          have eT := HOT.out
          clear HOP hin hLo
          by_cases hk0 : ok = 0
          · have bk0 : ((ok : Int) == 0) = true := by rw [hk0]; rfl
            have HRE : Hid (lexT s = .error 5) := Lw.hid (by rw [HL.out, ← HLX.out, HLS.out, if_pos hk0]; rfl)
            clear hk0 hop hbl h35 hol
            go_wp2_with fail
            refine HOP2.out.mono ?_
            rintro x w9x ⟨rfl, hw9x⟩; obtain rfl := hw9x.symm
            go_wp2_with fail
            all_goals
              go_ret2
              exact ⟨lz_error HRE.out rfl, HKX.out⟩
          · have bk0 : ((ok : Int) == 0) = false := by rw [beq_eq_false_iff_ne]; omega
            have HPOS : Hid (k - (r.length + 1) = a) := Lw.hid (by have := HL1.out; omega)
            have HLX2 : Hid ((lexF m k ((c :: r).drop Lo)).map ((acc ++ [⟨ok, ot, a⟩]) ++ ·) = R0) := Lw.hid (by rw [← HLX.out, HLS.out, if_neg hk0, map_map_ok, HPOS.out])
            clear hk0 hop hbl h35 hol
            go_wp2_with fail
            refine HOP2.out.mono ?_
            rintro x w9x ⟨rfl, hw9x⟩; obtain rfl := hw9x.symm
            go_wp2_with (at_builtin; refine wpList_app rfl _ _ _ rfl ETz _ acc.length (acc.flatMap Tk.cells) rfl (HTO.out.1.alloc _) _ 1 [.int .i64 (ok : Int), .string (BA ot), .int .i64 (a : Int)] rfl (Rd.lit wr [.int .i64 (ok : Int), .string (BA ot), .int .i64 (a : Int)] _ 3 _ 1 rfl rfl (by unfold maxLen; omega)) (tk_one ⟨ok, ot, a⟩) (by unfold maxLen; omega) (by omega) ?_; intro ad9 cap9 w9 ho hg9 hf9)
            have hadd := HTO.out.add HKX.out (t := ⟨ok, ot, a⟩) ho hg9 hf9
            have HADD := Lw.hid hadd
            clear hadd ho hg9 hf9
            go_wp2_with fail
            go_roundg ((c :: r).drop Lo).length
            case measure => have h1 := HDR2.out; have h2 := HCR.out; have h3 := HLL.out; omega
            case rel => exact ⟨a + Lo, m, (c :: r).drop Lo, acc ++ [⟨ok, ot, a⟩], rfl, by go_num, by have h1 := HDR2.out; have h2 := HCR.out; have h3 := HLL.out; have h4 := HM.out; omega, by have h1 := HDR2.out; have h2 := HL1.out; have h3 := HLL.out; omega, HDL.out, by have := HADD.out.1; simpa [List.length_append] using this, HLX2.out, HADD.out.2, by rw [List.length_append]; have h3 := HLL.out; simp; omega⟩
        | none =>
          rw [hop] at HOP
          have HOP2 : Hid (Calls Tryd.prog 114 #[.string (BA s), .int .i64 (a : Int)] wr fun x w' => x = .returned (.tuple #[.int .i64 0, .int .i64 0]) ∧ w' = wr) := HOP
          have hce : endB c = false := by
            cases h : endB c with
            | false => rfl
            | true => exact absurd hop (oper_end h hbl)
          have HCE := Lw.hid hce; have HOQ := Lw.hid hop; have HBL := Lw.hid hbl; have H35 := Lw.hid h35
          obtain ⟨R1, hR1⟩ : ∃ R1, wordF (r.length + 2) (c :: r) = R1 := ⟨_, rfl⟩
          have HWD := Lw.hid hR1
          clear HOP hce hop hbl h35 hR1
          go_wp2_with fail
          refine HOP2.out.mono ?_
          rintro x w9x ⟨rfl, hw9x⟩; obtain rfl := hw9x.symm
          clear g0
          go_wp2_with fail
          obtain ⟨w1, hw1⟩ : ∃ w1 : World, w1 = wr := ⟨_, rfl⟩
          rw [← hw1] at HTO HKX
          have HK1 : Hid (Kept (fun _ => False) w1 wr) := Lw.hid (by rw [hw1]; exact Kept.refl _ _)
          clear hw1 HOP2
          go_loopg [6] (k - a) (fun gk s5 wx => WzR w1 s k R1 gk s5 wx)
          case atStart => exact ⟨a, r.length + 2, c :: r, rfl, rfl, HRL.out, HDR.out, by rw [HCR.out]; omega, HWD.out, HK1.out⟩
          case round =>
            obtain ⟨b, n, t, rfl, rfl, hbt, hdt, htn, hwf, hkb⟩ := hrel
            have HDT := Lw.hid hdt; have HWF := Lw.hid hwf; have HKB := Lw.hid hkb; have HBT := Lw.hid hbt; have HTN := Lw.hid htn
            clear hdt hwf hkb hbt htn HK1
            obtain ⟨n, rfl⟩ : ∃ n', n = n' + 1 := ⟨n - 1, by have := HTN.out; omega⟩
            have HFIN : Hid (R1 = .ok t → t.length ≤ r.length ∧ a < b ∧ (BA s).extract a b = BA ((c :: r).take (b - a)) ∧ (lexF m k t).map ((acc ++ [⟨1, (c :: r).take (b - a), a⟩]) ++ ·) = R0) := Lw.hid (fun hR => by
              have h1 := HBT.out; have h2 := HL1.out
              have hwd : wordF (r.length + 2) (c :: r) = .ok t := HWD.out.trans hR
              have hl := (wordF_less hwd HCE.out).len
              have e1 : r.length + 1 - t.length = b - a := by omega
              have e2 : k - (r.length + 1) = a := by omega
              refine ⟨hl, by omega, by rw [BA_extract, List.drop_take, HDR.out], ?_⟩
              rw [← HLX.out, lex_word HBL.out H35.out HOQ.out hwd, map_map_ok, e1, e2])
            have HERR : Hid (∀ e, R1 = .error e → lexT s = .error e) := Lw.hid (fun e hR => by
              rw [HL.out, ← HLX.out, lex_bad HBL.out H35.out HOQ.out (HWD.out.trans hR)]; rfl)
            have HTO2 := Lw.hid (HTO.out.kept HKB.out)
            have HKX2 := Lw.hid (HKX.out.trans HKB.out (fun _ _ h => h))
            have HM2 := Lw.hid HM.out
            have fins : ∀ (hok : R1 = .ok t), Hid (t.length ≤ r.length ∧ a < b ∧ (BA s).extract a b = BA ((c :: r).take (b - a)) ∧ (lexF m k t).map ((acc ++ [⟨1, (c :: r).take (b - a), a⟩]) ++ ·) = R0) := fun hok => Lw.hid (HFIN.out hok)
            clear HFIN
            cases t with
            | nil =>
              have hge : ¬ (b < k) := by have := HBT.out; simp at this; omega
              have FI := fins (by rw [← HWF.out]; rfl)
              clear fins
              obtain ⟨T, hT⟩ : ∃ T, (c :: r).take (b - a) = T := ⟨_, rfl⟩
              have HFI : Hid (([] : List UInt8).length ≤ r.length ∧ a < b ∧ (BA s).extract a b = BA T ∧ (lexF m k ([] : List UInt8)).map ((acc ++ [⟨1, T, a⟩]) ++ ·) = R0) := Lw.hid (by rw [← hT]; exact FI.out)
              have eT := HFI.out.2.2.1
              have hab : a < b := HFI.out.2.1
              have hbk : b ≤ k := by have := HBT.out; omega
              clear FI hT HERR
              go_wp2_with (at_builtin; refine wpList_app rfl _ _ _ rfl ETz _ acc.length (acc.flatMap Tk.cells) rfl (HTO2.out.1.alloc _) _ 1 [.int .i64 1, .string (BA T), .int .i64 (a : Int)] rfl (Rd.lit wr [.int .i64 1, .string (BA T), .int .i64 (a : Int)] _ 3 _ 1 rfl rfl (by unfold maxLen; omega)) (tk_one ⟨1, T, a⟩) (by unfold maxLen; omega) (by omega) ?_; intro ad9 cap9 w9 ho hg9 hf9)
              have hadd := HTO2.out.add HKX2.out (t := ⟨1, T, a⟩) ho hg9 hf9
              have HADD := Lw.hid hadd
              clear hadd ho hg9 hf9
              go_wp2_with fail
              go_roundg (([] : List UInt8)).length
              case measure => have h1 := HFI.out.1; have h2 := HCR.out; omega
              case rel => exact ⟨b, m, ([] : List UInt8), acc ++ [⟨1, T, a⟩], rfl, rfl, by have h1 := HFI.out.1; have h2 := HCR.out; have h3 := HM2.out; omega, HBT.out, HDT.out, by have := HADD.out.1; simpa [List.length_append] using this, HFI.out.2.2.2, HADD.out.2, by rw [List.length_append]; simp; omega⟩
            | cons d t =>
              obtain ⟨hc1, hd2, hl2⟩ := drop_cons HDT.out
              have g1 := BA_get hc1
              have hlt2 : b < k := by rw [HN.out] at hl2; omega
              have HEN := Lw.hid (fun wx => t16_ends wx d)
              clear hc1 hd2
              cases he : endB d with
              | true =>
                have FI := fins (by rw [← HWF.out]; exact word_end he)
                rw [he] at HEN
                clear fins he
                obtain ⟨T, hT⟩ : ∃ T, (c :: r).take (b - a) = T := ⟨_, rfl⟩
                have HFI : Hid ((d :: t).length ≤ r.length ∧ a < b ∧ (BA s).extract a b = BA T ∧ (lexF m k (d :: t)).map ((acc ++ [⟨1, T, a⟩]) ++ ·) = R0) := Lw.hid (by rw [← hT]; exact FI.out)
                have eT := HFI.out.2.2.1
                have hab : a < b := HFI.out.2.1
                have hbk : b ≤ k := by have := HBT.out; omega
                clear FI hT HERR
                go_wp2_with fail
                refine (HEN.out _).mono ?_
                rintro x w9x ⟨rfl, hw9x⟩; obtain rfl := hw9x.symm
                go_wp2_with (at_builtin; refine wpList_app rfl _ _ _ rfl ETz _ acc.length (acc.flatMap Tk.cells) rfl (HTO2.out.1.alloc _) _ 1 [.int .i64 1, .string (BA T), .int .i64 (a : Int)] rfl (Rd.lit wr [.int .i64 1, .string (BA T), .int .i64 (a : Int)] _ 3 _ 1 rfl rfl (by unfold maxLen; omega)) (tk_one ⟨1, T, a⟩) (by unfold maxLen; omega) (by omega) ?_; intro ad9 cap9 w9 ho hg9 hf9)
                have hadd := HTO2.out.add HKX2.out (t := ⟨1, T, a⟩) ho hg9 hf9
                have HADD := Lw.hid hadd
                clear hadd ho hg9 hf9
                go_wp2_with fail
                go_roundg ((d :: t)).length
                case measure => have h1 := HFI.out.1; have h2 := HCR.out; omega
                case rel => exact ⟨b, m, (d :: t), acc ++ [⟨1, T, a⟩], rfl, rfl, by have h1 := HFI.out.1; have h2 := HCR.out; have h3 := HM2.out; omega, HBT.out, HDT.out, by have := HADD.out.1; simpa [List.length_append] using this, HFI.out.2.2.2, HADD.out.2, by rw [List.length_append]; simp; omega⟩
              | false =>
                have HPI := Lw.hid (fun wx => t16_pieceR wx s b (by rw [HN.out]; exact hlt2) (by rw [HN.out]; exact hs9))
                rw [HDT.out, HN.out] at HPI
                rw [he] at HEN
                cases hres : pieceR false 0 (d :: t) with
                | error e =>
                  rw [hres, resR_tupE] at HPI
                  have he0 := scan_err_ne _ _ _ _ hres
                  have hE9 : ((e : Int) != 0) = true := by rw [bne_iff_ne]; omega
                  have HE : Hid (lexT s = .error e) := Lw.hid (HERR.out e (by rw [← HWF.out, word_err he hres]))
                  clear hres he0 he fins HERR
                  go_wp2_with fail
                  refine (HEN.out _).mono ?_
                  rintro x w9x ⟨rfl, hw9x⟩; obtain rfl := hw9x.symm
                  go_wp2_with fail
                  refine (HPI.out _).mono ?_
                  rintro x w2 ⟨rfl, k2⟩
                  have K2 := Lw.hid (HKX2.out.trans k2 (fun _ _ h => h))
                  clear k2
                  go_wp2_with fail
                  all_goals
                    go_ret2
                    exact ⟨lz_error HE.out rfl, K2.out⟩
                | ok t1 =>
                  rw [hres, resR_tup] at HPI
                  have hlen := (piece_less hres).len
                  have hol := ok_len HDT.out (by rw [HN.out]; exact HBT.out) (scan_tl _ _ _ hres)
                  rw [HN.out] at hol
                  have HOL := Lw.hid hol
                  have HW2 : Hid (wordF n t1 = R1) := Lw.hid (by rw [← HWF.out, word_step he hres])
                  have htl : t1.length + (b + 1) ≤ k := by have := HBT.out; simp at this; omega
                  have HTN2 : Hid (t1.length < n) := Lw.hid (by have := HTN.out; simp at this; omega)
                  have HSU : Hid (k - t1.length + t1.length = k) := Lw.hid (by omega)
                  obtain ⟨b2, hb2⟩ : ∃ b2, k - t1.length = b2 := ⟨_, rfl⟩
                  rw [hb2] at HPI HOL HSU
                  have hbb : b < b2 ∧ b2 ≤ k := by omega
                  clear hres hlen hol htl hb2 he fins HERR
                  go_wp2_with fail
                  refine (HEN.out _).mono ?_
                  rintro x w9x ⟨rfl, hw9x⟩; obtain rfl := hw9x.symm
                  go_wp2_with fail
                  refine (HPI.out _).mono ?_
                  rintro x w2 ⟨rfl, k2⟩
                  have K2 := Lw.hid (HKB.out.trans k2 (fun _ _ h => h))
                  clear k2
                  go_wp2_with fail
                  go_roundg (k - b2)
                  case measure => omega
                  case rel => exact ⟨b2, n, t1, rfl, by first | rfl | go_num, HSU.out, HOL.out.1, HTN2.out, HW2.out, K2.out⟩
end Go.Proofs.YtifcgeanippepaaDoor
