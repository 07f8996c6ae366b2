/- Of the proof of TopBooks: Chain. -/
import Derived.Test.YtgegjjnfcnalfaaGreatDoorG03
namespace Go.Lw
open Go Go.RowKit
structure CStage (ch : List Nat) (s : Nat) (listed : Array Bool) : Prop where
  le : s ≤ ch.length
  done : ∀ i c, ch[i]? = some c → i < s → listed.getD c false = true
  undone : ∀ i c, ch[i]? = some c → s ≤ i → listed.getD c false = false
theorem CStage.full {ch : List Nat} {s : Nat} {listed : Array Bool} (h : CStage ch s listed) (hall : ∀ c ∈ ch, listed.getD c false = true) : s = ch.length := by
  rcases Nat.lt_or_ge s ch.length with hlt | hge
  · have h1 := h.undone s ch[s] (List.getElem?_eq_getElem hlt) (Nat.le_refl _)
    rw [hall ch[s] (List.getElem_mem hlt)] at h1
    cases h1
  · have := h.le; omega
theorem CStage.back {l : List Oper} {ch : List Nat} {D : Nat → Prop} (hD : Closed l D) (hch : ∀ (t c d : Nat), ch[t]? = some c → ch[t + 1]? = some d → ∀ D : Nat → Prop, Closed l D → (∀ o, l[d]? = some o → ∀ e ∈ o.after, Region.binds .any e = true → D e.on) → D c) :
    ∀ (t c : Nat), ch[t]? = some c → D c → ∀ (i d : Nat), ch[i]? = some d → i ≤ t → D d := by
  intro t
  induction t with
  | zero =>
    intro c hc hd i d hi hle
    obtain rfl : i = 0 := by omega
    rw [hc] at hi; obtain rfl := Option.some.inj hi
    exact hd
  | succ t ih =>
    intro c hc hd i d hi hle
    by_cases he : i = t + 1
    · subst he; rw [hc] at hi; obtain rfl := Option.some.inj hi; exact hd
    · have hlt : t < ch.length := by
        rcases Nat.lt_or_ge t ch.length with h | h
        · exact h
        · rw [List.getElem?_eq_none (by omega)] at hc; cases hc
      exact ih ch[t] (List.getElem?_eq_getElem hlt) (hch t _ c (List.getElem?_eq_getElem hlt) hc D hD (fun o ho e he' hb => hD c o ho hd e he' hb)) i d hi (by omega)
theorem CStage.here {l : List Oper} {ch : List Nat} {s : Nat} {listed : Array Bool} (h : CStage ch s listed) (hch : ∀ (t c d : Nat), ch[t]? = some c → ch[t + 1]? = some d → ∀ D : Nat → Prop, Closed l D → (∀ o, l[d]? = some o → ∀ e ∈ o.after, Region.binds .any e = true → D e.on) → D c)
    (hcl : Closed l (fun k => listed.getD k false = true)) {i : Nat} (hi0 : listed.getD i false = false) (hafter : ∀ o, l[i]? = some o → ∀ e ∈ o.after, Region.binds .any e = true → listed.getD e.on false = true) : ∀ t, ch[t]? = some i → t = s := by
  intro t ht
  rcases Nat.lt_or_ge t s with hlt | hge
  · have := h.done t i ht hlt; rw [hi0] at this; cases this
  · rcases Nat.lt_or_ge s t with hgt | hle
    · exfalso
      have htl : t < ch.length := by
        rcases Nat.lt_or_ge t ch.length with h | h
        · exact h
        · rw [List.getElem?_eq_none (by omega)] at ht; cases ht
      obtain ⟨u, rfl⟩ : ∃ u, t = u + 1 := ⟨t - 1, by omega⟩
      have hu : ch[u]? = some ch[u] := List.getElem?_eq_getElem (by omega)
      have hDu : listed.getD ch[u] false = true := hch u _ i hu ht _ hcl hafter
      have hs : ch[s]? = some ch[s] := List.getElem?_eq_getElem (by omega)
      have := CStage.back hcl hch u _ hu hDu s _ hs (by omega)
      rw [h.undone s _ hs (Nat.le_refl _)] at this; cases this
    · omega
theorem CStage.next {ch : List Nat} {s : Nat} {listed : Array Bool} (h : CStage ch s listed) {i : Nat} (hil : i < listed.size) (hts : ∀ t, ch[t]? = some i → t = s) : CStage ch (if i ∈ ch then s + 1 else s) (listed.setIfInBounds i true) := by
  have hget : (listed.setIfInBounds i true).getD i false = true := by simp [hil]
  by_cases hm : i ∈ ch
  · rw [if_pos hm]
    obtain ⟨t, htl, ht⟩ := List.getElem_of_mem hm
    have ht' : ch[t]? = some i := by rw [List.getElem?_eq_getElem htl, ht]
    obtain rfl := hts t ht'
    refine ⟨htl, fun j c hc hlt => ?_, fun j c hc hle => ?_⟩
    · by_cases e : c = i
      · rw [e]; exact hget
      · rw [getD_set_ne false (Ne.symm e)]
        have : j ≠ t := fun e' => e (by rw [e', ht'] at hc; exact (Option.some.inj hc).symm)
        exact h.done j c hc (by omega)
    · have e : c ≠ i := fun e => by
        subst e
        have := hts j hc; omega
      rw [getD_set_ne false (Ne.symm e)]
      exact h.undone j c hc (by omega)
  · rw [if_neg hm]
    have hne : ∀ (j c : Nat), ch[j]? = some c → c ≠ i := fun j c hc e => hm (by rw [← e]; exact List.mem_of_getElem? hc)
    exact ⟨h.le, fun j c hc hlt => by rw [getD_set_ne false (Ne.symm (hne j c hc))]; exact h.done j c hc hlt, fun j c hc hle => by rw [getD_set_ne false (Ne.symm (hne j c hc))]; exact h.undone j c hc hle⟩
def pairB (l : List Oper) (f c d : Nat) : Bool := (closeF l f (sdepsAt l d)).contains c
theorem pair_at {l : List Oper} {f c d : Nat} (h : pairB l f c d = true) {D : Nat → Prop} (hD : Closed l D) (hdep : ∀ o, l[d]? = some o → ∀ e ∈ o.after, Region.binds .any e = true → D e.on) : D c := by
  refine closeF_in hD f (sdepsAt l d) (fun k hk => ?_) c (by unfold pairB at h; simpa using h)
  unfold sdepsAt at hk
  split at hk
  · rename_i o ho
    obtain ⟨e, he, hbe, rfl⟩ := mem_sdeps hk
    exact hdep o ho e he hbe
  · cases hk
section
variable {P : Program} {Q : Exit → Act → World → Prop}
def CStep (P : Program) (Q : Exit → Act → World → Prop) (l : List Oper) (ch : List Nat) (I : Nat → World → Prop) (R : World → World → Prop) (Φ : Nat → Value → World → Prop) (a0 : Act) (j : Nat) (o : Oper) : Prop :=
  ∀ s, (∀ t, ch[t]? = some j → t = s) → (∀ (t c : Nat), ch[t]? = some c → pairB l 8 j c = true → s ≤ t) → ∀ a w, I s w → SAgree l a0 a → SFacts l Φ a w (sdeps o) → ∀ K : Act → World → Prop, (∀ v w', I (if j ∈ ch then s + 1 else s) w' → R w w' → Φ j v w' → K (a.put o.dst v) w') → wpList P l.toArray (Exit.then K Q) [o] a w
def CSteps (P : Program) (Q : Exit → Act → World → Prop) (l : List Oper) (ch : List Nat) (I : Nat → World → Prop) (R : World → World → Prop) (Φ : Nat → Value → World → Prop) (a0 : Act) : Nat → List Oper → Prop
  | _, [] => True
  | j, o :: rest => CStep P Q l ch I R Φ a0 j o ∧ CSteps P Q l ch I R Φ a0 (j + 1) rest
theorem csteps_at {l : List Oper} {ch : List Nat} {I : Nat → World → Prop} {R : World → World → Prop} {Φ : Nat → Value → World → Prop} {a0 : Act} : ∀ (m : List Oper) (k j : Nat) (o : Oper), CSteps P Q l ch I R Φ a0 k m → m[j]? = some o → CStep P Q l ch I R Φ a0 (k + j) o
  | [], _, _, _, _, h => by simp at h
  | o' :: m, k, 0, o, hs, h => by
    simp at h; subst h; exact hs.1
  | o' :: m, k, j + 1, o, hs, h => by
    have := csteps_at m (k + 1) j o hs.2 (by simpa using h)
    rw [show k + (j + 1) = k + 1 + j by omega]; exact this
theorem csteps_hit {l : List Oper} {ch : List Nat} {I : Nat → World → Prop} {R : World → World → Prop} {Φ : Nat → Value → World → Prop} {a0 : Act} {j : Nat} {o : Oper} {rest : List Oper} (t : Nat) (ht : ch[t]? = some j)
    (h : ∀ a w, I t w → SAgree l a0 a → SFacts l Φ a w (sdeps o) → ∀ K : Act → World → Prop, (∀ v w', I (t + 1) w' → R w w' → Φ j v w' → K (a.put o.dst v) w') → wpList P l.toArray (Exit.then K Q) [o] a w) (k : CSteps P Q l ch I R Φ a0 (j + 1) rest) : CSteps P Q l ch I R Φ a0 j (o :: rest) :=
  ⟨fun s hts _ a w hI hag hf K hK => by
    obtain rfl := hts t ht
    rw [if_pos (List.mem_of_getElem? ht)] at hK
    exact h a w hI hag hf K hK, k⟩
theorem csteps_free {l : List Oper} {ch : List Nat} {I : Nat → World → Prop} {R : World → World → Prop} {Φ : Nat → Value → World → Prop} {a0 : Act} {j : Nat} {o : Oper} {rest : List Oper} (hn : j ∉ ch)
    (h : ∀ s a w, I s w → SAgree l a0 a → SFacts l Φ a w (sdeps o) → ∀ K : Act → World → Prop, (∀ v w', I s w' → R w w' → Φ j v w' → K (a.put o.dst v) w') → wpList P l.toArray (Exit.then K Q) [o] a w) (k : CSteps P Q l ch I R Φ a0 (j + 1) rest) : CSteps P Q l ch I R Φ a0 j (o :: rest) :=
  ⟨fun s _ _ a w hI hag hf K hK => by
    rw [if_neg hn] at hK
    exact h s a w hI hag hf K hK, k⟩
set_option maxHeartbeats 1000000 in
theorem chain_any {l : List Oper} {ch : List Nat} {I : Nat → World → Prop} {R : World → World → Prop} {Φ : Nat → Value → World → Prop} {a0 : Act} (n : Nat) (hn : n ≤ l.length)
    (hd : (softDst (l.take n)).Nodup) (hlt : ∀ d ∈ softDst (l.take n), d < a0.tmps.size) (hR : ∀ k v w w', R w w' → Φ k v w → Φ k v w') (hs : CSteps P Q (l.take n) ch I R Φ a0 0 (l.take n)) (hchn : ∀ c ∈ ch, c < n)
    (hch : ∀ (t c d : Nat), ch[t]? = some c → ch[t + 1]? = some d → ∀ D : Nat → Prop, Closed l D → (∀ o, l[d]? = some o → ∀ e ∈ o.after, Region.binds .any e = true → D e.on) → D c)
    (hord : ∀ k o, l[k]? = some o → ∀ e ∈ o.after, Region.binds .any e = true → e.on < k)
    (htail : ∀ j o, n ≤ j → l[j]? = some o → ∀ D : Nat → Prop, Closed l D → (∀ e ∈ o.after, Region.binds .any e = true → D e.on) → ∀ i, i < j → D i)
    (hguard : ∀ k o, k < n → l[k]? = some o → ∀ a : Act, Region.wanted o (yielded l.toArray a.tmps) = Region.wanted o (yielded (l.take n).toArray a.tmps))
    (hend : ∀ a w, I ch.length w → SAgree (l.take n) a0 a → (∀ k, k < n → SFact (l.take n) Φ k a w) → wpList P l.toArray Q (l.drop n) a w) :
    ∀ (fuel : Nat) (listed : Array Bool) (a : Act) (w : World), listed.size = l.length → (∀ k, listed.getD k false = true → k < n) → (∃ s, CStage ch s listed ∧ I s w) → SAgree (l.take n) a0 a → (∀ k, listed.getD k false = true → SFact (l.take n) Φ k a w) →
      ((listed.toList.filter (· = false)).length = fuel) → Closed l (fun k => listed.getD k false = true) → wpAny P .any l.toArray Q fuel listed a w := by
  intro fuel
  have hcnt0 : ∀ (m : List Bool) (p : Nat), (∀ k, k < m.length → (m[k]? = some true ↔ k < p)) → p ≤ m.length → (m.filter (· = false)).length = m.length - p := by
    intro m
    induction m with
    | nil => intro p _ hp; simp at hp ⊢
    | cons b m ihm =>
      intro p hp hple
      have h0 := hp 0 (by simp)
      cases p with
      | zero =>
        have hb : b = false := by
          rcases b with _ | _
          · rfl
          · simp at h0
        have := ihm 0 (fun k hk => by have := hp (k + 1) (by simpa using hk); simpa using this) (Nat.zero_le _)
        rw [hb, List.filter_cons, if_pos (by simp), List.length_cons, this]; simp
      | succ p =>
        have hb : b = true := by simpa using h0.2 (by omega)
        have := ihm p (fun k hk => by have := hp (k + 1) (by simpa using hk); simpa using this) (by simpa using hple)
        rw [hb, List.filter_cons, if_neg (by simp), List.length_cons, this]; omega
  induction fuel with
  | zero =>
    intro listed a w hsz hln hI ha hl hc hclosed
    have hall : ∀ k, k < l.length → listed.getD k false = true := fun k hk => by
      rcases hx : listed.getD k false with _ | _
      · exfalso
        have hmem : false ∈ listed.toList.filter (· = false) := by
          rw [List.mem_filter]
          refine ⟨?_, by simp⟩
          have hk' : k < listed.size := by omega
          have : listed[k]? = some false := by
            rw [Array.getElem?_eq_getElem hk']
            simp only [Array.getD, hk', dif_pos] at hx
            simpa using hx
          exact Array.mem_toList_iff.2 (Array.mem_of_getElem? this)
        rw [List.eq_nil_of_length_eq_zero hc] at hmem
        cases hmem
      · rfl
    have hnl : n = l.length := by
      rcases Nat.lt_or_ge n l.length with h | h
      · have := hln n (hall n h); omega
      · omega
    exact tail_any n hord htail 0 n listed a w (Nat.le_refl _) (by omega) hsz (fun k hk => ⟨fun _ => by omega, fun _ => hall k hk⟩) (hend a w (by obtain ⟨s, h1, h2⟩ := hI; rw [← h1.full (fun c hc => hall c (by have := hchn c hc; omega))]; exact h2) ha fun k hk => hl k (hall k (by omega)))
  | succ fuel ih =>
    intro listed a w hsz hln hI ha hl hc hclosed
    by_cases hall : ∀ k, k < n → listed.getD k false = true
    · have hiff : ∀ k, k < l.length → (listed.getD k false = true ↔ k < n) := fun k hk => ⟨hln k, hall k⟩
      have hf : fuel + 1 = l.length - n := by
        rw [← hc, ← hsz, ← Array.length_toList]
        refine hcnt0 listed.toList n (fun k hk => ?_) (by simpa [hsz] using hn)
        have hk' : k < listed.size := by simpa using hk
        have := hiff k (by omega)
        simp [hk'] at this ⊢; exact this
      exact tail_any n hord htail (fuel + 1) n listed a w (Nat.le_refl _) (by omega) hsz hiff (hend a w (by obtain ⟨s, h1, h2⟩ := hI; rw [← h1.full (fun c hc => hall c (hchn c hc))]; exact h2) ha fun k hk => hl k (hall k hk))
    obtain ⟨k0, hk0n, hk0⟩ : ∃ k, k < n ∧ listed.getD k false = false := by
      refine Classical.byContradiction fun hno => hall fun k hk => ?_
      rcases hx : listed.getD k false with _ | _
      · exact (hno ⟨k, hk, hx⟩).elim
      · rfl
    refine ⟨fun hr => ?_, fun i hi => ?_⟩
    · exfalso
      have key : ∀ k, k < n → listed.getD k false = true := by
        intro k
        induction k using Nat.strongRecOn with
        | ind k ihk =>
          intro hk
          rcases hx : listed.getD k false with _ | _
          · exfalso
            have hk' : k < listed.size := by omega
            have : k ∈ Region.ready .any l.toArray listed := by
              refine mem_ready.2 ⟨?_, l[k], by simp [show k < l.length by omega], fun e he hb => ?_⟩
              · simp [hk'] at hx ⊢; exact hx
              · have hlt := hord k l[k] (List.getElem?_eq_getElem (by omega)) e he hb
                exact ihk e.on hlt (by omega)
            rw [hr] at this; cases this
          · rfl
      exact hall key
    obtain ⟨h0, o, ho, hafter⟩ := mem_ready.1 hi
    have ho' : l[i]? = some o := by simpa using ho
    have hil : i < l.length := by
      rcases Nat.lt_or_ge i l.length with h | h
      · exact h
      · simp [h] at ho
    have hin : i < n := by
      rcases Nat.lt_or_ge i n with h | h
      · exact h
      · exfalso
        have := htail i o h ho' _ hclosed hafter k0 (by omega)
        rw [hk0] at this; cases this
    have hot : (l.take n)[i]? = some o := by rw [List.getElem?_take, if_pos hin]; exact ho'
    have hstep := csteps_at (l.take n) 0 i o hs hot
    rw [Nat.zero_add] at hstep
    obtain ⟨s, hst, hIs⟩ := hI
    have hi0 : listed.getD i false = false := by
      have hk' : i < listed.size := by omega
      simp [hk'] at h0 ⊢; exact h0
    have hts : ∀ t, ch[t]? = some i → t = s := hst.here hch hclosed hi0 (fun o' ho'' e he hb => by rw [ho'] at ho''; obtain rfl := Option.some.inj ho''; exact hafter e he hb)
    have hfacts : SFacts (l.take n) Φ a w (sdeps o) := sfacts_of _ fun k hk => by
      unfold sdeps at hk
      rw [List.mem_eraseDups] at hk
      obtain ⟨e, he, rfl⟩ := List.mem_map.1 hk
      rw [List.mem_filter] at he
      exact hl _ (hafter e (by simpa using he.1) (by simpa using he.2))
    have next : ∀ v w', I (if i ∈ ch then s + 1 else s) w' → R w w' → Φ i v w' → wpAny P .any l.toArray Q fuel (listed.setIfInBounds i true) (a.put o.dst v) w' := by
      intro v w' hI' hR' hΦ
      have hcnt : ∀ (m : List Bool) (i : Nat), m[i]? = some false → ((m.set i true).filter (· = false)).length + 1 = (m.filter (· = false)).length := by
        intro m
        induction m with
        | nil => intro i h; simp at h
        | cons b m ihm =>
          intro i h
          cases i with
          | zero => simp at h; subst h; simp
          | succ i =>
            have := ihm i (by simpa using h)
            rw [List.set_cons_succ, List.filter_cons, List.filter_cons]
            split <;> simp_all
      have hfuel : ((listed.setIfInBounds i true).toList.filter (· = false)).length = fuel := by
        have := hcnt listed.toList i (by
          have hk' : i < listed.size := by omega
          simp [hk'] at h0 ⊢; exact h0)
        rw [Array.toList_setIfInBounds]; omega
      refine ih (listed.setIfInBounds i true) (a.put o.dst v) w' (by simpa using hsz) (fun k hk => ?_) ⟨_, hst.next (by omega) hts, hI'⟩ ?_ (fun k hk => ?_) hfuel ?_
      · by_cases hki : k = i
        · omega
        · rw [getD_set_ne false (Ne.symm hki)] at hk; exact hln k hk
      · refine ⟨by rw [put_size]; exact ha.size, fun s hs => ?_, by rw [put_defs]; exact ha.defs⟩
        rw [put_other _ _ _ _ (fun d hd e => by subst e; exact hs (softDst_mem hot hd))]
        exact ha.same s hs
      · by_cases hki : k = i
        · subst hki
          cases hdd : o.dst with
          | none => simp only [SFact, hot, hdd]
          | some d =>
            simp only [SFact, hot, hdd]
            exact ⟨v, put_same _ _ _ (by rw [ha.size]; exact hlt d (softDst_mem hot hdd)), hΦ⟩
        · have hk' : listed.getD k false = true := by rw [getD_set_ne false (Ne.symm hki)] at hk; exact hk
          have hkf := hl k hk'
          cases hlk : (l.take n)[k]? with
          | none => simp only [SFact, hlk]
          | some ok =>
            cases hdk : ok.dst with
            | none => simp only [SFact, hlk, hdk]
            | some d =>
              simp only [SFact, hlk, hdk] at hkf ⊢
              obtain ⟨u, hu, hΦu⟩ := hkf
              exact ⟨u, by rw [put_other _ _ _ _ (fun d' hd' => softDst_ne hd hot hlk hd' hdk (Ne.symm hki))]; exact hu, hR _ _ _ _ hR' hΦu⟩
      · intro k ok hk hD e he hb
        have hie : i ≠ e.on → listed.getD e.on false = true → (listed.setIfInBounds i true).getD e.on false = true := fun hei h1 => by rw [getD_set_ne false hei]; exact h1
        have hno : i = e.on → listed.getD e.on false = true → False := fun hei h1 => by
          rw [hei] at h0
          rcases Nat.lt_or_ge e.on listed.size with h' | h'
          · simp [h'] at h0 h1; rw [h0] at h1; cases h1
          · simp [Array.getElem?_eq_none h'] at h1
        have h1 : listed.getD e.on false = true := by
          by_cases hki : k = i
          · rw [hki, ho'] at hk
            have e1 := Option.some.inj hk
            subst e1
            exact hafter e he hb
          · have hD' : (listed.setIfInBounds i true).getD k false = true := hD
            rw [getD_set_ne false (Ne.symm hki)] at hD'
            exact hclosed k ok hk hD' e he hb
        exact hie (fun hei => hno hei h1) h1
    have hpre : ∀ (t c : Nat), ch[t]? = some c → pairB (l.take n) 8 i c = true → s ≤ t := fun t c hc hp => by
      rcases Nat.lt_or_ge t s with hlt' | hge
      · exfalso
        have hcl' : Closed (l.take n) (fun k => listed.getD k false = true) := fun k o' hk hD e he hb => hclosed k o' (by rw [List.getElem?_take] at hk; split at hk; exact hk; cases hk) hD e he hb
        have hDc : listed.getD c false = true := hst.done t c hc hlt'
        have := pair_at hp hcl' (fun o' ho'' e he hb => hcl' c o' ho'' hDc e he hb)
        rw [hi0] at this; cases this
      · exact hge
    have := hstep s hts hpre a w hIs ha hfacts _ next
    unfold wpOp
    rw [ho]
    simp only [wpList] at this ⊢
    rw [hguard i o hin ho' a]
    split
    · rename_i hw
      rw [if_pos hw] at this
      rcases this with h | ⟨h1, a', w', h2⟩
      · exact .inl (wp_then h)
      · exact .inr ⟨h1, a', w', h2⟩
    · rename_i hw
      rw [if_neg hw] at this
      exact this
def chainB (l : List Oper) (f : Nat) : List Nat → Bool
  | [] => true
  | c :: rest => (match rest with
    | [] => true
    | d :: _ => pairB l f c d) && chainB l f rest
theorem chainB_pair {l : List Oper} {f : Nat} : ∀ (ch : List Nat), chainB l f ch = true → ∀ (t c d : Nat), ch[t]? = some c → ch[t + 1]? = some d → pairB l f c d = true
  | [], _, t, c, d, h, _ => by simp at h
  | x :: rest, hb, t, c, d, hc, hd => by
    simp only [chainB, Bool.and_eq_true] at hb
    cases t with
    | zero =>
      rw [List.getElem?_cons_zero] at hc
      rw [List.getElem?_cons_succ] at hd
      obtain rfl := Option.some.inj hc
      cases rest with
      | nil => simp at hd
      | cons y r =>
        rw [List.getElem?_cons_zero] at hd
        obtain rfl := Option.some.inj hd
        exact hb.1
    | succ t =>
      rw [List.getElem?_cons_succ] at hc hd
      exact chainB_pair rest hb.2 t c d hc hd
def chainOk (m n : Nat) (ch : List Nat) (l : List Oper) : Bool := softTailOk m n l && ch.all (fun c => decide (c < n)) && decide ch.Nodup && chainB l 8 ch
def StableR (R : World → World → Prop) : Type := { p : Value → World → Prop // ∀ v w w', R w w' → p v w → p v w' }
def rV {R : World → World → Prop} (c : Value) : StableR R := ⟨fun v _ => v = c, fun _ _ _ _ h => h⟩
def rphi {R : World → World → Prop} (specs : List (StableR R)) (k : Nat) (v : Value) (w : World) : Prop :=
  match specs[k]? with
  | some p => p.1 v w
  | none => True
theorem rpv {R : World → World → Prop} {specs : List (StableR R)} {k : Nat} {c v : Value} {w : World} (h : rphi specs k v w) (e : specs[k]? = some (rV c)) : v = c := by
  unfold rphi at h
  rw [e] at h
  exact h
theorem wpAny_chain {l : List Oper} {a0 : Act} {w0 : World} (n : Nat) (ch : List Nat) (I : Nat → World → Prop) (R : World → World → Prop) (specs : List (StableR R))
    (hok : chainOk a0.tmps.size n ch l = true) (h0 : I 0 w0.drew)
    (hs : CSteps P Q (l.take n) ch I R (rphi specs) a0 0 (l.take n))
    (hend : ∀ (vs : Nat → Value) w, I ch.length w → (∀ k o d, (l.take n)[k]? = some o → o.dst = some d → rphi specs k (vs k) w) → wpList P l.toArray Q (l.drop n) (putAll vs 0 (l.take n) a0) w) : wpAny P .any l.toArray Q l.toArray.size (Array.replicate l.toArray.size false) a0 w0.drew := by
  simp only [chainOk, softTailOk, Bool.and_eq_true, decide_eq_true_eq, List.all_eq_true] at hok
  obtain ⟨⟨⟨⟨⟨⟨⟨⟨h0', h1⟩, h2⟩, h3⟩, h4⟩, h5⟩, h6⟩, h7⟩, h8⟩ := hok
  have hord : ∀ k o, l[k]? = some o → ∀ e ∈ o.after, Region.binds .any e = true → e.on < k := fun k o hk e he hb => by have := softOrd_at l 0 k o h3 hk e he hb; omega
  have hR : ∀ k v w w', R w w' → rphi specs k v w → rphi specs k v w' := fun k v w w' hr h => by
    unfold rphi at *
    split
    · rename_i p hp
      rw [hp] at h
      exact p.2 v w w' hr h
    · trivial
  refine (chain_any (ch := ch) (I := I) (R := R) (Φ := rphi specs) n h0' h1 h2 hR hs h6 (fun t c d hc hd D hD hdep => pair_at (chainB_pair ch h8 t c d hc hd) hD hdep) hord (fun j o hj ho D hD hd i hi => ?_) (guard_of h5) (fun a w hI ha hf => ?_) _ _ _ _ (by simp) (fun k hk => ?_) ⟨0, ⟨Nat.zero_le _, fun _ _ _ h => by omega, fun i c _ _ => ?_⟩, h0⟩ ⟨rfl, fun _ _ => rfl, rfl⟩ (fun k hk => ?_) (by simp) (fun k o ho hk => ?_))
  · have := tailOrd_at (l.drop n) n (j - n) o h4 (by rw [List.getElem?_drop, show n + (j - n) = j by omega]; exact ho) D hD hd i (by omega)
    exact this
  · obtain ⟨vs, rfl, hvs⟩ := frame_is h1 h2 ha (fun k hk => hf k (by rw [List.length_take] at hk; omega))
    exact hend vs w hI hvs
  · simp [Array.getD] at hk
  · simp [Array.getD]
  · simp [Array.getD] at hk
  · simp [Array.getD] at hk
end
end Go.Lw
