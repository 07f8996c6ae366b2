/- Of the proof of TopBooks: SetLaw. -/
import Derived.Test.YtgegjjnfcnalfaaGreatDoorG13
namespace Go.Lw
open Go Go.RowKit
section
variable {P : Program} {Q : Exit → Act → World → Prop}
def GStep {Γ : Type} (P : Program) (Q : Exit → Act → World → Prop) (l : List Oper) (I : (Nat → Bool) → Γ → World → Prop) (R : Γ → World → Γ → World → Prop) (Φ : Nat → Value → Γ → World → Prop) (a0 : Act) (j : Nat) (o : Oper) : Prop :=
  ∀ (D : Nat → Bool) (γ : Γ) a w, I D γ w → D j = false → (∀ k ∈ sdeps o, D k = true) → (∀ k o', l[k]? = some o' → D k = true → ∀ d ∈ sdeps o', D d = true) → SAgree l a0 a → (∀ k o' s, l[k]? = some o' → o'.dst = some s → pairB l 8 j k = true → a.tmps[s]? = a0.tmps[s]?) → SFacts l (fun k v w => Φ k v γ w) a w (sdeps o) →
    ∀ K : Act → World → Prop, (∀ v γ' w', I (fun k => if k = j then true else D k) γ' w' → R γ w γ' w' → Φ j v γ' w' → K (a.put o.dst v) w') → wpList P l.toArray (Exit.then K Q) [o] a w
def GSteps {Γ : Type} (P : Program) (Q : Exit → Act → World → Prop) (l : List Oper) (I : (Nat → Bool) → Γ → World → Prop) (R : Γ → World → Γ → World → Prop) (Φ : Nat → Value → Γ → World → Prop) (a0 : Act) : Nat → List Oper → Prop
  | _, [] => True
  | j, o :: rest => GStep P Q l I R Φ a0 j o ∧ GSteps P Q l I R Φ a0 (j + 1) rest
theorem gsteps_cons {Γ : Type} {l : List Oper} {I : (Nat → Bool) → Γ → World → Prop} {R : Γ → World → Γ → World → Prop} {Φ : Nat → Value → Γ → World → Prop} {a0 : Act} {j : Nat} {o : Oper} {rest : List Oper} (h : GStep P Q l I R Φ a0 j o) (k : GSteps P Q l I R Φ a0 (j + 1) rest) : GSteps P Q l I R Φ a0 j (o :: rest) := ⟨h, k⟩
theorem gsteps_at {Γ : Type} {l : List Oper} {I : (Nat → Bool) → Γ → World → Prop} {R : Γ → World → Γ → World → Prop} {Φ : Nat → Value → Γ → World → Prop} {a0 : Act} : ∀ (m : List Oper) (k j : Nat) (o : Oper), GSteps P Q l I R Φ a0 k m → m[j]? = some o → GStep P Q l I R Φ a0 (k + j) o
  | [], _, _, _, _, h => by simp at h
  | o' :: m, k, 0, o, hs, h => by
    simp at h; subst h; exact hs.1
  | o' :: m, k, j + 1, o, hs, h => by
    have := gsteps_at m (k + 1) j o hs.2 (by simpa using h)
    rw [show k + (j + 1) = k + 1 + j by omega]; exact this
theorem set_all {listed : Array Bool} {n : Nat} (h1 : ∀ k, k < n → listed.getD k false = true) (h2 : ∀ k, listed.getD k false = true → k < n) : (fun k => listed.getD k false) = fun k => decide (k < n) := funext fun k => by
  by_cases hk : k < n
  · rw [h1 k hk, decide_eq_true hk]
  · rw [decide_eq_false hk]
    rcases hx : listed.getD k false with _ | _
    · rfl
    · exact (hk (h2 k hx)).elim
theorem settail_any {Γ : Type} {l : List Oper} {I : (Nat → Bool) → Γ → World → Prop} {R : Γ → World → Γ → World → Prop} {Φ : Nat → Value → Γ → World → Prop} {a0 : Act} (n : Nat) (hn : n ≤ l.length)
    (hd : (softDst (l.take n)).Nodup) (hlt : ∀ d ∈ softDst (l.take n), d < a0.tmps.size) (hR : ∀ k v γ w γ' w', R γ w γ' w' → Φ k v γ w → Φ k v γ' w') (hs : GSteps P Q (l.take n) I R Φ a0 0 (l.take n))
    (hord : ∀ k o, l[k]? = some o → ∀ e ∈ o.after, Region.binds .any e = true → e.on < k)
    (htail : ∀ j o, n ≤ j → l[j]? = some o → ∀ D : Nat → Prop, Closed l D → (∀ e ∈ o.after, Region.binds .any e = true → D e.on) → ∀ i, i < j → D i)
    (hguard : ∀ k o, k < n → l[k]? = some o → ∀ a : Act, Region.wanted o (yielded l.toArray a.tmps) = Region.wanted o (yielded (l.take n).toArray a.tmps))
    (hend : ∀ γ a w, I (fun k => decide (k < n)) γ w → SAgree (l.take n) a0 a → (∀ k, k < n → SFact (l.take n) (fun k v w => Φ k v γ w) k a w) → wpList P l.toArray Q (l.drop n) a w) :
    ∀ (fuel : Nat) (listed : Array Bool) (γ : Γ) (a : Act) (w : World), listed.size = l.length → (∀ k, listed.getD k false = true → k < n) → I (fun k => listed.getD k false) γ w → SAgree (l.take n) a0 a → (∀ k o s, (l.take n)[k]? = some o → o.dst = some s → listed.getD k false = false → a.tmps[s]? = a0.tmps[s]?) → (∀ k, listed.getD k false = true → SFact (l.take n) (fun k v w => Φ k v γ w) k a w) →
      ((listed.toList.filter (· = false)).length = fuel) → Closed l (fun k => listed.getD k false = true) → wpAny P .any l.toArray Q fuel listed a w := by
  intro fuel
  have hcnt0 : ∀ (m : List Bool) (p : Nat), (∀ k, k < m.length → (m[k]? = some true ↔ k < p)) → p ≤ m.length → (m.filter (· = false)).length = m.length - p := by
    intro m
    induction m with
    | nil => intro p _ hp; simp at hp ⊢
    | cons b m ihm =>
      intro p hp hple
      have h0 := hp 0 (by simp)
      cases p with
      | zero =>
        have hb : b = false := by
          rcases b with _ | _
          · rfl
          · simp at h0
        have := ihm 0 (fun k hk => by have := hp (k + 1) (by simpa using hk); simpa using this) (Nat.zero_le _)
        rw [hb, List.filter_cons, if_pos (by simp), List.length_cons, this]; simp
      | succ p =>
        have hb : b = true := by simpa using h0.2 (by omega)
        have := ihm p (fun k hk => by have := hp (k + 1) (by simpa using hk); simpa using this) (by simpa using hple)
        rw [hb, List.filter_cons, if_neg (by simp), List.length_cons, this]; omega
  induction fuel with
  | zero =>
    intro listed γ a w hsz hln hI ha hlate hl hc hclosed
    have hall : ∀ k, k < l.length → listed.getD k false = true := fun k hk => by
      rcases hx : listed.getD k false with _ | _
      · exfalso
        have hmem : false ∈ listed.toList.filter (· = false) := by
          rw [List.mem_filter]
          refine ⟨?_, by simp⟩
          have hk' : k < listed.size := by omega
          have : listed[k]? = some false := by
            rw [Array.getElem?_eq_getElem hk']
            simp only [Array.getD, hk', dif_pos] at hx
            simpa using hx
          exact Array.mem_toList_iff.2 (Array.mem_of_getElem? this)
        rw [List.eq_nil_of_length_eq_zero hc] at hmem
        cases hmem
      · rfl
    have hnl : n = l.length := by
      rcases Nat.lt_or_ge n l.length with h | h
      · have := hln n (hall n h); omega
      · omega
    exact tail_any n hord htail 0 n listed a w (Nat.le_refl _) (by omega) hsz (fun k hk => ⟨fun _ => by omega, fun _ => hall k hk⟩) (hend γ a w (by rw [set_all (fun k hk => hall k (by omega)) hln] at hI; exact hI) ha fun k hk => hl k (hall k (by omega)))
  | succ fuel ih =>
    intro listed γ a w hsz hln hI ha hlate hl hc hclosed
    by_cases hall : ∀ k, k < n → listed.getD k false = true
    · have hiff : ∀ k, k < l.length → (listed.getD k false = true ↔ k < n) := fun k hk => ⟨hln k, hall k⟩
      have hf : fuel + 1 = l.length - n := by
        rw [← hc, ← hsz, ← Array.length_toList]
        refine hcnt0 listed.toList n (fun k hk => ?_) (by simpa [hsz] using hn)
        have hk' : k < listed.size := by simpa using hk
        have := hiff k (by omega)
        simp [hk'] at this ⊢; exact this
      exact tail_any n hord htail (fuel + 1) n listed a w (Nat.le_refl _) (by omega) hsz hiff (hend γ a w (by rw [set_all hall hln] at hI; exact hI) ha fun k hk => hl k (hall k hk))
    obtain ⟨k0, hk0n, hk0⟩ : ∃ k, k < n ∧ listed.getD k false = false := by
      refine Classical.byContradiction fun hno => hall fun k hk => ?_
      rcases hx : listed.getD k false with _ | _
      · exact (hno ⟨k, hk, hx⟩).elim
      · rfl
    refine ⟨fun hr => ?_, fun i hi => ?_⟩
    · exfalso
      have key : ∀ k, k < n → listed.getD k false = true := by
        intro k
        induction k using Nat.strongRecOn with
        | ind k ihk =>
          intro hk
          rcases hx : listed.getD k false with _ | _
          · exfalso
            have hk' : k < listed.size := by omega
            have : k ∈ Region.ready .any l.toArray listed := by
              refine mem_ready.2 ⟨?_, l[k], by simp [show k < l.length by omega], fun e he hb => ?_⟩
              · simp [hk'] at hx ⊢; exact hx
              · have hlt := hord k l[k] (List.getElem?_eq_getElem (by omega)) e he hb
                exact ihk e.on hlt (by omega)
            rw [hr] at this; cases this
          · rfl
      exact hall key
    obtain ⟨h0, o, ho, hafter⟩ := mem_ready.1 hi
    have ho' : l[i]? = some o := by simpa using ho
    have hil : i < l.length := by
      rcases Nat.lt_or_ge i l.length with h | h
      · exact h
      · simp [h] at ho
    have hin : i < n := by
      rcases Nat.lt_or_ge i n with h | h
      · exact h
      · exfalso
        have := htail i o h ho' _ hclosed hafter k0 (by omega)
        rw [hk0] at this; cases this
    have hot : (l.take n)[i]? = some o := by rw [List.getElem?_take, if_pos hin]; exact ho'
    have hstep := gsteps_at (l.take n) 0 i o hs hot
    rw [Nat.zero_add] at hstep
    have hfacts : SFacts (l.take n) (fun k v w => Φ k v γ w) a w (sdeps o) := sfacts_of _ fun k hk => by
      unfold sdeps at hk
      rw [List.mem_eraseDups] at hk
      obtain ⟨e, he, rfl⟩ := List.mem_map.1 hk
      rw [List.mem_filter] at he
      exact hl _ (hafter e (by simpa using he.1) (by simpa using he.2))
    have next : ∀ v γ' w', I (fun k => if k = i then true else listed.getD k false) γ' w' → R γ w γ' w' → Φ i v γ' w' → wpAny P .any l.toArray Q fuel (listed.setIfInBounds i true) (a.put o.dst v) w' := by
      intro v γ' w' hI' hR' hΦ
      have hcnt : ∀ (m : List Bool) (i : Nat), m[i]? = some false → ((m.set i true).filter (· = false)).length + 1 = (m.filter (· = false)).length := by
        intro m
        induction m with
        | nil => intro i h; simp at h
        | cons b m ihm =>
          intro i h
          cases i with
          | zero => simp at h; subst h; simp
          | succ i =>
            have := ihm i (by simpa using h)
            rw [List.set_cons_succ, List.filter_cons, List.filter_cons]
            split <;> simp_all
      have hfuel : ((listed.setIfInBounds i true).toList.filter (· = false)).length = fuel := by
        have := hcnt listed.toList i (by
          have hk' : i < listed.size := by omega
          simp [hk'] at h0 ⊢; exact h0)
        rw [Array.toList_setIfInBounds]; omega
      refine ih (listed.setIfInBounds i true) γ' (a.put o.dst v) w' (by simpa using hsz) (fun k hk => ?_) (by
        have e : (fun k => (listed.setIfInBounds i true).getD k false) = fun k => if k = i then true else listed.getD k false := funext fun k => by
          by_cases hk : k = i
          · subst hk
            have hk' : k < listed.size := by omega
            simp [hk']
          · rw [if_neg hk, getD_set_ne false (Ne.symm hk)]
        rw [e]; exact hI') ?_ (fun k ok s hk hds hnl => ?_) (fun k hk => ?_) hfuel ?_
      · by_cases hki : k = i
        · omega
        · rw [getD_set_ne false (Ne.symm hki)] at hk; exact hln k hk
      · refine ⟨by rw [put_size]; exact ha.size, fun s hs => ?_, by rw [put_defs]; exact ha.defs⟩
        rw [put_other _ _ _ _ (fun d hd e => by subst e; exact hs (softDst_mem hot hd))]
        exact ha.same s hs
      · by_cases hki : k = i
        · exfalso
          rw [hki] at hnl
          have hk' : i < listed.size := by omega
          simp [hk'] at hnl
        · have hnl' : listed.getD k false = false := by rw [getD_set_ne false (Ne.symm hki)] at hnl; exact hnl
          rw [put_other _ _ _ _ (fun d' hd' => softDst_ne hd hot hk hd' hds (Ne.symm hki))]
          exact hlate k ok s hk hds hnl'
      · by_cases hki : k = i
        · subst hki
          cases hdd : o.dst with
          | none => simp only [SFact, hot, hdd]
          | some d =>
            simp only [SFact, hot, hdd]
            exact ⟨v, put_same _ _ _ (by rw [ha.size]; exact hlt d (softDst_mem hot hdd)), hΦ⟩
        · have hk' : listed.getD k false = true := by rw [getD_set_ne false (Ne.symm hki)] at hk; exact hk
          have hkf := hl k hk'
          cases hlk : (l.take n)[k]? with
          | none => simp only [SFact, hlk]
          | some ok =>
            cases hdk : ok.dst with
            | none => simp only [SFact, hlk, hdk]
            | some d =>
              simp only [SFact, hlk, hdk] at hkf ⊢
              obtain ⟨u, hu, hΦu⟩ := hkf
              exact ⟨u, by rw [put_other _ _ _ _ (fun d' hd' => softDst_ne hd hot hlk hd' hdk (Ne.symm hki))]; exact hu, hR _ _ _ _ _ _ hR' hΦu⟩
      · intro k ok hk hD e he hb
        have hie : i ≠ e.on → listed.getD e.on false = true → (listed.setIfInBounds i true).getD e.on false = true := fun hei h1 => by rw [getD_set_ne false hei]; exact h1
        have hno : i = e.on → listed.getD e.on false = true → False := fun hei h1 => by
          rw [hei] at h0
          rcases Nat.lt_or_ge e.on listed.size with h' | h'
          · simp [h'] at h0 h1; rw [h0] at h1; cases h1
          · simp [Array.getElem?_eq_none h'] at h1
        have h1 : listed.getD e.on false = true := by
          by_cases hki : k = i
          · rw [hki, ho'] at hk
            have e1 := Option.some.inj hk
            subst e1
            exact hafter e he hb
          · have hD' : (listed.setIfInBounds i true).getD k false = true := hD
            rw [getD_set_ne false (Ne.symm hki)] at hD'
            exact hclosed k ok hk hD' e he hb
        exact hie (fun hei => hno hei h1) h1
    have hni0 : listed.getD i false = false := by
      rcases hx : listed.getD i false with _ | _
      · rfl
      · exfalso
        rcases Nat.lt_or_ge i listed.size with h' | h'
        · simp [h'] at h0 hx; rw [h0] at hx; cases hx
        · omega
    have hdeps : ∀ k ∈ sdeps o, listed.getD k false = true := fun k hk => by
      obtain ⟨e, he, hb, rfl⟩ := mem_sdeps hk
      exact hafter e he hb
    have hcl0 : ∀ k o', (l.take n)[k]? = some o' → listed.getD k false = true → ∀ d ∈ sdeps o', listed.getD d false = true := fun k o' hk hD d hd => by
      obtain ⟨e, he, hb, rfl⟩ := mem_sdeps hd
      refine hclosed k o' ?_ hD e he hb
      rw [List.getElem?_take] at hk
      split at hk
      · exact hk
      · cases hk
    have := hstep (fun k => listed.getD k false) γ a w hI hni0 hdeps hcl0 ha (fun k o' s hk hds hp => hlate k o' s hk hds (by
      rcases hx : listed.getD k false with _ | _
      · rfl
      · exfalso
        have hcl' : Closed (l.take n) (fun k => listed.getD k false = true) := fun k o hk hD e he hb => hclosed k o (by
          rw [List.getElem?_take] at hk
          split at hk
          · exact hk
          · cases hk) hD e he hb
        have h1 : listed.getD i false = true := pair_at hp hcl' (fun o ho e he hb => hcl' k o ho hx e he hb)
        rcases Nat.lt_or_ge i listed.size with h' | h'
        · simp [h'] at h0 h1; rw [h0] at h1; cases h1
        · omega)) hfacts _ next
    unfold wpOp
    rw [ho]
    simp only [wpList] at this ⊢
    rw [hguard i o hin ho' a]
    split
    · rename_i hw
      rw [if_pos hw] at this
      rcases this with h | ⟨h1, a', w', h2⟩
      · exact .inl (wp_then h)
      · exact .inr ⟨h1, a', w', h2⟩
    · rename_i hw
      rw [if_neg hw] at this
      exact this
def StableG {Γ : Type} (R : Γ → World → Γ → World → Prop) : Type := { p : Value → Γ → World → Prop // ∀ v γ w γ' w', R γ w γ' w' → p v γ w → p v γ' w' }
def gV {Γ : Type} {R : Γ → World → Γ → World → Prop} (c : Value) : StableG R := ⟨fun v _ _ => v = c, fun _ _ _ _ _ _ h => h⟩
def gphi {Γ : Type} {R : Γ → World → Γ → World → Prop} (specs : List (StableG R)) (k : Nat) (v : Value) (γ : Γ) (w : World) : Prop :=
  match specs[k]? with
  | some p => p.1 v γ w
  | none => True
theorem wp_region_set {Γ : Type} {id : Nat} {l : List Oper} {a0 : Act} {w0 : World} (n : Nat) (I : (Nat → Bool) → Γ → World → Prop) (R : Γ → World → Γ → World → Prop) (specs : List (StableG R)) (γ0 : Γ)
    (hm : P.follows .mixedOrders = true) (hok : softTailOk a0.tmps.size n l = true) (h0 : I (fun _ => false) γ0 w0.drew)
    (hs : GSteps P Q (l.take n) I R (gphi specs) a0 0 (l.take n))
    (hend : ∀ (vs : Nat → Value) γ w, I (fun k => decide (k < n)) γ w → (∀ k o d, (l.take n)[k]? = some o → o.dst = some d → gphi specs k (vs k) γ w) → wpList P l.toArray Q (l.drop n) (putAll vs 0 (l.take n) a0) w) : (Code.region id l.toArray true).wp P Q a0 w0 := by
  refine wp_region_any hm ?_
  simp only [softTailOk, Bool.and_eq_true, decide_eq_true_eq, List.all_eq_true] at hok
  obtain ⟨⟨⟨⟨⟨h0', h1⟩, h2⟩, h3⟩, h4⟩, h5⟩ := hok
  refine (settail_any (I := I) (R := R) (Φ := gphi specs) (a0 := a0) n h0' h1 h2 (fun k v γ w γ' w' hr h => ?_) hs (fun k o hk e he hb => by have := softOrd_at l 0 k o h3 hk e he hb; omega) (fun j o hj ho D hD hd i hi => ?_) (fun k o hk ho a => guard_of h5 k o hk ho a) (fun γ a w hI ha hf => ?_) _ _ γ0 _ _ (by simp) (fun k hk => ?_) ?_ ⟨rfl, fun _ _ => rfl, rfl⟩ (fun _ _ _ _ _ _ => rfl) (fun k hk => ?_) (by simp) (fun k o hk hD => by simp [Array.getD] at hD))
  · unfold gphi at *
    split
    · rename_i p hp
      rw [hp] at h
      exact p.2 v γ w γ' w' hr h
    · trivial
  · exact tailOrd_at (l.drop n) n (j - n) o h4 (by rw [List.getElem?_drop, show n + (j - n) = j by omega]; exact ho) D hD hd i (by omega)
  · obtain ⟨vs, rfl, hvs⟩ := frame_is h1 h2 ha (fun k hk => hf k (by rw [List.length_take] at hk; omega))
    exact hend vs γ w hI hvs
  · simp [Array.getD] at hk
  · have e : (fun k => (Array.replicate l.toArray.size false).getD k false) = fun _ => false := funext fun k => by simp [Array.getD]
    rw [e]; exact h0
  · simp [Array.getD] at hk
end
end Go.Lw
