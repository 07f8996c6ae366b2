/- Of the proof of TopBooks: SoftTail. -/
import Derived.Test.YtgegjjnfcnalfaaGreatDoorG02
namespace Go.Lw
open Go Go.RowKit
section
variable {P : Program} {Q : Exit → Act → World → Prop}
def Closed (l : List Oper) (D : Nat → Prop) : Prop := ∀ k o, l[k]? = some o → D k → ∀ e ∈ o.after, Region.binds .any e = true → D e.on
def sdepsAt (l : List Oper) (k : Nat) : List Nat := match l[k]? with
  | some o => sdeps o
  | none => []
def closeF (l : List Oper) : Nat → List Nat → List Nat
  | 0, s => s
  | f + 1, s => closeF l f (s ++ s.flatMap (sdepsAt l)).eraseDups
theorem mem_sdeps {o : Oper} {k : Nat} (h : k ∈ sdeps o) : ∃ e ∈ o.after, Region.binds .any e = true ∧ e.on = k := by
  unfold sdeps at h
  rw [List.mem_eraseDups] at h
  obtain ⟨e, he, rfl⟩ := List.mem_map.1 h
  rw [List.mem_filter] at he
  exact ⟨e, by simpa using he.1, by simpa using he.2, rfl⟩
theorem closeF_in {l : List Oper} {D : Nat → Prop} (hD : Closed l D) : ∀ (f : Nat) (s : List Nat), (∀ k ∈ s, D k) → ∀ k ∈ closeF l f s, D k
  | 0, _, h => h
  | f + 1, s, h => closeF_in hD f _ fun k hk => by
    rw [List.mem_eraseDups, List.mem_append] at hk
    rcases hk with hk | hk
    · exact h k hk
    · obtain ⟨j, hj, hk⟩ := List.mem_flatMap.1 hk
      unfold sdepsAt at hk
      split at hk
      · rename_i o ho
        obtain ⟨e, he, hb, rfl⟩ := mem_sdeps hk
        exact hD j o ho (h j hj) e he hb
      · cases hk
def tailOrd (l : List Oper) : Nat → List Oper → Bool
  | _, [] => true
  | k, o :: rest => ((List.range k).all fun i => (closeF l 6 (sdeps o)).contains i) && tailOrd l (k + 1) rest
theorem tailOrd_at {l : List Oper} : ∀ (m : List Oper) (k j : Nat) (o : Oper), tailOrd l k m = true → m[j]? = some o → ∀ D : Nat → Prop, Closed l D → (∀ e ∈ o.after, Region.binds .any e = true → D e.on) → ∀ i, i < k + j → D i
  | [], _, _, _, _, h => by simp at h
  | o' :: m, k, 0, o, hs, h => by
    simp at h; subst h
    intro D hD hd i hi
    simp only [tailOrd, Bool.and_eq_true, List.all_eq_true] at hs
    have := hs.1 i (List.mem_range.2 hi)
    refine closeF_in hD 6 (sdeps o') (fun k hk => ?_) i (by simpa using this)
    obtain ⟨e, he, hb, rfl⟩ := mem_sdeps hk
    exact hd e he hb
  | o' :: m, k, j + 1, o, hs, h => by
    simp only [tailOrd, Bool.and_eq_true] at hs
    have := tailOrd_at m (k + 1) j o hs.2 (by simpa using h)
    rw [show k + (j + 1) = k + 1 + j by omega]; exact this
theorem tail_any {l : List Oper} (n : Nat) (hord : ∀ k o, l[k]? = some o → ∀ e ∈ o.after, Region.binds .any e = true → e.on < k)
    (htail : ∀ j o, n ≤ j → l[j]? = some o → ∀ D : Nat → Prop, Closed l D → (∀ e ∈ o.after, Region.binds .any e = true → D e.on) → ∀ i, i < j → D i) :
    ∀ (fuel m : Nat) (listed : Array Bool) (a : Act) (w : World), n ≤ m → m + fuel = l.length → listed.size = l.length → (∀ k, k < l.length → (listed.getD k false = true ↔ k < m)) →
      wpList P l.toArray Q (l.drop m) a w → wpAny P .any l.toArray Q fuel listed a w := by
  intro fuel
  induction fuel with
  | zero =>
    intro m listed a w hnm hm hsz hl h
    rw [List.drop_eq_nil_of_le (by omega)] at h
    refine ⟨?_, h⟩
    rcases hr : Region.ready .any l.toArray listed with _ | ⟨i, rs⟩
    · rfl
    · exfalso
      have hi : i ∈ Region.ready .any l.toArray listed := by rw [hr]; exact List.mem_cons_self ..
      obtain ⟨h0, o, ho, _⟩ := mem_ready.1 hi
      have hil : i < l.length := by
        rcases Nat.lt_or_ge i l.length with h | h
        · exact h
        · simp [h] at ho
      have := (hl i hil).2 (by omega)
      have hk' : i < listed.size := by omega
      simp [hk'] at h0 this
      rw [h0] at this; cases this
  | succ fuel ih =>
    intro m listed a w hnm hm hsz hl h
    have hml : m < l.length := by omega
    have hdrop : l.drop m = l[m] :: l.drop (m + 1) := List.drop_eq_getElem_cons hml
    rw [hdrop] at h
    have hready : ∀ i, i ∈ Region.ready .any l.toArray listed ↔ i = m := by
      intro i
      constructor
      · intro hi
        obtain ⟨h0, o, ho, hafter⟩ := mem_ready.1 hi
        have hil : i < l.length := by
          rcases Nat.lt_or_ge i l.length with h | h
          · exact h
          · simp [h] at ho
        have hk' : i < listed.size := by omega
        have hnl : ¬ i < m := fun hlt => by
          have := (hl i hil).2 hlt
          simp [hk'] at h0 this
          rw [h0] at this; cases this
        rcases Nat.lt_or_ge m i with hgt | hle
        · exfalso
          have hcl : Closed l (fun k => listed.getD k false = true) := fun k o hk hD e he hb => by
            have hkl : k < l.length := by
              rcases Nat.lt_or_ge k l.length with h | h
              · exact h
              · rw [List.getElem?_eq_none h] at hk; cases hk
            have h1 := (hl k hkl).1 hD
            have h2 := hord k o hk e he hb
            exact (hl e.on (by omega)).2 (by omega)
          have := htail i o (by omega) (by simpa using ho) _ hcl hafter m hgt
          have := (hl m hml).1 this
          omega
        · omega
      · rintro rfl
        refine mem_ready.2 ⟨?_, l[i], by simp [hml], fun e he hb => ?_⟩
        · have hk' : i < listed.size := by omega
          rcases hx : listed.getD i false with _ | _
          · simp [hk'] at hx ⊢; exact hx
          · have := (hl i hml).1 hx; omega
        · have := hord i l[i] (List.getElem?_eq_getElem hml) e he hb
          exact (hl e.on (by omega)).2 this
    refine ⟨fun hr => ?_, fun i hi => ?_⟩
    · have := (hready m).2 rfl
      rw [hr] at this; cases this
    · obtain rfl := (hready i).1 hi
      have next : ∀ a' w', wpList P l.toArray Q (l.drop (i + 1)) a' w' → wpAny P .any l.toArray Q fuel (listed.setIfInBounds i true) a' w' := fun a' w' h' =>
        ih (i + 1) _ a' w' (by omega) (by omega) (by simpa using hsz) (fun k hk => by
          by_cases hki : k = i
          · subst hki
            have hk' : k < listed.size := by omega
            simp [hk']
          · rw [getD_set_ne false (Ne.symm hki), hl k hk]; omega) h'
      unfold wpOp
      have hoi : l.toArray[i]? = some l[i] := by simp [hml]
      rw [hoi]
      simp only [wpList] at h ⊢
      split
      · rename_i hw
        rw [if_pos hw] at h
        rcases h with h | h
        · exact .inl (Oper.wp_mono next h)
        · exact .inr h
      · rename_i hw
        rw [if_neg hw] at h
        exact next _ _ h
theorem softtail_any {l : List Oper} {I : World → Prop} {R : World → World → Prop} {Φ : Nat → Value → World → Prop} {a0 : Act} (n : Nat) (hn : n ≤ l.length)
    (hd : (softDst (l.take n)).Nodup) (hlt : ∀ d ∈ softDst (l.take n), d < a0.tmps.size) (hR : ∀ k v w w', R w w' → Φ k v w → Φ k v w') (hs : SSteps P Q (l.take n) I R Φ a0 0 (l.take n))
    (hord : ∀ k o, l[k]? = some o → ∀ e ∈ o.after, Region.binds .any e = true → e.on < k)
    (htail : ∀ j o, n ≤ j → l[j]? = some o → ∀ D : Nat → Prop, Closed l D → (∀ e ∈ o.after, Region.binds .any e = true → D e.on) → ∀ i, i < j → D i)
    (hguard : ∀ k o, k < n → l[k]? = some o → ∀ a : Act, Region.wanted o (yielded l.toArray a.tmps) = Region.wanted o (yielded (l.take n).toArray a.tmps))
    (hend : ∀ a w, I w → SAgree (l.take n) a0 a → (∀ k, k < n → SFact (l.take n) Φ k a w) → wpList P l.toArray Q (l.drop n) a w) :
    ∀ (fuel : Nat) (listed : Array Bool) (a : Act) (w : World), listed.size = l.length → (∀ k, listed.getD k false = true → k < n) → I w → SAgree (l.take n) a0 a → (∀ k, listed.getD k false = true → SFact (l.take n) Φ k a w) →
      ((listed.toList.filter (· = false)).length = fuel) → Closed l (fun k => listed.getD k false = true) → wpAny P .any l.toArray Q fuel listed a w := by
  intro fuel
  have hcnt0 : ∀ (m : List Bool) (p : Nat), (∀ k, k < m.length → (m[k]? = some true ↔ k < p)) → p ≤ m.length → (m.filter (· = false)).length = m.length - p := by
    intro m
    induction m with
    | nil => intro p _ hp; simp at hp ⊢
    | cons b m ihm =>
      intro p hp hple
      have h0 := hp 0 (by simp)
      cases p with
      | zero =>
        have hb : b = false := by
          rcases b with _ | _
          · rfl
          · simp at h0
        have := ihm 0 (fun k hk => by have := hp (k + 1) (by simpa using hk); simpa using this) (Nat.zero_le _)
        rw [hb, List.filter_cons, if_pos (by simp), List.length_cons, this]; simp
      | succ p =>
        have hb : b = true := by simpa using h0.2 (by omega)
        have := ihm p (fun k hk => by have := hp (k + 1) (by simpa using hk); simpa using this) (by simpa using hple)
        rw [hb, List.filter_cons, if_neg (by simp), List.length_cons, this]; omega
  induction fuel with
  | zero =>
    intro listed a w hsz hln hI ha hl hc hclosed
    have hall : ∀ k, k < l.length → listed.getD k false = true := fun k hk => by
      rcases hx : listed.getD k false with _ | _
      · exfalso
        have hmem : false ∈ listed.toList.filter (· = false) := by
          rw [List.mem_filter]
          refine ⟨?_, by simp⟩
          have hk' : k < listed.size := by omega
          have : listed[k]? = some false := by
            rw [Array.getElem?_eq_getElem hk']
            simp only [Array.getD, hk', dif_pos] at hx
            simpa using hx
          exact Array.mem_toList_iff.2 (Array.mem_of_getElem? this)
        rw [List.eq_nil_of_length_eq_zero hc] at hmem
        cases hmem
      · rfl
    have hnl : n = l.length := by
      rcases Nat.lt_or_ge n l.length with h | h
      · have := hln n (hall n h); omega
      · omega
    exact tail_any n hord htail 0 n listed a w (Nat.le_refl _) (by omega) hsz (fun k hk => ⟨fun _ => by omega, fun _ => hall k hk⟩) (hend a w hI ha fun k hk => hl k (hall k (by omega)))
  | succ fuel ih =>
    intro listed a w hsz hln hI ha hl hc hclosed
    by_cases hall : ∀ k, k < n → listed.getD k false = true
    · have hiff : ∀ k, k < l.length → (listed.getD k false = true ↔ k < n) := fun k hk => ⟨hln k, hall k⟩
      have hf : fuel + 1 = l.length - n := by
        rw [← hc, ← hsz, ← Array.length_toList]
        refine hcnt0 listed.toList n (fun k hk => ?_) (by simpa [hsz] using hn)
        have hk' : k < listed.size := by simpa using hk
        have := hiff k (by omega)
        simp [hk'] at this ⊢; exact this
      exact tail_any n hord htail (fuel + 1) n listed a w (Nat.le_refl _) (by omega) hsz hiff (hend a w hI ha fun k hk => hl k (hall k hk))
    obtain ⟨k0, hk0n, hk0⟩ : ∃ k, k < n ∧ listed.getD k false = false := by
      refine Classical.byContradiction fun hno => hall fun k hk => ?_
      rcases hx : listed.getD k false with _ | _
      · exact (hno ⟨k, hk, hx⟩).elim
      · rfl
    refine ⟨fun hr => ?_, fun i hi => ?_⟩
    · exfalso
      have key : ∀ k, k < n → listed.getD k false = true := by
        intro k
        induction k using Nat.strongRecOn with
        | ind k ihk =>
          intro hk
          rcases hx : listed.getD k false with _ | _
          · exfalso
            have hk' : k < listed.size := by omega
            have : k ∈ Region.ready .any l.toArray listed := by
              refine mem_ready.2 ⟨?_, l[k], by simp [show k < l.length by omega], fun e he hb => ?_⟩
              · simp [hk'] at hx ⊢; exact hx
              · have hlt := hord k l[k] (List.getElem?_eq_getElem (by omega)) e he hb
                exact ihk e.on hlt (by omega)
            rw [hr] at this; cases this
          · rfl
      exact hall key
    obtain ⟨h0, o, ho, hafter⟩ := mem_ready.1 hi
    have ho' : l[i]? = some o := by simpa using ho
    have hil : i < l.length := by
      rcases Nat.lt_or_ge i l.length with h | h
      · exact h
      · simp [h] at ho
    have hin : i < n := by
      rcases Nat.lt_or_ge i n with h | h
      · exact h
      · exfalso
        have := htail i o h ho' _ hclosed hafter k0 (by omega)
        rw [hk0] at this; cases this
    have hot : (l.take n)[i]? = some o := by rw [List.getElem?_take, if_pos hin]; exact ho'
    have hstep := ssteps_at (l.take n) 0 i o hs hot
    rw [Nat.zero_add] at hstep
    have hfacts : SFacts (l.take n) Φ a w (sdeps o) := sfacts_of _ fun k hk => by
      unfold sdeps at hk
      rw [List.mem_eraseDups] at hk
      obtain ⟨e, he, rfl⟩ := List.mem_map.1 hk
      rw [List.mem_filter] at he
      exact hl _ (hafter e (by simpa using he.1) (by simpa using he.2))
    have next : ∀ v w', I w' → R w w' → Φ i v w' → wpAny P .any l.toArray Q fuel (listed.setIfInBounds i true) (a.put o.dst v) w' := by
      intro v w' hI' hR' hΦ
      have hcnt : ∀ (m : List Bool) (i : Nat), m[i]? = some false → ((m.set i true).filter (· = false)).length + 1 = (m.filter (· = false)).length := by
        intro m
        induction m with
        | nil => intro i h; simp at h
        | cons b m ihm =>
          intro i h
          cases i with
          | zero => simp at h; subst h; simp
          | succ i =>
            have := ihm i (by simpa using h)
            rw [List.set_cons_succ, List.filter_cons, List.filter_cons]
            split <;> simp_all
      have hfuel : ((listed.setIfInBounds i true).toList.filter (· = false)).length = fuel := by
        have := hcnt listed.toList i (by
          have hk' : i < listed.size := by omega
          simp [hk'] at h0 ⊢; exact h0)
        rw [Array.toList_setIfInBounds]; omega
      refine ih (listed.setIfInBounds i true) (a.put o.dst v) w' (by simpa using hsz) (fun k hk => ?_) hI' ?_ (fun k hk => ?_) hfuel ?_
      · by_cases hki : k = i
        · omega
        · rw [getD_set_ne false (Ne.symm hki)] at hk; exact hln k hk
      · refine ⟨by rw [put_size]; exact ha.size, fun s hs => ?_, by rw [put_defs]; exact ha.defs⟩
        rw [put_other _ _ _ _ (fun d hd e => by subst e; exact hs (softDst_mem hot hd))]
        exact ha.same s hs
      · by_cases hki : k = i
        · subst hki
          cases hdd : o.dst with
          | none => simp only [SFact, hot, hdd]
          | some d =>
            simp only [SFact, hot, hdd]
            exact ⟨v, put_same _ _ _ (by rw [ha.size]; exact hlt d (softDst_mem hot hdd)), hΦ⟩
        · have hk' : listed.getD k false = true := by rw [getD_set_ne false (Ne.symm hki)] at hk; exact hk
          have hkf := hl k hk'
          cases hlk : (l.take n)[k]? with
          | none => simp only [SFact, hlk]
          | some ok =>
            cases hdk : ok.dst with
            | none => simp only [SFact, hlk, hdk]
            | some d =>
              simp only [SFact, hlk, hdk] at hkf ⊢
              obtain ⟨u, hu, hΦu⟩ := hkf
              exact ⟨u, by rw [put_other _ _ _ _ (fun d' hd' => softDst_ne hd hot hlk hd' hdk (Ne.symm hki))]; exact hu, hR _ _ _ _ hR' hΦu⟩
      · intro k ok hk hD e he hb
        have hie : i ≠ e.on → listed.getD e.on false = true → (listed.setIfInBounds i true).getD e.on false = true := fun hei h1 => by rw [getD_set_ne false hei]; exact h1
        have hno : i = e.on → listed.getD e.on false = true → False := fun hei h1 => by
          rw [hei] at h0
          rcases Nat.lt_or_ge e.on listed.size with h' | h'
          · simp [h'] at h0 h1; rw [h0] at h1; cases h1
          · simp [Array.getElem?_eq_none h'] at h1
        have h1 : listed.getD e.on false = true := by
          by_cases hki : k = i
          · rw [hki, ho'] at hk
            have e1 := Option.some.inj hk
            subst e1
            exact hafter e he hb
          · have hD' : (listed.setIfInBounds i true).getD k false = true := hD
            rw [getD_set_ne false (Ne.symm hki)] at hD'
            exact hclosed k ok hk hD' e he hb
        exact hie (fun hei => hno hei h1) h1
    have := hstep a w hI ha hfacts _ next
    unfold wpOp
    rw [ho]
    simp only [wpList] at this ⊢
    rw [hguard i o hin ho' a]
    split
    · rename_i hw
      rw [if_pos hw] at this
      rcases this with h | ⟨h1, a', w', h2⟩
      · exact .inl (wp_then h)
      · exact .inr ⟨h1, a', w', h2⟩
    · rename_i hw
      rw [if_neg hw] at this
      exact this
def guardB (n : Nat) : List Oper → Bool
  | l => (l.take n).all fun o => match o.guard with
    | none => true
    | some (j, _) => decide (j < n)
theorem guard_of {n : Nat} {l : List Oper} (h : guardB n l = true) (k : Nat) (o : Oper) (hk : k < n) (ho : l[k]? = some o) (a : Act) : Region.wanted o (yielded l.toArray a.tmps) = Region.wanted o (yielded (l.take n).toArray a.tmps) := by
  have hm : o ∈ l.take n := List.mem_of_getElem? (by rw [List.getElem?_take, if_pos hk]; exact ho)
  have := List.all_eq_true.1 h o hm
  unfold Region.wanted
  cases hg : o.guard with
  | none => rfl
  | some p =>
    obtain ⟨j, b⟩ := p
    rw [hg] at this
    simp only [decide_eq_true_eq] at this
    simp only [yielded]
    have : l.toArray[j]? = (l.take n).toArray[j]? := by simp [this]
    rw [this]
def putAll (vs : Nat → Value) : Nat → List Oper → Act → Act
  | _, [], a => a
  | k, o :: rest, a => putAll vs (k + 1) rest (a.put o.dst (vs k))
theorem pzz : (∀ (a : Oper) (l : List Oper) (n : Nat), (a :: l).take (n + 1) = a :: l.take n) ∧ (∀ l : List Oper, l.take 0 = []) ∧ (∀ (a : Oper) (l : List Oper) (n : Nat), (a :: l).drop (n + 1) = l.drop n) ∧ (∀ l : List Oper, l.drop 0 = l) ∧ (∀ (l : List Value) (i : Nat) (v : Value), l.toArray.setIfInBounds i v = (l.set i v).toArray) ∧ (∀ (a : Value) (l : List Value) (v : Value), (a :: l).set 0 v = v :: l) ∧ (∀ (a : Value) (l : List Value) (n : Nat) (v : Value), (a :: l).set (n + 1) v = a :: l.set n v) :=
  ⟨fun _ _ _ => rfl, fun _ => rfl, fun _ _ _ => rfl, fun _ => rfl, fun _ _ _ => List.setIfInBounds_toArray .., fun _ _ _ => rfl, fun _ _ _ _ => rfl⟩
theorem putAll_size (vs : Nat → Value) : ∀ (m : List Oper) (k : Nat) (a : Act), (putAll vs k m a).tmps.size = a.tmps.size
  | [], _, _ => rfl
  | o :: m, k, a => by unfold putAll; rw [putAll_size vs m, put_size]
theorem putAll_defs (vs : Nat → Value) : ∀ (m : List Oper) (k : Nat) (a : Act), (putAll vs k m a).defers = a.defers
  | [], _, _ => rfl
  | o :: m, k, a => by unfold putAll; rw [putAll_defs vs m, put_defs]
theorem putAll_other (vs : Nat → Value) : ∀ (m : List Oper) (k : Nat) (a : Act) (s : Nat), s ∉ softDst m → (putAll vs k m a).tmps[s]? = a.tmps[s]?
  | [], _, _, _, _ => rfl
  | o :: m, k, a, s, hs => by
    unfold putAll
    have h1 : s ∉ softDst m := fun h => hs (by
      obtain ⟨o', ho', hd'⟩ := List.mem_filterMap.1 h
      exact List.mem_filterMap.2 ⟨o', List.mem_cons_of_mem _ ho', hd'⟩)
    rw [putAll_other vs m (k + 1) _ s h1, put_other]
    intro d hd e
    subst e
    exact hs (List.mem_filterMap.2 ⟨o, List.mem_cons_self .., hd⟩)
theorem putAll_same (vs : Nat → Value) : ∀ (m : List Oper) (k : Nat) (a : Act) (_ : (softDst m).Nodup) (_ : ∀ d ∈ softDst m, d < a.tmps.size) (j : Nat) (o : Oper) (d : Nat), m[j]? = some o → o.dst = some d → (putAll vs k m a).tmps[d]? = some (vs (k + j))
  | [], _, _, _, _, _, _, _, h, _ => by simp at h
  | o' :: m, k, a, hn, hlt, j, o, d, hj, hd => by
    have htail : (softDst m).Nodup := by
      unfold softDst at hn ⊢
      cases hx : o'.dst with
      | none => rwa [List.filterMap_cons_none hx] at hn
      | some y => rw [List.filterMap_cons_some hx] at hn; exact (List.nodup_cons.1 hn).2
    cases j with
    | zero =>
      simp at hj; subst hj
      unfold putAll
      have hnot : d ∉ softDst m := by
        unfold softDst at hn
        rw [List.filterMap_cons_some hd] at hn
        exact (List.nodup_cons.1 hn).1
      rw [putAll_other vs m _ _ d hnot, hd, put_same _ _ _ (hlt d (List.mem_filterMap.2 ⟨o', List.mem_cons_self .., hd⟩))]
      rfl
    | succ j =>
      unfold putAll
      rw [putAll_same vs m (k + 1) _ htail (fun e he => by
        rw [put_size]
        obtain ⟨o2, ho2, hd2⟩ := List.mem_filterMap.1 he
        exact hlt e (List.mem_filterMap.2 ⟨o2, List.mem_cons_of_mem _ ho2, hd2⟩)) j o d (by simpa using hj) hd, show k + 1 + j = k + (j + 1) by omega]
theorem frame_is {l : List Oper} {Φ : Nat → Value → World → Prop} {a0 a : Act} {w : World} (hd : (softDst l).Nodup) (hlt : ∀ d ∈ softDst l, d < a0.tmps.size) (ha : SAgree l a0 a) (hf : ∀ k, k < l.length → SFact l Φ k a w) :
    ∃ vs, a = putAll vs 0 l a0 ∧ ∀ k o d, l[k]? = some o → o.dst = some d → Φ k (vs k) w := by
  refine ⟨fun k => ((l[k]?).bind (·.dst)).elim undef fun d => a.tmps.getD d undef, ?_, fun k o d hk hd' => ?_⟩
  · have ht : a.tmps = (putAll (fun k => ((l[k]?).bind (·.dst)).elim undef fun d => a.tmps.getD d undef) 0 l a0).tmps := by
      apply Array.ext_getElem?
      intro s
      by_cases hs : s ∈ softDst l
      · obtain ⟨o, ho, hod⟩ := List.mem_filterMap.1 hs
        obtain ⟨j, hj⟩ := List.mem_iff_getElem?.1 ho
        rw [putAll_same _ l 0 a0 hd hlt j o s hj hod]
        have hjl : j < l.length := by
          rcases Nat.lt_or_ge j l.length with h | h
          · exact h
          · rw [List.getElem?_eq_none h] at hj; cases hj
        have := hf j hjl
        simp only [SFact, hj, hod] at this
        obtain ⟨v, hv, _⟩ := this
        simp [hj, hod, hv]
      · rw [putAll_other _ l 0 a0 s hs]; exact ha.same s hs
    have hdf := putAll_defs (fun k => ((l[k]?).bind (·.dst)).elim undef fun d => a.tmps.getD d undef) l 0 a0
    have had := ha.defs
    generalize putAll (fun k => ((l[k]?).bind (·.dst)).elim undef fun d => a.tmps.getD d undef) 0 l a0 = b at *
    obtain ⟨x, y⟩ := a; obtain ⟨x', y'⟩ := b
    simp only at ht hdf had
    subst ht; subst hdf; subst had; rfl
  · have hkl : k < l.length := by
      rcases Nat.lt_or_ge k l.length with h | h
      · exact h
      · rw [List.getElem?_eq_none h] at hk; cases hk
    have := hf k hkl
    simp only [SFact, hk, hd'] at this
    obtain ⟨v, hv, hp⟩ := this
    simp [hk, hd', hv]
    exact hp
def softTailOk (m n : Nat) (l : List Oper) : Bool := decide (n ≤ l.length) && decide (softDst (l.take n)).Nodup && (softDst (l.take n)).all (fun d => decide (d < m)) && softOrd 0 l && tailOrd l n (l.drop n) && guardB n l
theorem wpAny_tail {l : List Oper} {a0 : Act} {w0 : World} (n : Nat) (specs : List Stable)
    (hok : softTailOk a0.tmps.size n l = true)
    (hs : SSteps P Q (l.take n) (Kept (fun _ => False) w0) (Kept (fun _ => False)) (sphi specs) a0 0 (l.take n))
    (hend : ∀ (vs : Nat → Value) w, Kept (fun _ => False) w0 w → (∀ k o d, (l.take n)[k]? = some o → o.dst = some d → sphi specs k (vs k) w) → wpList P l.toArray Q (l.drop n) (putAll vs 0 (l.take n) a0) w) : wpAny P .any l.toArray Q l.toArray.size (Array.replicate l.toArray.size false) a0 w0.drew := by
  simp only [softTailOk, Bool.and_eq_true, decide_eq_true_eq, List.all_eq_true] at hok
  obtain ⟨⟨⟨⟨⟨h0, h1⟩, h2⟩, h3⟩, h4⟩, h5⟩ := hok
  refine (softtail_any (I := Kept (fun _ => False) w0) (R := Kept (fun _ => False)) (Φ := sphi specs) (a0 := a0) n h0 h1 h2 (fun k v w w' hr h => ?_) hs (fun k o hk e he hb => by have := softOrd_at l 0 k o h3 hk e he hb; omega) (fun j o hj ho D hD hd i hi => ?_) (fun k o hk ho a => guard_of h5 k o hk ho a) (fun a w hI ha hf => ?_) _ _ _ _ (by simp) (fun k hk => ?_) ((Kept.refl _ _).drew) ⟨rfl, fun _ _ => rfl, rfl⟩ (fun k hk => ?_) (by simp) (fun k o hk hD => by simp [Array.getD] at hD))
  · unfold sphi at *
    split
    · rename_i p hp
      rw [hp] at h
      exact p.2 v w w' hr h
    · trivial
  · have := tailOrd_at (l.drop n) n (j - n) o h4 (by rw [List.getElem?_drop, show n + (j - n) = j by omega]; exact ho) D hD hd i (by omega)
    exact this
  · obtain ⟨vs, rfl, hvs⟩ := frame_is h1 h2 ha (fun k hk => hf k (by rw [List.length_take] at hk; omega))
    exact hend vs w hI hvs
  · simp [Array.getD] at hk
  · simp [Array.getD] at hk
theorem wp_region_tail {id : Nat} {l : List Oper} {a0 : Act} {w0 : World} (n : Nat) (specs : List Stable)
    (hm : P.follows .mixedOrders = true) (hok : softTailOk a0.tmps.size n l = true)
    (hs : SSteps P Q (l.take n) (Kept (fun _ => False) w0) (Kept (fun _ => False)) (sphi specs) a0 0 (l.take n))
    (hend : ∀ (vs : Nat → Value) w, Kept (fun _ => False) w0 w → (∀ k o d, (l.take n)[k]? = some o → o.dst = some d → sphi specs k (vs k) w) → wpList P l.toArray Q (l.drop n) (putAll vs 0 (l.take n) a0) w) : (Code.region id l.toArray true).wp P Q a0 w0 := by
  exact wp_region_any hm (wpAny_tail n specs hok hs hend)
end
end Go.Lw
