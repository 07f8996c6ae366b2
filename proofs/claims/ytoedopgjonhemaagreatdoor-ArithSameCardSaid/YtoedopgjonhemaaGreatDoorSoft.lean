/- A region that draws its order, walked once, each operation by itself: what each yields is said by a property that later operations keep. Over any program. -/
import Derived.Test.YtoedopgjonhemaaGreatDoorLib
namespace Go.Lw
open Go Go.RowKit
section
variable {P : Program} {Q : Exit → Act → World → Prop}
theorem wp_then {o : Oper} {a : Act} {w : World} {K K' : Act → World → Prop} (h : o.wp P a w K (Exit.then K' Q)) : o.wp P a w K Q := by
  unfold Oper.wp at *
  generalize (execOp a.eval o).run P w = r at *
  cases r with
  | ok n w' =>
    cases n <;> simp only [Oper.upon] at h ⊢ <;>
      first
        | exact h
        | exact Calls.mono h (fun e w'' he => by cases e <;> exact he)
  | halt x w' => cases x <;> simp only [Oper.upon] at h ⊢ <;> exact h
/-- The slots that the region's operations write. -/
def softDst (l : List Oper) : List Nat := l.filterMap (·.dst)
/-- What is known of an operation that has come up. -/
def SFact (l : List Oper) (Φ : Nat → Value → World → Prop) (k : Nat) (a : Act) (w : World) : Prop :=
  match l[k]? with
  | some o => match o.dst with
    | some d => ∃ v, a.tmps[d]? = some v ∧ Φ k v w
    | none => True
  | none => True
def SFacts (l : List Oper) (Φ : Nat → Value → World → Prop) (a : Act) (w : World) : List Nat → Prop
  | [] => True
  | k :: ks => SFact l Φ k a w ∧ SFacts l Φ a w ks
/-- Those that have come up ahead of an operation. -/
def sdeps (o : Oper) : List Nat := ((o.after.toList.filter fun e => Region.binds .any e).map (·.on)).eraseDups
/-- The frame but for the region's slots is as it was. -/
structure SAgree (l : List Oper) (a0 a : Act) : Prop where
  size : a.tmps.size = a0.tmps.size
  same : ∀ s, s ∉ softDst l → a.tmps[s]? = a0.tmps[s]?
  defs : a.defers = a0.defers
def SStep (P : Program) (Q : Exit → Act → World → Prop) (l : List Oper) (I : World → Prop) (R : World → World → Prop) (Φ : Nat → Value → World → Prop) (a0 : Act) (j : Nat) (o : Oper) : Prop :=
  ∀ a w, I w → SAgree l a0 a → SFacts l Φ a w (sdeps o) → ∀ K : Act → World → Prop, (∀ v w', I w' → R w w' → Φ j v w' → K (a.put o.dst v) w') → wpList P l.toArray (Exit.then K Q) [o] a w
def SSteps (P : Program) (Q : Exit → Act → World → Prop) (l : List Oper) (I : World → Prop) (R : World → World → Prop) (Φ : Nat → Value → World → Prop) (a0 : Act) : Nat → List Oper → Prop
  | _, [] => True
  | j, o :: rest => SStep P Q l I R Φ a0 j o ∧ SSteps P Q l I R Φ a0 (j + 1) rest
theorem ssteps_at {l : List Oper} {I : World → Prop} {R : World → World → Prop} {Φ : Nat → Value → World → Prop} {a0 : Act} : ∀ (m : List Oper) (k j : Nat) (o : Oper), SSteps P Q l I R Φ a0 k m → m[j]? = some o → SStep P Q l I R Φ a0 (k + j) o
  | [], _, _, _, _, h => by simp at h
  | o' :: m, k, 0, o, hs, h => by
    simp at h; subst h; exact hs.1
  | o' :: m, k, j + 1, o, hs, h => by
    have := ssteps_at m (k + 1) j o hs.2 (by simpa using h)
    rw [show k + (j + 1) = k + 1 + j by omega]; exact this
theorem sfacts_of {l : List Oper} {Φ : Nat → Value → World → Prop} {a : Act} {w : World} : ∀ ks : List Nat, (∀ k ∈ ks, SFact l Φ k a w) → SFacts l Φ a w ks
  | [], _ => trivial
  | k :: ks, h => ⟨h k (List.mem_cons_self ..), sfacts_of ks fun j hj => h j (List.mem_cons_of_mem _ hj)⟩
theorem softDst_mem {l : List Oper} {k : Nat} {o : Oper} {d : Nat} (hk : l[k]? = some o) (hd : o.dst = some d) : d ∈ softDst l :=
  List.mem_filterMap.2 ⟨o, List.mem_of_getElem? hk, hd⟩
theorem softDst_ne : ∀ {l : List Oper} (_ : (softDst l).Nodup) {j k : Nat} {oj ok : Oper} {d e : Nat}, l[j]? = some oj → l[k]? = some ok → oj.dst = some d → ok.dst = some e → j ≠ k → d ≠ e
  | [], _, _, _, _, _, _, _, h, _, _, _, _ => by simp at h
  | x :: l, hn, j, k, oj, ok, d, e, hj, hk, hd, he, hne => by
    have hcons : ∀ y, x.dst = some y → y ∉ softDst l := fun y hy => by
      unfold softDst at hn
      rw [List.filterMap_cons_some hy] at hn
      exact (List.nodup_cons.1 hn).1
    have htail : (softDst l).Nodup := by
      unfold softDst at hn ⊢
      cases hx : x.dst with
      | none => rwa [List.filterMap_cons_none hx] at hn
      | some y => rw [List.filterMap_cons_some hx] at hn; exact (List.nodup_cons.1 hn).2
    cases j with
    | zero =>
      cases k with
      | zero => exact absurd rfl hne
      | succ k =>
        simp at hj hk
        subst hj
        intro h; subst h
        exact hcons _ hd (softDst_mem hk he)
    | succ j =>
      cases k with
      | zero =>
        simp at hj hk
        subst hk
        intro h; subst h
        exact hcons _ he (softDst_mem hj hd)
      | succ k =>
        simp at hj hk
        exact softDst_ne htail hj hk hd he (by omega)
theorem put_same (a : Act) (d : Nat) (v : Value) (h : d < a.tmps.size) : (a.put (some d) v).tmps[d]? = some v := by
  simp [Act.put, h]
theorem put_other (a : Act) (dst : Option Nat) (s : Nat) (v : Value) (h : ∀ d, dst = some d → d ≠ s) : (a.put dst v).tmps[s]? = a.tmps[s]? := by
  cases dst with
  | none => rfl
  | some d => simp [Act.put, Array.getElem?_setIfInBounds_ne (h d rfl)]
theorem put_size (a : Act) (dst : Option Nat) (v : Value) : (a.put dst v).tmps.size = a.tmps.size := by
  cases dst <;> simp [Act.put]
theorem put_defs (a : Act) (dst : Option Nat) (v : Value) : (a.put dst v).defers = a.defers := by
  cases dst <;> rfl
theorem soft_any {l : List Oper} {I : World → Prop} {R : World → World → Prop} {Φ : Nat → Value → World → Prop} {a0 : Act}
    (hd : (softDst l).Nodup) (hlt : ∀ d ∈ softDst l, d < a0.tmps.size) (hR : ∀ k v w w', R w w' → Φ k v w → Φ k v w') (hs : SSteps P Q l I R Φ a0 0 l)
    (hend : ∀ a w, I w → SAgree l a0 a → (∀ k, k < l.length → SFact l Φ k a w) → Q .normal a w) :
    ∀ (fuel : Nat) (listed : Array Bool) (a : Act) (w : World), listed.size = l.length → (∀ k, k < l.length → listed.getD k true = false → fuel ≠ 0) → I w → SAgree l a0 a → (∀ k, listed.getD k false = true → SFact l Φ k a w) →
      ((listed.toList.filter (· = false)).length = fuel) → (∀ k o, l[k]? = some o → ∀ e ∈ o.after, Region.binds .any e = true → e.on < k) → wpAny P .any l.toArray Q fuel listed a w := by
  intro fuel
  have allListed : ∀ (listed : Array Bool), listed.size = l.length → (∀ k o, l[k]? = some o → ∀ e ∈ o.after, Region.binds .any e = true → e.on < k) → Region.ready .any l.toArray listed = [] → ∀ k, k < l.length → listed.getD k false = true := by
    intro listed hsz hord hr k
    induction k using Nat.strongRecOn with
    | ind k ih =>
      intro hk
      rcases hc : listed.getD k false with _ | _
      · exfalso
        have hk' : k < listed.size := by omega
        have : k ∈ Region.ready .any l.toArray listed := by
          refine mem_ready.2 ⟨?_, l[k], by simp [hk], fun e he hb => ?_⟩
          · simp [hk'] at hc ⊢; exact hc
          · have hlt := hord k l[k] (List.getElem?_eq_getElem hk) e he hb
            exact ih e.on hlt (by omega)
        rw [hr] at this; cases this
      · rfl
  induction fuel with
  | zero =>
    intro listed a w hsz hf hI ha hl hc hord
    have hall : ∀ k, k < l.length → listed.getD k false = true := fun k hk => by
      rcases hx : listed.getD k true with _ | _
      · exact absurd rfl (hf k hk hx)
      · have hk' : k < listed.size := by omega
        simp [hk'] at hx ⊢; exact hx
    refine ⟨?_, hend a w hI ha fun k hk => hl k (hall k hk)⟩
    rcases hr : Region.ready .any l.toArray listed with _ | ⟨i, rs⟩
    · rfl
    · exfalso
      have hi : i ∈ Region.ready .any l.toArray listed := by rw [hr]; exact List.mem_cons_self ..
      obtain ⟨h0, o, ho, _⟩ := mem_ready.1 hi
      have hil : i < l.length := by
        rcases Nat.lt_or_ge i l.length with h | h
        · exact h
        · simp [h] at ho
      exact hf i hil h0 rfl
  | succ fuel ih =>
    intro listed a w hsz hf hI ha hl hc hord
    refine ⟨fun hr => hend a w hI ha fun k hk => hl k (allListed listed hsz hord hr k hk), fun i hi => ?_⟩
    obtain ⟨h0, o, ho, hafter⟩ := mem_ready.1 hi
    have ho' : l[i]? = some o := by simpa using ho
    have hil : i < l.length := by
      rcases Nat.lt_or_ge i l.length with h | h
      · exact h
      · simp [h] at ho
    have hstep := ssteps_at l 0 i o hs ho'
    rw [Nat.zero_add] at hstep
    have hfacts : SFacts l Φ a w (sdeps o) := sfacts_of _ fun k hk => by
      unfold sdeps at hk
      rw [List.mem_eraseDups] at hk
      obtain ⟨e, he, rfl⟩ := List.mem_map.1 hk
      rw [List.mem_filter] at he
      exact hl _ (hafter e (by simpa using he.1) (by simpa using he.2))
    have next : ∀ v w', I w' → R w w' → Φ i v w' → wpAny P .any l.toArray Q fuel (listed.setIfInBounds i true) (a.put o.dst v) w' := by
      intro v w' hI' hR' hΦ
      have hcnt : ∀ (m : List Bool) (i : Nat), m[i]? = some false → ((m.set i true).filter (· = false)).length + 1 = (m.filter (· = false)).length := by
        intro m
        induction m with
        | nil => intro i h; simp at h
        | cons b m ihm =>
          intro i h
          cases i with
          | zero => simp at h; subst h; simp
          | succ i =>
            have := ihm i (by simpa using h)
            rw [List.set_cons_succ, List.filter_cons, List.filter_cons]
            split <;> simp_all
      have hfuel : ((listed.setIfInBounds i true).toList.filter (· = false)).length = fuel := by
        have := hcnt listed.toList i (by
          have hk' : i < listed.size := by omega
          simp [hk'] at h0 ⊢; exact h0)
        rw [Array.toList_setIfInBounds]; omega
      refine ih (listed.setIfInBounds i true) (a.put o.dst v) w' (by simpa using hsz) (fun k hk hx h0' => ?_) hI' ?_ (fun k hk => ?_) hfuel hord
      · rw [h0'] at hfuel
        have hmem : false ∈ (listed.setIfInBounds i true).toList.filter (· = false) := by
          rw [List.mem_filter]
          refine ⟨?_, by simp⟩
          have hk' : k < (listed.setIfInBounds i true).size := by simpa [hsz] using hk
          have : (listed.setIfInBounds i true)[k]? = some false := by
            rw [Array.getElem?_eq_getElem hk']
            simp only [Array.getD, hk', dif_pos] at hx
            simpa using hx
          exact Array.mem_toList_iff.2 (Array.mem_of_getElem? this)
        rw [List.eq_nil_of_length_eq_zero hfuel] at hmem
        cases hmem
      · refine ⟨by rw [put_size]; exact ha.size, fun s hs => ?_, by rw [put_defs]; exact ha.defs⟩
        rw [put_other _ _ _ _ (fun d hd e => by subst e; exact hs (softDst_mem ho' hd))]
        exact ha.same s hs
      · by_cases hki : k = i
        · subst hki
          cases hdd : o.dst with
          | none => simp only [SFact, ho', hdd]
          | some d =>
            simp only [SFact, ho', hdd]
            exact ⟨v, put_same _ _ _ (by rw [ha.size]; exact hlt d (softDst_mem ho' hdd)), hΦ⟩
        · have hk' : listed.getD k false = true := by rw [getD_set_ne false (Ne.symm hki)] at hk; exact hk
          have hkf := hl k hk'
          cases hlk : l[k]? with
          | none => simp only [SFact, hlk]
          | some ok =>
            cases hdk : ok.dst with
            | none => simp only [SFact, hlk, hdk]
            | some d =>
              simp only [SFact, hlk, hdk] at hkf ⊢
              obtain ⟨u, hu, hΦu⟩ := hkf
              exact ⟨u, by rw [put_other _ _ _ _ (fun d' hd' => softDst_ne hd ho' hlk hd' hdk (Ne.symm hki))]; exact hu, hR _ _ _ _ hR' hΦu⟩
    have := hstep a w hI ha hfacts _ next
    unfold wpOp
    rw [ho]
    simp only [wpList] at this ⊢
    split
    · rename_i hw
      rw [if_pos hw] at this
      rcases this with h | ⟨h1, a', w', h2⟩
      · exact .inl (wp_then h)
      · exact .inr ⟨h1, a', w', h2⟩
    · rename_i hw
      rw [if_neg hw] at this
      exact this
/-- Each operation comes behind those that it waits for, in the text. -/
def softOrd : Nat → List Oper → Bool
  | _, [] => true
  | k, o :: rest => (o.after.toList.all fun e => !Region.binds .any e || decide (e.on < k)) && softOrd (k + 1) rest
theorem softOrd_at : ∀ (m : List Oper) (k j : Nat) (o : Oper), softOrd k m = true → m[j]? = some o → ∀ e ∈ o.after, Region.binds .any e = true → e.on < k + j
  | [], _, _, _, _, h => by simp at h
  | o' :: m, k, 0, o, hs, h => by
    simp at h; subst h
    intro e he hb
    simp only [softOrd, Bool.and_eq_true, List.all_eq_true] at hs
    have := hs.1 e (by simpa using he)
    simpa [hb] using this
  | o' :: m, k, j + 1, o, hs, h => by
    simp only [softOrd, Bool.and_eq_true] at hs
    have := softOrd_at m (k + 1) j o hs.2 (by simpa using h)
    rw [show k + (j + 1) = k + 1 + j by omega]; exact this
def softOk (n : Nat) (l : List Oper) : Bool := decide (softDst l).Nodup && (softDst l).all (fun d => decide (d < n)) && softOrd 0 l
/-- THE LAW. -/
theorem wp_region_soft {id : Nat} {l : List Oper} {a0 : Act} {w0 : World} (I : World → Prop) (R : World → World → Prop) (Φ : Nat → Value → World → Prop)
    (hm : P.follows .mixedOrders = true) (hok : softOk a0.tmps.size l = true) (h0 : I w0.drew) (hR : ∀ k v w w', R w w' → Φ k v w → Φ k v w')
    (hs : SSteps P Q l I R Φ a0 0 l)
    (hend : ∀ a w, I w → SAgree l a0 a → (∀ k, k < l.length → SFact l Φ k a w) → Q .normal a w) : (Code.region id l.toArray true).wp P Q a0 w0 := by
  simp only [softOk, Bool.and_eq_true, decide_eq_true_eq, List.all_eq_true] at hok
  obtain ⟨⟨h1, h2⟩, h3⟩ := hok
  refine wp_region_any hm (soft_any h1 h2 hR hs hend _ _ _ _ (by simp) (fun k hk hx h => ?_) h0 ⟨rfl, fun _ _ => rfl, rfl⟩ (fun k hk => ?_) (by simp) (fun k o hk e he hb => by have := softOrd_at l 0 k o h3 hk e he hb; omega))
  · simp at h; subst h; simp at hk
  · simp [Array.getD] at hk
theorem ssteps_cons {l : List Oper} {I : World → Prop} {R : World → World → Prop} {Φ : Nat → Value → World → Prop} {a0 : Act} {j : Nat} {o : Oper} {rest : List Oper} (h : SStep P Q l I R Φ a0 j o) (k : SSteps P Q l I R Φ a0 (j + 1) rest) : SSteps P Q l I R Φ a0 j (o :: rest) := ⟨h, k⟩
/-- A property of a value that lasts while nothing that was there turns. -/
def Stable : Type := { p : Value → World → Prop // ∀ v w w', Kept (fun _ => False) w w' → p v w → p v w' }
def stV (c : Value) : Stable := ⟨fun v _ => v = c, fun _ _ _ _ h => h⟩
def stB (L : List UInt8) : Stable := ⟨fun v w => RdB w v L, fun _ _ _ hk h => h.kept hk (fun _ _ h => h)⟩
def sphi (specs : List Stable) (k : Nat) (v : Value) (w : World) : Prop :=
  match specs[k]? with
  | some p => p.1 v w
  | none => True
/-- THE LAW, for operations that turn nothing that was there. -/
theorem wp_region_kept {id : Nat} {l : List Oper} {a0 : Act} {w0 : World} (specs : List Stable)
    (hm : P.follows .mixedOrders = true) (hok : softOk a0.tmps.size l = true)
    (hs : SSteps P Q l (Kept (fun _ => False) w0) (Kept (fun _ => False)) (sphi specs) a0 0 l)
    (hend : ∀ a w, Kept (fun _ => False) w0 w → SAgree l a0 a → (∀ k, k < l.length → SFact l (sphi specs) k a w) → Q .normal a w) : (Code.region id l.toArray true).wp P Q a0 w0 := by
  refine wp_region_soft (Kept (fun _ => False) w0) (Kept (fun _ => False)) (sphi specs) hm hok ((Kept.refl _ _).drew) (fun k v w w' hr h => ?_) hs hend
  unfold sphi at *
  split
  · rename_i p hp
    rw [hp] at h
    exact p.2 v w w' hr h
  · trivial
end
end Go.Lw
