/- A region that draws its order, by what each operation leaves: whatever order is drawn. No program. -/
import Derived.Test.YtfemdpdnnifehaaPHx0
import Derived.OrdersHeld
import Derived.Laws.Rows
import Derived.Deep.MidRow
set_option linter.unusedVariables false
set_option linter.unusedSimpArgs false
namespace Go.Proofs.Ytfemdpdnnifehaa.PH

/-- Each binding edge of ops points back. -/
def backOp (i : Nat) (o : Oper) : Bool := o.after.all fun e => !Region.binds .any e || decide (e.on < i)
def backFrom (i : Nat) : List Oper → Bool
  | [] => true
  | o :: os => backOp i o && backFrom (i + 1) os
theorem backFrom_get : ∀ (os : List Oper) (k : Nat), backFrom k os = true → ∀ (j : Nat) (o : Oper), os[j]? = some o → backOp (k + j) o = true
  | [], _, _, _, _, h => by simp at h
  | p :: os, k, h, 0, o, ho => by
    simp only [backFrom, Bool.and_eq_true] at h
    simp at ho
    subst ho
    exact h.1
  | p :: os, k, h, j + 1, o, ho => by
    simp only [backFrom, Bool.and_eq_true] at h
    have := backFrom_get os (k + 1) h.2 j o (by simpa using ho)
    rwa [show k + 1 + j = k + (j + 1) by omega] at this

section
variable {P : Program} {ops : Array Oper} {Q : Exit → Act → World → Prop}

theorem unlisted_none {listed : Array Bool} (hback : backFrom 0 ops.toList = true) (hr : Region.ready .any ops listed = []) (hsz : listed.size = ops.size) :
    ∀ i, i < ops.size → listed.getD i false = true := by
  intro i
  induction i using Nat.strongRecOn with
  | _ i ih =>
    intro hi
    by_cases hL : listed.getD i false = true
    · exact hL
    · exfalso
      have hmem : i ∈ Region.ready .any ops listed := by
        rw [mem_ready]
        refine ⟨?_, ops[i], by simp [hi], fun e he hb => ?_⟩
        · have h2 : i < listed.size := by omega
          simp [Array.getD, h2] at hL ⊢
          exact hL
        · have hb0 := backFrom_get ops.toList 0 hback i ops[i] (by simp [hi])
          rw [Nat.zero_add] at hb0
          simp only [backOp, Array.all_eq_true_iff_forall_mem, Bool.or_eq_true, Bool.not_eq_true', decide_eq_true_eq] at hb0
          rcases hb0 e he with h | h
          · rw [hb] at h; cases h
          · exact ih e.on h (by omega)
      rw [hr] at hmem
      cases hmem

theorem getD_set {listed : Array Bool} {i j : Nat} (hi : i < listed.size) : (listed.setIfInBounds i true).getD j false = (j == i || listed.getD j false) := by
  by_cases h : j = i
  · subst h
    simp [Array.getD, hi]
  · have : (j == i) = false := by simpa using h
    rw [this, Bool.false_or]
    simp only [Array.getD_eq_getD_getElem?]
    rw [Array.getElem?_setIfInBounds_ne (Ne.symm h)]

/-- Whatever comes up keeps I: then whatever order is drawn, I holds of all behind it. -/
theorem wpAny_inv (I : (Nat → Bool) → Act → World → Prop) (hback : backFrom 0 ops.toList = true)
    (hstep : ∀ (L : Nat → Bool) a w i oi, ops[i]? = some oi → L i = false → (∀ e ∈ oi.after, Region.binds .any e = true → L e.on = true) → I L a w →
      wpOp P ops Q i (fun a' w' => I (fun j => j == i || L j) a' w') a w)
    (hend : ∀ L a w, (∀ i, i < ops.size → L i = true) → I L a w → Q .normal a w) :
    ∀ (fuel : Nat) (listed : Array Bool) (a : Act) (w : World), listed.size = ops.size → ((List.range ops.size).filter fun j => !listed.getD j false).length ≤ fuel →
      I (fun j => listed.getD j false) a w → wpAny P .any ops Q fuel listed a w := by
  intro fuel
  induction fuel with
  | zero =>
    intro listed a w hsz hf hI
    have hall : ∀ i, i < ops.size → listed.getD i false = true := fun i hi => by
      have h0 : ((List.range ops.size).filter fun j => !listed.getD j false) = [] := List.length_eq_zero_iff.1 (by omega)
      have h1 := List.filter_eq_nil_iff.1 h0 i (List.mem_range.2 hi)
      simpa using h1
    refine ⟨?_, hend _ a w hall hI⟩
    cases hr : Region.ready .any ops listed with
    | nil => rfl
    | cons x xs =>
      have hx : x ∈ Region.ready .any ops listed := by rw [hr]; simp
      obtain ⟨h1, o, ho, _⟩ := mem_ready.1 hx
      have hlt : x < ops.size := (Array.getElem?_eq_some_iff.1 ho).1
      have h2 := hall x hlt
      have h3 : x < listed.size := by omega
      simp [Array.getD, h3] at h1 h2
      rw [h1] at h2
      cases h2
  | succ fuel ih =>
    intro listed a w hsz hf hI
    refine ⟨fun hr => hend _ a w (unlisted_none hback hr hsz) hI, fun i hi => ?_⟩
    obtain ⟨h1, o, ho, hall⟩ := mem_ready.1 hi
    have hlt : i < ops.size := (Array.getElem?_eq_some_iff.1 ho).1
    have h3 : i < listed.size := by omega
    have hL : listed.getD i false = false := by
      simp [Array.getD, h3] at h1 ⊢
      exact h1
    refine wpOp_mono (fun a' w' h => ?_) (hstep _ a w i o ho hL hall hI)
    refine ih _ a' w' (by simp [hsz]) ?_ ?_
    · have hlen : ((List.range ops.size).filter fun j => !(listed.setIfInBounds i true).getD j false).length < ((List.range ops.size).filter fun j => !listed.getD j false).length := by
        have e : ((List.range ops.size).filter fun j => !(listed.setIfInBounds i true).getD j false) = ((List.range ops.size).filter fun j => !listed.getD j false).filter fun j => !(j == i) := by
          rw [List.filter_filter]
          congr 1
          funext j
          rw [getD_set h3]
          simp [Bool.not_or]
        rw [e]
        refine List.length_filter_lt_length_iff_exists.2 ⟨i, List.mem_filter.2 ⟨List.mem_range.2 hlt, by rw [hL]; rfl⟩, by simp⟩
      omega
    · have e : (fun j => (listed.setIfInBounds i true).getD j false) = fun j => j == i || listed.getD j false := by
        funext j
        exact getD_set h3
      rw [e]
      exact h

/-- A value for each operation's place. -/
def upd (vs : Nat → Value) (i : Nat) (v : Value) : Nat → Value := fun j => if j = i then v else vs j
theorem upd_same (vs : Nat → Value) (i : Nat) (v : Value) : upd vs i v i = v := if_pos rfl
theorem upd_ne {vs : Nat → Value} {i j : Nat} {v : Value} (h : j ≠ i) : upd vs i v j = vs j := if_neg h

/-- The frame with what the operations left: (operation, slot). -/
def puts (a : Act) : List (Nat × Nat) → (Nat → Value) → Act
  | [], _ => a
  | (i, d) :: r, vs => (puts a r vs).put (some d) (vs i)
/-- Which operation writes which slot. -/
def dsOf (i : Nat) : List Oper → List (Nat × Nat)
  | [] => []
  | o :: os => match o.dst with
    | some d => (i, d) :: dsOf (i + 1) os
    | none => dsOf (i + 1) os
def apartDs : List (Nat × Nat) → Bool
  | [] => true
  | (i, d) :: r => (r.all fun p => p.1 != i && p.2 != d) && apartDs r

theorem put_put (a : Act) (d : Tmp) (u v : Value) : (a.put (some d) u).put (some d) v = a.put (some d) v := by
  simp only [Act.put]
  congr 1
  refine Array.ext (by simp) fun k h1 h2 => ?_
  by_cases h : d = k
  · subst h; simp
  · simp [h]
theorem put_none (a : Act) (v : Value) : a.put none v = a := rfl
theorem put_get (a : Act) (d : Tmp) : a.put (some d) (a.tmps.getD d undef) = a := by
  obtain ⟨t, ds⟩ := a
  simp only [Act.put]
  congr 1
  refine Array.ext (by simp) fun k h1 h2 => ?_
  by_cases h : d = k
  · subst h; simp [h2]
  · rw [Array.getElem_setIfInBounds_ne _ h]
theorem puts_self (a : Act) : ∀ (r : List (Nat × Nat)) (vs : Nat → Value), (∀ p ∈ r, vs p.1 = a.tmps.getD p.2 undef) → puts a r vs = a
  | [], _, _ => rfl
  | (i, d) :: r, vs, h => by
    rw [puts, puts_self a r vs (fun p hp => h p (by simp [hp])), h (i, d) (by simp)]
    exact put_get a d
theorem puts_congr (a : Act) : ∀ (r : List (Nat × Nat)) (vs us : Nat → Value), (∀ p ∈ r, vs p.1 = us p.1) → puts a r vs = puts a r us
  | [], _, _, _ => rfl
  | (i, d) :: r, vs, us, h => by
    rw [puts, puts, puts_congr a r vs us (fun p hp => h p (by simp [hp])), h (i, d) (by simp)]
theorem puts_put (a : Act) : ∀ (r : List (Nat × Nat)) (vs : Nat → Value) (i d : Nat) (v : Value), apartDs r = true → (i, d) ∈ r → (puts a r vs).put (some d) v = puts a r (upd vs i v)
  | [], _, _, _, _, _, h => by simp at h
  | (k, c) :: r, vs, i, d, v, ha, h => by
    simp only [apartDs, Bool.and_eq_true, List.all_eq_true, bne_iff_ne, ne_eq] at ha
    rcases List.mem_cons.1 h with e | hm
    · injection e with e1 e2
      subst e1 e2
      rw [puts, puts, put_put, upd_same]
      congr 1
      exact puts_congr a r _ _ fun p hp => (upd_ne (ha.1 p hp).1).symm
    · have h2 := ha.1 (i, d) hm
      rw [puts, puts, Act.put_comm _ _ _ (fun q hq hq2 => by injection hq with e1; injection hq2 with e2; exact h2.2 (e2.trans e1.symm)), puts_put a r vs i d v ha.2 hm, upd_ne (fun e => h2.1 e.symm)]
theorem dsOf_mem : ∀ (os : List Oper) (k i : Nat) (o : Oper) (d : Nat), os[i]? = some o → o.dst = some d → (k + i, d) ∈ dsOf k os
  | [], _, _, _, _, h, _ => by simp at h
  | p :: os, k, 0, o, d, h, hd => by
    simp at h
    subst h
    simp [dsOf, hd]
  | p :: os, k, i + 1, o, d, h, hd => by
    have h2 := dsOf_mem os (k + 1) i o d (by simpa using h) hd
    rw [show k + 1 + i = k + (i + 1) by omega] at h2
    simp only [dsOf]
    split
    · exact List.mem_cons_of_mem _ h2
    · exact h2
theorem dsOf_ge : ∀ (os : List Oper) (k : Nat) (p : Nat × Nat), p ∈ dsOf k os → k ≤ p.1 ∧ ∃ o, os[p.1 - k]? = some o ∧ o.dst = some p.2
  | [], _, _, h => by simp [dsOf] at h
  | q :: os, k, p, h => by
    simp only [dsOf] at h
    have tail : p ∈ dsOf (k + 1) os → k ≤ p.1 ∧ ∃ o, (q :: os)[p.1 - k]? = some o ∧ o.dst = some p.2 := fun h => by
      obtain ⟨h1, o, h2, h3⟩ := dsOf_ge os (k + 1) p h
      refine ⟨by omega, o, ?_, h3⟩
      rw [show p.1 - k = (p.1 - (k + 1)) + 1 by omega]
      simpa using h2
    split at h
    · rename_i d hd
      rcases List.mem_cons.1 h with e | h
      · subst e
        exact ⟨Nat.le_refl _, q, by simp, hd⟩
      · exact tail h
    · exact tail h

/-- What the state is: posts: what each operation's value is as long as the region runs; apart: any two of them. -/
def RegInv (ops : Array Oper) (n : Nat) (fr : (Nat → Value) → Act) (Inv : World → Prop) (posts : Nat → Value → World → Prop) (apart : Nat → Nat → Value → Value → Prop) (L : Nat → Bool) (a : Act) (w : World) : Prop :=
  ∃ vs, a = fr vs ∧ Inv w ∧ (∀ i, i < n → L i = true → posts i (vs i) w) ∧ (∀ i j, i < n → j < n → i ≠ j → L i = true → L j = true → apart i j (vs i) (vs j)) ∧
    (∀ (j : Nat) (o : Oper), ops[j]? = some o → L j = true → ∀ e ∈ o.after, Region.binds .any e = true → L e.on = true)

/-- One operation's run, shut (so that nothing opens it by itself). -/
structure OpWp (P : Program) (o : Oper) (a : Act) (w : World) (K : Act → World → Prop) (Q : Exit → Act → World → Prop) : Prop where mk :: (out : o.wp P a w K Q)
/-- One operation's duty. -/
structure RegStep (P : Program) (ops : Array Oper) (Q : Exit → Act → World → Prop) (n : Nat) (fr : (Nat → Value) → Act) (Inv : World → Prop) (posts : Nat → Value → World → Prop) (apart : Nat → Nat → Value → Value → Prop) (i : Nat) (oi : Oper) : Prop where mk ::
  out : ∀ (L : Nat → Bool) (vs : Nat → Value) (w : World), L i = false → (∀ e ∈ oi.after, Region.binds .any e = true → L e.on = true) → Inv w →
    (∀ j, j < n → L j = true → posts j (vs j) w) → (∀ j k, j < n → k < n → j ≠ k → L j = true → L k = true → apart j k (vs j) (vs k)) → (∀ (j : Nat) (o : Oper), ops[j]? = some o → L j = true → ∀ e ∈ o.after, Region.binds .any e = true → L e.on = true) →
    OpWp P oi (fr vs) w (fun a' w' => ∃ v, a' = fr (upd vs i v) ∧ Inv w' ∧ posts i v w' ∧ (∀ j, j < n → j ≠ i → L j = true → posts j (vs j) w') ∧ (∀ j, j < n → j ≠ i → L j = true → apart i j v (vs j))) Q

theorem wp_region_posts {id : Nat} {a : Act} {w : World} (ds : List (Nat × Nat)) (Inv : World → Prop) (posts : Nat → Value → World → Prop) (apart : Nat → Nat → Value → Value → Prop)
    (hm : P.follows .mixedOrders = true) (hback : backFrom 0 ops.toList = true) (hds : dsOf 0 ops.toList = ds) (hap : apartDs ds = true) (hguard : (ops.toList.all fun o => o.guard.isNone) = true)
    (hw : Inv w.drew)
    (hsym : ∀ i j u v, apart i j u v → apart j i v u)
    (hstep : ∀ (i : Nat) (oi : Oper), ops[i]? = some oi → RegStep P ops Q ops.size (puts a ds) Inv posts apart i oi)
    (hend : ∀ vs w, Inv w → (∀ i, i < ops.size → posts i (vs i) w) → (∀ i j, i < ops.size → j < ops.size → i ≠ j → apart i j (vs i) (vs j)) → Q .normal (puts a ds vs) w) :
    (Code.region id ops true).wp P Q a w := by
  refine wp_region_any hm ?_
  refine wpAny_inv (RegInv ops ops.size (puts a ds) Inv posts apart) hback ?_ ?_ _ _ _ _ (by simp) ?_ ?_
  · rintro L a' w i oi ho hL hall ⟨vs, rfl, hI, hp, hap, hcl⟩
    have hlt : i < ops.size := (Array.getElem?_eq_some_iff.1 ho).1
    have hg : oi.guard = none := by
      have h := List.all_eq_true.1 hguard oi (by simpa using Array.mem_of_getElem? ho)
      simpa using h
    unfold wpOp
    simp only [ho, Region.wanted, hg, if_true]
    refine .inl ?_
    refine Oper.wp_mono ?_ ((hstep i oi ho).out L vs w hL hall hI hp hap hcl).out
    rintro a'' w' ⟨v, rfl, hI', hpi, hst, hnew⟩
    refine ⟨_, rfl, hI', fun j hj hLj => ?_, fun j k hj hk hne hLj hLk => ?_, fun j o hjo hLj e he hb => ?_⟩
    · by_cases hji : j = i
      · subst hji; rw [upd_same]; exact hpi
      · rw [upd_ne hji]
        have : L j = true := by simpa [hji] using hLj
        exact hst j hj hji this
    · by_cases hji : j = i
      · subst hji
        have hkj : k ≠ j := Ne.symm hne
        have hLk' : L k = true := by simpa [hkj] using hLk
        rw [upd_same, upd_ne hkj]
        exact hnew k hk hkj hLk'
      · have hLj' : L j = true := by simpa [hji] using hLj
        rw [upd_ne hji]
        by_cases hki : k = i
        · subst hki
          rw [upd_same]
          exact hsym _ _ _ _ (hnew j hj hji hLj')
        · rw [upd_ne hki]
          have hLk' : L k = true := by simpa [hki] using hLk
          exact hap j k hj hk hne hLj' hLk'
    · by_cases hji : j = i
      · subst hji
        rw [ho] at hjo
        cases hjo
        simp [hall e he hb]
      · have hLj' : L j = true := by simpa [hji] using hLj
        simp [hcl j o hjo hLj' e he hb]
  · rintro L a' w hall ⟨vs, rfl, hI, hp, hap⟩
    exact hend vs w hI (fun i hi => hp i hi (hall i hi)) (fun i j hi hj hne => hap.1 i j hi hj hne (hall i hi) (hall j hj))
  · refine Nat.le_trans (List.length_filter_le _ _) (by simp)
  · refine ⟨fun i => match ops[i]? with | some o => (match o.dst with | some d => a.tmps.getD d undef | none => undef) | none => undef, ?_, hw, fun i hi h => by simp [Array.getD] at h, fun i j hi hj hne h => by simp [Array.getD] at h, fun j o hjo h => by simp [Array.getD] at h⟩
    refine (puts_self a ds _ fun p hp => ?_).symm
    rw [← hds] at hp
    obtain ⟨_, o, h1, h2⟩ := dsOf_ge _ _ p hp
    rw [Nat.sub_zero] at h1
    have h3 : ops[p.1]? = some o := by simpa using h1
    simp only [h3, h2]

/-- An operation that leaves a value. -/
theorem RegStep.value {n : Nat} {a : Act} {ds : List (Nat × Nat)} {Inv : World → Prop} {posts : Nat → Value → World → Prop} {apart : Nat → Nat → Value → Value → Prop} {i : Nat} {oi : Oper} (d : Nat)
    (hd : oi.dst = some d) (hm : (i, d) ∈ ds) (hap : apartDs ds = true)
    (h : ∀ (L : Nat → Bool) (vs : Nat → Value) (w : World), L i = false → (∀ e ∈ oi.after, Region.binds .any e = true → L e.on = true) → Inv w →
      (∀ j, j < n → L j = true → posts j (vs j) w) → (∀ j k, j < n → k < n → j ≠ k → L j = true → L k = true → apart j k (vs j) (vs k)) → (∀ (j : Nat) (o : Oper), ops[j]? = some o → L j = true → ∀ e ∈ o.after, Region.binds .any e = true → L e.on = true) →
      OpWp P oi (puts a ds vs) w (fun a' w' => ∃ v, a' = (puts a ds vs).put (some d) v ∧ Inv w' ∧ posts i v w' ∧ (∀ j, j < n → j ≠ i → L j = true → posts j (vs j) w') ∧ (∀ j, j < n → j ≠ i → L j = true → apart i j v (vs j))) Q) :
    RegStep P ops Q n (puts a ds) Inv posts apart i oi := ⟨fun L vs w h1 h2 h3 h4 h5 h6 => ⟨by
  refine Oper.wp_mono ?_ (h L vs w h1 h2 h3 h4 h5 h6).out
  rintro a' w' ⟨v, rfl, hr⟩
  exact ⟨v, puts_put a ds vs i d v hap hm, hr⟩⟩⟩
theorem RegStep.store {n : Nat} {a : Act} {ds : List (Nat × Nat)} {Inv : World → Prop} {posts : Nat → Value → World → Prop} {apart : Nat → Nat → Value → Value → Prop} {i : Nat} {oi : Oper}
    (hd : oi.dst = none) (hm : ∀ p ∈ ds, p.1 ≠ i)
    (h : ∀ (L : Nat → Bool) (vs : Nat → Value) (w : World), L i = false → (∀ e ∈ oi.after, Region.binds .any e = true → L e.on = true) → Inv w →
      (∀ j, j < n → L j = true → posts j (vs j) w) → (∀ j k, j < n → k < n → j ≠ k → L j = true → L k = true → apart j k (vs j) (vs k)) → (∀ (j : Nat) (o : Oper), ops[j]? = some o → L j = true → ∀ e ∈ o.after, Region.binds .any e = true → L e.on = true) →
      OpWp P oi (puts a ds vs) w (fun a' w' => a' = puts a ds vs ∧ ∃ v, Inv w' ∧ posts i v w' ∧ (∀ j, j < n → j ≠ i → L j = true → posts j (vs j) w') ∧ (∀ j, j < n → j ≠ i → L j = true → apart i j v (vs j))) Q) :
    RegStep P ops Q n (puts a ds) Inv posts apart i oi := ⟨fun L vs w h1 h2 h3 h4 h5 h6 => ⟨by
  refine Oper.wp_mono ?_ (h L vs w h1 h2 h3 h4 h5 h6).out
  rintro a' w' ⟨rfl, v, hr⟩
  exact ⟨v, puts_congr a ds _ _ fun p hp => (upd_ne (hm p hp)).symm, hr⟩⟩⟩
end

/-! What stands in a slot. -/
theorem eval_put_same (a : Act) (d : Tmp) (v : Value) (h : d < a.tmps.size) : (a.put (some d) v).eval (.tmp d) = v := by
  simp [Act.put, Act.eval, h]
theorem eval_put_other (a : Act) (d t : Tmp) (v : Value) (h : d ≠ t) : (a.put (some d) v).eval (.tmp t) = a.eval (.tmp t) := by
  simp [Act.put, Act.eval, Array.getElem?_setIfInBounds_ne h]
theorem eval_put_const (a : Act) (d : Option Tmp) (v u : Value) : (a.put d v).eval (.const u) = u := by
  cases d <;> rfl
theorem puts_size (a : Act) : ∀ (r : List (Nat × Nat)) (vs : Nat → Value), (puts a r vs).tmps.size = a.tmps.size
  | [], _ => rfl
  | (i, d) :: r, vs => by
    rw [puts]
    simp only [Act.put, Array.size_setIfInBounds]
    exact puts_size a r vs
theorem eval_puts_other (a : Act) (t : Tmp) : ∀ (r : List (Nat × Nat)) (vs : Nat → Value), (r.all fun p => p.2 != t) = true → (puts a r vs).eval (.tmp t) = a.eval (.tmp t)
  | [], _, _ => rfl
  | (i, d) :: r, vs, h => by
    simp only [List.all_cons, Bool.and_eq_true, bne_iff_ne, ne_eq] at h
    rw [puts, eval_put_other _ _ _ _ h.1]
    exact eval_puts_other a t r vs h.2
theorem eval_puts_at (a : Act) (i t : Nat) : ∀ (r : List (Nat × Nat)) (vs : Nat → Value), apartDs r = true → r.contains (i, t) = true → t < a.tmps.size → (puts a r vs).eval (.tmp t) = vs i
  | [], _, _, h, _ => by simp at h
  | (k, d) :: r, vs, ha, h, hs => by
    simp only [apartDs, Bool.and_eq_true, List.all_eq_true, bne_iff_ne, ne_eq] at ha
    simp only [List.contains_cons, Bool.or_eq_true, beq_iff_eq, Prod.mk.injEq] at h
    rw [puts]
    rcases h with ⟨h1, h2⟩ | h
    · subst h1 h2
      exact eval_put_same _ _ _ (by rw [puts_size]; exact hs)
    · have hm : (i, t) ∈ r := by simpa using h
      rw [eval_put_other _ _ _ _ (fun e => (ha.1 _ hm).2 e.symm)]
      exact eval_puts_at a i t r vs ha.2 h hs

/-- A region of the text, by its number. -/
def regionOf (n : Nat) : Code → Option (Array Oper)
  | .region k ops _ => if k = n then some ops else none
  | .loop c => regionOf n c
  | .seq a b => match regionOf n a with
    | some c => some c
    | none => regionOf n b
  | .block _ c => regionOf n c
  | .scope c => regionOf n c
  | .cond _ a b => match regionOf n a with
    | some c => some c
    | none => regionOf n b
  | _ => none

/-- The same region, its operations by another name. -/
theorem region_eq {P : Program} {id : Nat} {ops : Array Oper} {b : Bool} {Q : Exit → Act → World → Prop} {a : Act} {w : World} (ops' : Array Oper) (h : ops = ops') (hw : Code.wp P (Code.region id ops' b) Q a w) : Code.wp P (Code.region id ops b) Q a w := by
  subst h
  exact hw

/-! A whole row written. -/
theorem setCells_heap (b : Nat) (t : TypeId) : ∀ (vs : List Value) (o : Nat) (w : World) (cs : Array Value), w.heap[b]? = some (.cells cs t (0, 0)) →
    (∃ cs' : Array Value, (w.setCells b o vs).heap[b]? = some (.cells cs' t (0, 0)) ∧ cs'.size = cs.size ∧ ∀ j, j < cs.size → cs'[j]? = if o ≤ j ∧ j < o + vs.length then vs[j - o]? else cs[j]?) ∧ w.grownBy (w.setCells b o vs) (some b)
  | [], o, w, cs, h => ⟨⟨cs, h, rfl, fun j hj => by rw [if_neg (by simp only [List.length_nil]; omega)]⟩, World.grownBy.refl _ _⟩
  | v :: vs, o, w, cs, h => by
    have h1 := heap_setCell_same w b o cs t v h
    obtain ⟨⟨cs', h2, h3, h4⟩, hg⟩ := setCells_heap b t vs (o + 1) (w.setCell ⟨b, o, none⟩ v) (cs.setIfInBounds o v) h1
    have hgr : w.grownBy (w.setCell ⟨b, o, none⟩ v) (some b) := ⟨rfl, rfl, rfl, by simp [World.setCell], fun k hk hne => heap_setCell_other w _ k v (fun e => hne (by rw [e]))⟩
    refine ⟨⟨cs', h2, by rw [h3]; simp, fun j hj => ?_⟩, hgr.trans hg⟩
    rw [h4 j (by simpa using hj)]
    by_cases hjo : j = o
    · subst hjo
      rw [if_neg (by omega), if_pos (by simp)]
      simp [hj]
    · by_cases hin : o + 1 ≤ j ∧ j < o + 1 + vs.length
      · rw [if_pos hin, if_pos (by simp; omega)]
        rw [show j - o = (j - (o + 1)) + 1 by omega]
        simp
      · rw [if_neg hin, if_neg (by simp; omega), Array.getElem?_setIfInBounds_ne (Ne.symm hjo)]
theorem setCells_row (w : World) (g : Nat) (cs news : Array Value) (t : TypeId) (hg : w.heap[g]? = some (.cells cs t (0, 0))) (hs : news.size = cs.size) :
    (w.setCells g 0 news.toList).heap[g]? = some (.cells news t (0, 0)) ∧ w.grownBy (w.setCells g 0 news.toList) (some g) := by
  obtain ⟨⟨cs', h2, h3, h4⟩, h5⟩ := setCells_heap g t news.toList 0 w cs hg
  have e : cs' = news := Array.ext (by omega) fun j hj1 hj2 => by
    have h := h4 j (by omega)
    rw [if_pos (by simp; omega)] at h
    simpa [hj1, hj2] using h
  subst e
  exact ⟨h2, h5⟩

/-! Single operations, in whatever frame. -/
section
variable {P : Program} {Q : Exit → Act → World → Prop}
theorem OpWp.value {o : Oper} {a : Act} {w : World} {K : Act → World → Prop} (v : Value) (w' : World) (h : (execOp a.eval o).run P w = .ok (.value v) w') (hK : K (a.put o.dst v) w') : OpWp P o a w K Q := ⟨by
  unfold Oper.wp
  rw [h]
  exact hK⟩
theorem OpWp.skip {o : Oper} {a : Act} {w : World} {K : Act → World → Prop} (w' : World) (h : (execOp a.eval o).run P w = .ok .skip w') (hK : K (a.put o.dst undef) w') : OpWp P o a w K Q := ⟨by
  unfold Oper.wp
  rw [h]
  exact hK⟩
theorem OpWp.enter {o : Oper} {a : Act} {w : World} {K : Act → World → Prop} (f : FuncId) (args : Array Value) {R : Ending → World → Prop} (h : (execOp a.eval o).run P w = .ok (.enter f args) w)
    (hc : Calls P f args w R) (hK : ∀ e w', R e w' → ∃ v, e = .returned v ∧ K (a.put o.dst v) w') : OpWp P o a w K Q := ⟨by
  unfold Oper.wp
  rw [h]
  refine Calls.mono hc fun e w' he => ?_
  obtain ⟨v, rfl, hv⟩ := hK e w' he
  exact hv⟩
theorem OpWp.move {o : Oper} {a : Act} {w : World} {K : Act → World → Prop} {x : Operand} (v : Value) (ho : o.op = .move x) (hx : a.eval x = v) (hK : K (a.put o.dst v) w) : OpWp P o a w K Q :=
  OpWp.value v w (by unfold execOp; simp only [ho, hx]; rfl) hK
theorem OpWp.assign {o : Oper} {a : Act} {w : World} {K : Act → World → Prop} {x : Operand} (v : Value) (ho : o.op = .assign x) (hx : a.eval x = v) (hK : K (a.put o.dst v) w) : OpWp P o a w K Q :=
  OpWp.value v w (by unfold execOp; simp only [ho, hx]; rfl) hK
theorem OpWp.load_row {o : Oper} {a : Act} {w : World} {K : Act → World → Prop} {ty : TypeId} {x : Operand} {g : Nat} {t : TypeId} {cs : Array Value} {fr : Nat × Nat} {d : TypeDesc} (ho : o.op = .load ty x)
    (hx : a.eval x = .pointer (some ⟨g, 0, none⟩)) (hg : w.heap[g]? = some (.cells cs t fr))
    (hu : P.underlying ty = some d) (hd : (match d with | .struct _ | .array _ _ => true | _ => false) = true) (hi : (P.info? ty).map (·.size) = some cs.size)
    (h : K (a.put o.dst (.agg cs)) w) : OpWp P o a w K Q := ⟨wp_load_row ty x ho g hx t cs fr d hg hu hd hi h⟩
theorem OpWp.store_row {o : Oper} {a : Act} {w : World} {K : Act → World → Prop} {ty : TypeId} {x y : Operand} {g : Nat} {t : TypeId} {cs news : Array Value} (ho : o.op = .store ty x y)
    (hx : a.eval x = .pointer (some ⟨g, 0, none⟩)) (hy : a.eval y = .agg news) (hg : w.heap[g]? = some (.cells cs t (0, 0))) (hs : news.size = cs.size)
    (hi : (P.info? ty).map (·.size) = some news.size) (h1 : news.all (·.oneCell') = true)
    (h : ∀ w', w'.heap[g]? = some (.cells news t (0, 0)) → w.grownBy w' (some g) → K (a.put o.dst undef) w') : OpWp P o a w K Q := by
  obtain ⟨e1, e2⟩ := setCells_row w g cs news t hg hs
  refine ⟨wp_store_mid ty x y ho g 0 news hx hy (fun j hj => ?_) hi h1 (h _ e1 e2)⟩
  have hc : w.cell? ⟨g, 0 + j, none⟩ = some (cs[j]'(by omega)) := by
    rw [cell_of_row w g _ cs t (0, 0) hg, Nat.zero_add]
    exact Array.getElem?_eq_getElem (by omega)
  exact ⟨by rw [hc]; rfl, frozen_of_row w g _ cs t hg⟩
end
end Go.Proofs.Ytfemdpdnnifehaa.PH
