/- The contract of slices.IndexFunc and slices.ContainsFunc at whole numbers, for a closure that only reads; and what uses them: AreHouses. -/
import Derived.Test.YtfemdpdnnifehaaPHx0
import Derived.Test.YtfemdpdnnifehaaPHx10
import Derived.Shelf.Abstract
set_option linter.unusedVariables false
set_option linter.unusedSimpArgs false
namespace Go.Proofs.Ytfemdpdnnifehaa.PH
open Go.RowKit Go.Proofs.YtfemdpdnnifehaaW.PrintWords Go.Proofs.YtfemdpdnnifehaaW.PrintLast

/-- The place of the first element that p holds of, from i on; or -1. -/
def idxFrom (p : Int → Bool) : Int → List Int → Int
  | _, [] => -1
  | i, x :: xs => if p x = true then i else idxFrom p (i + 1) xs

theorem idxFrom_nonneg (p : Int → Bool) (xs : List Int) : ∀ i, 0 ≤ i → (0 ≤ idxFrom p i xs ↔ xs.any p = true) := by
  induction xs with
  | nil => intro i _; simp [idxFrom]
  | cons x xs ih =>
    intro i hi
    simp only [idxFrom, List.any_cons]
    cases h : p x
    · simp only [Bool.false_eq_true, if_false, Bool.false_or]; exact ih (i + 1) (by omega)
    · simp [hi]

theorem drop_at (l : List Int) (k : Nat) (h : k < l.length) : l.drop k = rd l (k : Int) :: l.drop (k + 1) := by
  rw [List.drop_eq_getElem_cons h]
  simp [rd, h]

set_option maxHeartbeats 1000000 in
set_option maxRecDepth 100000 in
theorem indexFunc_int (K : Nat) (caps : Array Value) (p : Int → Bool) (A : Option Addr) (c : Nat) (l : List Int) (w : World)
    (eg : ∀ args w, (callFunc K args).run Try.prog w = .ok (.enter K args) w)
    (hr : Kd.C (Kd.int .i64) w A l.length l) (hlen : l.length ≤ 9223372036854775806)
    (hf : ∀ x m, Calls Try.prog K (#[.int .i64 x] ++ caps) (w.drewN m) fun e w' => e = .returned (.bool (p x)) ∧ Drawn0 w w') :
    Calls Try.prog 93 #[.slice A l.length c, .func (.func K) #[] caps] w fun e w' => e = .returned (.int .i64 (idxFrom p 0 l)) ∧ Drawn0 w w' := by
  have HF := Aside0.mk hf
  clear hf
  have HR := Aside0.mk hr
  clear hr
  have hres : Aside0 (idxFrom p 0 l = idxFrom p ((0 : Nat) : Int) (l.drop 0)) := ⟨by simp⟩
  go_enter Try.func93, Try.ntmps93
  go_wp2
  go_loopw [8] (fun i wr => ∃ k m : Nat, k ≤ l.length ∧ i = .int .i64 k ∧ wr = w.drewN m ∧ Aside0 (idxFrom p 0 l = idxFrom p (k : Int) (l.drop k))) (fun i _ => l.length - (intOf i).toNat)
  case atStart => exact ⟨0, 0, by omega, rfl, rfl, hres⟩
  case round =>
    obtain ⟨k, m, hk, rfl, rfl, hres'⟩ := hrel
    by_cases hlt : k < l.length
    · obtain ⟨ad, ea, hcell⟩ := Kd.at_int HR.out (k : Int) (by omega) (by omega)
      cases ea
      have hcell' : (w.drewN m).cell? (ad.add k) = some (.int .i64 (rd l k)) := by simpa using hcell
      clear hcell
      have hd : Aside0 (l.drop k = rd l (k : Int) :: l.drop (k + 1)) := ⟨drop_at l k hlt⟩
      have hb : decide (k < l.length) = true := decide_eq_true hlt
      go_wp2_with fail
      refine (HF.out _ _).mono ?_
      rintro e w' ⟨rfl, ⟨n, rfl⟩⟩
      cases hp : p (rd l k)
      · have hp' : Aside0 (p (rd l k) = false) := ⟨hp⟩
        clear hp
        go_wp2
        go_roundw
        case rel =>
          refine ⟨k + 1, n, by omega, by go_num, rfl, ⟨?_⟩⟩
          rw [hres'.out, hd.out]
          simp [idxFrom, hp'.out]
        case measure => simp [intOf]; omega
      · have hp' : Aside0 (p (rd l k) = true) := ⟨hp⟩
        clear hp
        go_wp2
        go_ret
        refine ⟨?_, ⟨⟨_, rfl⟩⟩⟩
        rw [hres'.out, hd.out]
        simp [idxFrom, hp'.out]
    · have hb : decide (k < l.length) = false := decide_eq_false hlt
      go_wp2
      go_ret
      refine ⟨?_, ⟨⟨_, rfl⟩⟩⟩
      rw [hres'.out, List.drop_eq_nil_of_le (by omega)]
      rfl

set_option maxHeartbeats 1000000 in
set_option maxRecDepth 100000 in
theorem containsFunc_int (K : Nat) (caps : Array Value) (p : Int → Bool) (A : Option Addr) (c : Nat) (l : List Int) (w : World)
    (eg : ∀ args w, (callFunc K args).run Try.prog w = .ok (.enter K args) w)
    (hr : Kd.C (Kd.int .i64) w A l.length l) (hlen : l.length ≤ 9223372036854775806)
    (hf : ∀ x m, Calls Try.prog K (#[.int .i64 x] ++ caps) (w.drewN m) fun e w' => e = .returned (.bool (p x)) ∧ Drawn0 w w') :
    Calls Try.prog 88 #[.slice A l.length c, .func (.func K) #[] caps] w fun e w' => e = .returned (.bool (l.any p)) ∧ Drawn0 w w' := by
  have hI := Aside0.mk (indexFunc_int K caps p A c l w eg hr hlen hf)
  clear hf hr eg
  obtain ⟨r, hr⟩ : ∃ r : Int, idxFrom p 0 l = r := ⟨_, rfl⟩
  rw [hr] at hI
  have hb : Aside0 (decide (r ≥ 0) = l.any p) := ⟨by
    have := idxFrom_nonneg p l 0 (by omega)
    rw [hr] at this
    rw [Bool.eq_iff_iff, ← this]
    simp⟩
  clear hr
  go_enter Try.func88, Try.ntmps88
  go_wp2_with (go_at_call 93; refine hI.out.mono ?_; rintro e w' ⟨rfl, ⟨nd, rfl⟩⟩)
  go_ret
  refine ⟨?_, ⟨⟨_, rfl⟩⟩⟩
  rw [← hb.out]
  rfl

theorem any_not_all {α : Type} (p : α → Bool) (l : List α) : (l.any fun x => !p x) = !(l.all p) := by
  induction l with
  | nil => rfl
  | cons x xs ih => simp only [List.any_cons, List.all_cons, ih]; cases p x <;> simp

/-! ### AreHouses -/
theorem areHouses_lit (x : Int) (w : World) : Calls Try.prog 89 #[.int .i64 x] w fun e w' => e = .returned (.bool (!(decide (x ≥ 0) && decide (x ≤ 8)))) ∧ Drawn0 w w' := by
  obtain ⟨t, ht⟩ : ∃ t, impl_within.f x 0 8 = some t := by unfold impl_within.f; split <;> exact ⟨_, rfl⟩
  have hv : t = (decide (x ≥ 0) && decide (x ≤ 8)) := by
    unfold impl_within.f at ht
    by_cases h : x ≥ 0 <;> simp [h] at ht ⊢ <;> simp [ht]
  have HT := Aside0.mk ht
  have HV := Aside0.mk hv
  clear ht hv
  go_enter Try.func89, Try.ntmps89
  go_wp2_with (go_at_call 66; refine (impl_within.calls x 0 8 t _ HT.out).mono ?_; rintro e w' ⟨rfl, ⟨nd, rfl⟩⟩)
  go_ret
  refine ⟨?_, ⟨⟨_, rfl⟩⟩⟩
  rw [HV.out]
  rfl

theorem within_len (n a b : Nat) : impl_within.f (n : Int) (a : Int) (b : Int) = some (decide (a ≤ n) && decide (n ≤ b)) := by
  unfold impl_within.f
  by_cases h1 : a ≤ n
  · rw [if_pos (by omega)]
    congr 1
    rw [Bool.eq_iff_iff]
    simp
    omega
  · rw [if_neg (by omega)]
    simp [h1]

def impl_AreHouses.f (l : List Int) : Option Bool := some ((decide (1 ≤ l.length) && decide (l.length ≤ 3)) && l.all fun x => decide (x ≥ 0) && decide (x ≤ 8))

set_option maxHeartbeats 1000000 in
theorem impl_AreHouses.calls (A0 : Option Addr) (c0 : Nat) (l0 : List Int) (r : Bool) (w : World) (hr0 : Kd.C (Kd.int .i64) w A0 l0.length l0) (hc0 : l0.length ≤ c0) (h : impl_AreHouses.f l0 = some r) :
    Calls Try.prog 65 #[.slice A0 l0.length c0] w fun e w' => e = .returned (.bool r) ∧ Drawn0 w w' := by
  unfold impl_AreHouses.f at h
  have hr := Option.some.inj h
  clear h
  have eg : ∀ args w, (callFunc 89 args).run Try.prog w = .ok (.enter 89 args) w := Go.Proofs.enters_of Try.func89 (by kernel_rfl) rfl
  have hany := any_not_all (fun x : Int => decide (x ≥ 0) && decide (x ≤ 8)) l0
  have hw : ∀ W, Calls Try.prog 66 #[.int .i64 (l0.length : Int), .int .i64 1, .int .i64 3] W fun e w' => e = .returned (.bool (decide (1 ≤ l0.length) && decide (l0.length ≤ 3))) ∧ Drawn0 W w' := fun W =>
    impl_within.calls _ 1 3 _ W (within_len l0.length 1 3)
  have hC : l0.length ≤ 3 → ∀ m, Calls Try.prog 88 #[.slice A0 l0.length c0, .func (.func 89) #[] #[]] (w.drewN m) fun e w' => e = .returned (.bool (!(l0.all fun x => decide (x ≥ 0) && decide (x ≤ 8)))) ∧ Drawn0 (w.drewN m) w' := fun h3 m => by
    rw [← hany]
    exact containsFunc_int 89 #[] _ A0 c0 l0 _ eg (Kd.C_drewN hr0 m) (by omega) (fun x n => areHouses_lit x _ |>.mono fun e w' ⟨h1, ⟨h2⟩⟩ => ⟨h1, by obtain ⟨q, rfl⟩ := h2; exact ⟨⟨n + q, World.drewN_drewN _ _ _⟩⟩⟩)
  clear hr0 eg
  have HW := Aside0.mk hw
  have HC := Aside0.mk hC
  clear hw hC hany
  by_cases h1 : 1 ≤ l0.length ∧ l0.length ≤ 3
  · have e1 : (decide (1 ≤ l0.length) && decide (l0.length ≤ 3)) = true := by simp [h1.1, h1.2]
    rw [e1] at HW hr
    have h3 := h1.2
    obtain ⟨b, hb⟩ : ∃ b, (l0.all fun x => decide (x ≥ 0) && decide (x ≤ 8)) = b := ⟨_, rfl⟩
    rw [hb] at HC hr
    clear hb
    clear h1 e1
    have HR := Aside0.mk hr
    clear hr
    go_enter Try.func65, Try.ntmps65
    go_wp2_with (first
      | (go_at_call 66; refine (HW.out _).mono ?_; rintro e w' ⟨rfl, ⟨nd, rfl⟩⟩)
      | (go_at_call 88; refine (HC.out h3 _).mono ?_; rintro e w' ⟨rfl, ⟨nd2, rfl⟩⟩))
    go_ret
    refine ⟨?_, ⟨⟨nd + nd2, by rw [← World.drewN_drewN]⟩⟩⟩
    rw [← HR.out]; simp
  · have e1 : (decide (1 ≤ l0.length) && decide (l0.length ≤ 3)) = false := by
      rw [Bool.eq_false_iff]; intro h; apply h1; simpa using h
    rw [e1] at HW hr
    have hr' : r = false := by rw [← hr]; rfl
    subst hr'
    clear hr h1 e1 HC
    go_enter Try.func65, Try.ntmps65
    go_wp2_with (first
      | (go_at_call 66; refine (HW.out _).mono ?_; rintro e w' ⟨rfl, ⟨nd, rfl⟩⟩))
    go_ret
    exact ⟨rfl, ⟨⟨_, rfl⟩⟩⟩

end Go.Proofs.Ytfemdpdnnifehaa.PH
