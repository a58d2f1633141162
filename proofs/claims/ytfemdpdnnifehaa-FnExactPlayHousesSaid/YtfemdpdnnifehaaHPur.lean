/- Numbers alone: the least numbers of drops of three houses, good drops, plays. No program. -/
import Derived.Test.YtfemdpdnnifehaaPHx0
set_option linter.unusedVariables false
set_option linter.unusedSimpArgs false
namespace Go.Proofs.Ytfemdpdnnifehaa.PH

def need3 (a b c : Int) : Int := (if a > 0 then 1 else 0) + (if b > 0 then 1 else 0) + (if c > 0 then 1 else 0)

/-- The least of o, g 1, .., g k. -/
def mins (g : Int → Int) (o : Int) : Nat → Int
  | 0 => o
  | k + 1 => min (mins g o k) (g ((k : Int) + 1))

/-- What stands in out ahead of house h; N: where it begins. -/
def outs (N : Int) (g : Int → Int → Int) (a b c : Int) : Nat → Int
  | 0 => N
  | 1 => mins (g 0) N a.toNat
  | 2 => mins (g 1) (mins (g 0) N a.toNat) b.toNat
  | _ => mins (g 2) (mins (g 1) (mins (g 0) N a.toNat) b.toNat) c.toNat

/-- A plan that begins with a drop, by the least numbers L of what is left. -/
def gOf (L : Int → Int → Int → Int → Int) (a b c e h f : Int) : Int :=
  if h = 0 then 1 + max (L (f - 1) b c (e - 1)) (L (a - f) b c e)
  else if h = 1 then 1 + max (L a (f - 1) c (e - 1)) (L a (b - f) c e)
  else 1 + max (L a b (f - 1) (e - 1)) (L a b (c - f) e)

def Lf (N : Int) : Nat → Int → Int → Int → Int → Int
  | 0, _, _, _, _ => 0
  | k + 1, a, b, c, e => if need3 a b c = 0 then 0 else if e < need3 a b c then N else outs N (gOf (Lf N k) a b c e) a b c 3

/-- The least number of drops; N where there is no plan. -/
def Ln (N : Int) (a b c e : Int) : Int := Lf N ((a + b + c).toNat + 1) a b c e

theorem mins_congr {g g' : Int → Int} {o : Int} : ∀ {k : Nat}, (∀ f : Int, 1 ≤ f → f ≤ k → g f = g' f) → mins g o k = mins g' o k
  | 0, _ => rfl
  | k + 1, h => by
    simp only [mins]
    rw [mins_congr (k := k) (fun f h1 h2 => h f h1 (by omega)), h _ (by omega) (by omega)]
theorem mins_le {g : Int → Int} {o : Int} : ∀ {k : Nat}, mins g o k ≤ o
  | 0 => Int.le_refl _
  | k + 1 => Int.le_trans (Int.min_le_left _ _) (mins_le (k := k))
theorem mins_nonneg {g : Int → Int} {o : Int} (ho : 0 ≤ o) (hg : ∀ f, 0 ≤ g f) : ∀ {k : Nat}, 0 ≤ mins g o k
  | 0 => ho
  | k + 1 => by
    have h1 := mins_nonneg ho hg (k := k)
    have h2 := hg ((k : Int) + 1)
    simp only [mins]
    omega
theorem outs_congr {N : Int} {g g' : Int → Int → Int} {a b c : Int} (h0 : ∀ f : Int, 1 ≤ f → f ≤ a → g 0 f = g' 0 f) (h1 : ∀ f : Int, 1 ≤ f → f ≤ b → g 1 f = g' 1 f) (h2 : ∀ f : Int, 1 ≤ f → f ≤ c → g 2 f = g' 2 f) :
    outs N g a b c 3 = outs N g' a b c 3 := by
  simp only [outs]
  rw [mins_congr (g := g 0) (g' := g' 0) (fun f x y => h0 f x (by omega)), mins_congr (g := g 1) (g' := g' 1) (fun f x y => h1 f x (by omega)), mins_congr (g := g 2) (g' := g' 2) (fun f x y => h2 f x (by omega))]
theorem outs_le {N : Int} {g : Int → Int → Int} {a b c : Int} : outs N g a b c 3 ≤ N := by
  simp only [outs]
  exact Int.le_trans mins_le (Int.le_trans mins_le mins_le)
theorem outs_nonneg {N : Int} (hN : 0 ≤ N) {g : Int → Int → Int} (hg : ∀ h f, 0 ≤ g h f) {a b c : Int} : 0 ≤ outs N g a b c 3 := by
  simp only [outs]
  exact mins_nonneg (mins_nonneg (mins_nonneg hN (hg 0)) (hg 1)) (hg 2)

theorem Lf_bounds {N : Int} (hN : 0 ≤ N) : ∀ (k : Nat) (a b c e : Int), 0 ≤ Lf N k a b c e ∧ Lf N k a b c e ≤ N
  | 0, _, _, _, _ => ⟨Int.le_refl _, hN⟩
  | k + 1, a, b, c, e => by
    unfold Lf
    split
    · exact ⟨Int.le_refl _, hN⟩
    · split
      · exact ⟨hN, Int.le_refl _⟩
      · refine ⟨outs_nonneg hN (fun h f => ?_), outs_le⟩
        have hb := Lf_bounds hN k
        unfold gOf
        split
        · have := (hb (f - 1) b c (e - 1)).1; omega
        · split
          · have := (hb a (f - 1) c (e - 1)).1; omega
          · have := (hb a b (f - 1) (e - 1)).1; omega
theorem Ln_bounds {N : Int} (hN : 0 ≤ N) (a b c e : Int) : 0 ≤ Ln N a b c e ∧ Ln N a b c e ≤ N := Lf_bounds hN _ a b c e
theorem gOf_bounds {N : Int} (hN : 0 ≤ N) (a b c e h f : Int) : 0 ≤ gOf (Ln N) a b c e h f ∧ gOf (Ln N) a b c e h f ≤ N + 1 := by
  have hb := Ln_bounds hN
  unfold gOf
  split
  · have h1 := hb (f - 1) b c (e - 1); have h2 := hb (a - f) b c e; omega
  · split
    · have h1 := hb a (f - 1) c (e - 1); have h2 := hb a (b - f) c e; omega
    · have h1 := hb a b (f - 1) (e - 1); have h2 := hb a b (c - f) e; omega

theorem Lf_fuel (N : Int) : ∀ (k k' : Nat) (a b c e : Int), 0 ≤ a → 0 ≤ b → 0 ≤ c → a + b + c < k → a + b + c < k' → Lf N k a b c e = Lf N k' a b c e := by
  intro k
  induction k with
  | zero => intro k' a b c e ha hb hc h; omega
  | succ k ih =>
    intro k' a b c e ha hb hc h h'
    obtain ⟨k', rfl⟩ : ∃ m, k' = m + 1 := ⟨k' - 1, by omega⟩
    unfold Lf
    split
    · rfl
    · split
      · rfl
      · refine outs_congr (fun f h1 h2 => ?_) (fun f h1 h2 => ?_) (fun f h1 h2 => ?_)
        · simp only [gOf, if_true]
          rw [ih k' (f - 1) b c (e - 1) (by omega) hb hc (by omega) (by omega), ih k' (a - f) b c e (by omega) hb hc (by omega) (by omega)]
        · simp only [gOf, show ¬ ((1 : Int) = 0) by decide, if_false, if_true]
          rw [ih k' a (f - 1) c (e - 1) ha (by omega) hc (by omega) (by omega), ih k' a (b - f) c e ha (by omega) hc (by omega) (by omega)]
        · simp only [gOf, show ¬ ((2 : Int) = 0) by decide, show ¬ ((2 : Int) = 1) by decide, if_false]
          rw [ih k' a b (f - 1) (e - 1) ha hb (by omega) (by omega) (by omega), ih k' a b (c - f) e ha hb (by omega) (by omega) (by omega)]

theorem Ln_eq (N : Int) (a b c e : Int) (ha : 0 ≤ a) (hb : 0 ≤ b) (hc : 0 ≤ c) :
    Ln N a b c e = if need3 a b c = 0 then 0 else if e < need3 a b c then N else outs N (gOf (Ln N) a b c e) a b c 3 := by
  unfold Ln
  rw [Lf]
  split
  · rfl
  · split
    · rfl
    · refine outs_congr (fun f h1 h2 => ?_) (fun f h1 h2 => ?_) (fun f h1 h2 => ?_)
      · simp only [gOf, if_true]
        rw [Lf_fuel N _ ((f - 1 + b + c).toNat + 1) (f - 1) b c (e - 1) (by omega) hb hc (by omega) (by omega), Lf_fuel N _ ((a - f + b + c).toNat + 1) (a - f) b c e (by omega) hb hc (by omega) (by omega)]
      · simp only [gOf, show ¬ ((1 : Int) = 0) by decide, if_false, if_true]
        rw [Lf_fuel N _ ((a + (f - 1) + c).toNat + 1) a (f - 1) c (e - 1) ha (by omega) hc (by omega) (by omega), Lf_fuel N _ ((a + (b - f) + c).toNat + 1) a (b - f) c e ha (by omega) hc (by omega) (by omega)]
      · simp only [gOf, show ¬ ((2 : Int) = 0) by decide, show ¬ ((2 : Int) = 1) by decide, if_false]
        rw [Lf_fuel N _ ((a + b + (f - 1)).toNat + 1) a b (f - 1) (e - 1) ha hb (by omega) (by omega) (by omega), Lf_fuel N _ ((a + b + (c - f)).toNat + 1) a b (c - f) e ha hb (by omega) (by omega) (by omega)]

theorem need3_range (a b c : Int) : 0 ≤ need3 a b c ∧ need3 a b c ≤ 3 := by
  unfold need3
  split <;> split <;> split <;> omega

end Go.Proofs.Ytfemdpdnnifehaa.PH

set_option linter.unusedVariables false
set_option linter.unusedSimpArgs false
namespace Go.Proofs.Ytfemdpdnnifehaa.PH

/-- How many floors house h has. -/
def cnt (a b c h : Int) : Int := if h = 0 then a else if h = 1 then b else c
/-- The good plans' beginnings at floors 1 .. k of house h. -/
def goodsH (N : Int) (a b c e h : Int) : Nat → List (List Int)
  | 0 => []
  | k + 1 => goodsH N a b c e h k ++ (if gOf (Ln N) a b c e h ((k : Int) + 1) = Ln N a b c e then [[h, (k : Int) + 1]] else [])
/-- .. of the houses ahead of house n. -/
def goods (N : Int) (a b c e : Int) : Nat → List (List Int)
  | 0 => []
  | n + 1 => goods N a b c e n ++ goodsH N a b c e n (cnt a b c n).toNat
theorem goodsH_length (N a b c e h : Int) : ∀ k, (goodsH N a b c e h k).length ≤ k
  | 0 => Nat.le_refl _
  | k + 1 => by
    have := goodsH_length N a b c e h k
    simp only [goodsH, List.length_append]
    split <;> simp <;> omega
theorem goods_length (N a b c e : Int) (ha : a ≤ 8) (hb : b ≤ 8) (hc : c ≤ 8) : ∀ n, (goods N a b c e n).length ≤ 8 * n
  | 0 => Nat.le_refl _
  | n + 1 => by
    have h1 := goods_length N a b c e ha hb hc n
    have h2 := goodsH_length N a b c e n (cnt a b c n).toNat
    have h3 : cnt a b c n ≤ 8 := by unfold cnt; split; · exact ha
                                    · split <;> assumption
    simp only [goods, List.length_append]
    omega
theorem goodsH_hit (N a b c e h : Int) (f : Nat) (hf : 1 ≤ f) (hx : gOf (Ln N) a b c e h (f : Int) = Ln N a b c e) : goodsH N a b c e h (f - 1) ++ [[h, (f : Int)]] = goodsH N a b c e h (f + 1 - 1) := by
  obtain ⟨k, rfl⟩ : ∃ k, f = k + 1 := ⟨f - 1, by omega⟩
  simp only [Nat.add_sub_cancel, goodsH]
  rw [if_pos (by simpa using hx)]
  simp
theorem goodsH_miss (N a b c e h : Int) (f : Nat) (hf : 1 ≤ f) (hx : gOf (Ln N) a b c e h (f : Int) ≠ Ln N a b c e) : goodsH N a b c e h (f - 1) = goodsH N a b c e h (f + 1 - 1) := by
  obtain ⟨k, rfl⟩ : ∃ k, f = k + 1 := ⟨f - 1, by omega⟩
  simp only [Nat.add_sub_cancel, goodsH]
  rw [if_neg (by simpa using hx)]
  simp

theorem cnt_range {a b c h : Int} (ha1 : 0 ≤ a) (ha2 : a ≤ 8) (hb1 : 0 ≤ b) (hb2 : b ≤ 8) (hc1 : 0 ≤ c) (hc2 : c ≤ 8) : 0 ≤ cnt a b c h ∧ cnt a b c h ≤ 8 := by
  unfold cnt
  split
  · omega
  · split <;> omega
theorem cnt_cases {a b c h f : Int} (h0 : 0 ≤ h) (h1 : h < 3) (hf : f ≤ cnt a b c h) : h = 0 ∧ f ≤ a ∨ h = 1 ∧ f ≤ b ∨ h = 2 ∧ f ≤ c := by
  unfold cnt at hf
  have : h = 0 ∨ h = 1 ∨ h = 2 := by omega
  rcases this with rfl | rfl | rfl <;> simp at hf <;> simp [hf]

end Go.Proofs.Ytfemdpdnnifehaa.PH

set_option linter.unusedVariables false
set_option linter.unusedSimpArgs false
namespace Go.Proofs.Ytfemdpdnnifehaa.PH
open Go.RowKit Go.Proofs.YtfemdpdnnifehaaW.PrintWords Go.Proofs.YtfemdpdnnifehaaW.PrintLast

theorem mins_le_at {g : Int → Int} {o : Int} : ∀ {k : Nat} (f : Nat), 1 ≤ f → f ≤ k → mins g o k ≤ g (f : Int)
  | 0, f, h1, h2 => by omega
  | k + 1, f, h1, h2 => by
    simp only [mins]
    by_cases h : f = k + 1
    · subst h
      have : (((k + 1 : Nat)) : Int) = (k : Int) + 1 := by omega
      rw [this]; omega
    · have := mins_le_at (g := g) (o := o) (k := k) f h1 (by omega)
      omega
theorem mins_hit {g : Int → Int} {o : Int} : ∀ {k : Nat}, mins g o k = o ∨ ∃ f : Nat, 1 ≤ f ∧ f ≤ k ∧ mins g o k = g (f : Int)
  | 0 => .inl rfl
  | k + 1 => by
    simp only [mins]
    have h := mins_hit (g := g) (o := o) (k := k)
    by_cases hm : mins g o k ≤ g ((k : Int) + 1)
    · rw [Int.min_eq_left hm]
      rcases h with h | ⟨f, h1, h2, h3⟩
      · exact .inl h
      · exact .inr ⟨f, h1, by omega, h3⟩
    · rw [Int.min_eq_right (by omega)]
      exact .inr ⟨k + 1, by omega, by omega, by simp⟩

theorem outs_le_at {N : Int} {g : Int → Int → Int} {a b c : Int} (h f : Int) (h0 : 0 ≤ h) (h3 : h < 3) (hf1 : 1 ≤ f) (hf2 : f ≤ cnt a b c h) : outs N g a b c 3 ≤ g h f := by
  obtain ⟨n, rfl⟩ : ∃ n : Nat, f = n := ⟨f.toNat, by omega⟩
  simp only [outs]
  have : h = 0 ∨ h = 1 ∨ h = 2 := by omega
  rcases this with rfl | rfl | rfl <;> simp [cnt] at hf2
  · exact Int.le_trans mins_le (Int.le_trans mins_le (mins_le_at n (by omega) (by omega)))
  · exact Int.le_trans mins_le (mins_le_at n (by omega) (by omega))
  · exact mins_le_at n (by omega) (by omega)
theorem outs_hit {N : Int} {g : Int → Int → Int} {a b c : Int} : outs N g a b c 3 = N ∨ ∃ h f : Int, 0 ≤ h ∧ h < 3 ∧ 1 ≤ f ∧ f ≤ cnt a b c h ∧ outs N g a b c 3 = g h f := by
  simp only [outs]
  rcases mins_hit (g := g 2) (o := mins (g 1) (mins (g 0) N a.toNat) b.toNat) (k := c.toNat) with h | ⟨f, h1, h2, h3⟩
  · rw [h]
    rcases mins_hit (g := g 1) (o := mins (g 0) N a.toNat) (k := b.toNat) with h | ⟨f, h1, h2, h3⟩
    · rw [h]
      rcases mins_hit (g := g 0) (o := N) (k := a.toNat) with h | ⟨f, h1, h2, h3⟩
      · exact .inl h
      · exact .inr ⟨0, f, by omega, by omega, by omega, by simp [cnt]; omega, h3⟩
    · exact .inr ⟨1, f, by omega, by omega, by omega, by simp [cnt]; omega, h3⟩
  · exact .inr ⟨2, f, by omega, by omega, by omega, by simp [cnt]; omega, h3⟩

theorem need3_zero {a b c : Int} (ha : 0 ≤ a) (hb : 0 ≤ b) (hc : 0 ≤ c) (h : need3 a b c = 0) : a = 0 ∧ b = 0 ∧ c = 0 := by
  unfold need3 at h
  refine ⟨?_, ?_, ?_⟩ <;> (split at h <;> split at h <;> split at h <;> omega)

/-- Where the eggs do, there is a plan, of no more drops than floors. -/
theorem Ln_fin {N : Int} (hN : 24 < N) : ∀ (s : Nat) (a b c e : Int), 0 ≤ a → 0 ≤ b → 0 ≤ c → a + b + c < s → need3 a b c ≤ e → Ln N a b c e ≤ a + b + c := by
  intro s
  induction s with
  | zero => intro a b c e h1 h2 h3 h; omega
  | succ s ih =>
    intro a b c e ha hb hc hs hn
    rw [Ln_eq N a b c e ha hb hc]
    by_cases h0 : need3 a b c = 0
    · rw [if_pos h0]; omega
    · rw [if_neg h0, if_neg (by omega)]
      by_cases h1 : 0 < a
      · refine Int.le_trans (outs_le_at 0 1 (by omega) (by omega) (by omega) (by simp [cnt]; omega)) ?_
        have e1 : need3 (1 - 1) b c ≤ e - 1 := by unfold need3 at hn ⊢; simp [h1] at hn ⊢; omega
        have e2 : need3 (a - 1) b c ≤ e := by unfold need3 at hn ⊢; simp [h1] at hn; split <;> omega
        have i1 := ih (1 - 1) b c (e - 1) (by omega) hb hc (by omega) e1
        have i2 := ih (a - 1) b c e (by omega) hb hc (by omega) e2
        simp only [gOf, if_true]
        omega
      · by_cases h2 : 0 < b
        · refine Int.le_trans (outs_le_at 1 1 (by omega) (by omega) (by omega) (by simp [cnt]; omega)) ?_
          have e1 : need3 a (1 - 1) c ≤ e - 1 := by unfold need3 at hn ⊢; simp [h1, h2] at hn ⊢; omega
          have e2 : need3 a (b - 1) c ≤ e := by unfold need3 at hn ⊢; simp [h1, h2] at hn ⊢; split <;> omega
          have i1 := ih a (1 - 1) c (e - 1) ha (by omega) hc (by omega) e1
          have i2 := ih a (b - 1) c e ha (by omega) hc (by omega) e2
          simp only [gOf, show ¬ ((1 : Int) = 0) by decide, if_false, if_true]
          omega
        · have h3 : 0 < c := by
            by_cases h3 : 0 < c
            · exact h3
            · exact absurd (by unfold need3; simp [h1, h2, h3]) h0
          refine Int.le_trans (outs_le_at 2 1 (by omega) (by omega) (by omega) (by simp [cnt]; omega)) ?_
          have e1 : need3 a b (1 - 1) ≤ e - 1 := by unfold need3 at hn ⊢; simp [h1, h2, h3] at hn ⊢; omega
          have e2 : need3 a b (c - 1) ≤ e := by unfold need3 at hn ⊢; simp [h1, h2, h3] at hn ⊢; split <;> omega
          have i1 := ih a b (1 - 1) (e - 1) ha hb (by omega) (by omega) e1
          have i2 := ih a b (c - 1) e ha hb (by omega) (by omega) e2
          simp only [gOf, show ¬ ((2 : Int) = 0) by decide, show ¬ ((2 : Int) = 1) by decide, if_false]
          omega
theorem Ln_inf {N : Int} {a b c e : Int} (ha : 0 ≤ a) (hb : 0 ≤ b) (hc : 0 ≤ c) (h0 : need3 a b c ≠ 0) (he : e < need3 a b c) : Ln N a b c e = N := by
  rw [Ln_eq N a b c e ha hb hc, if_neg h0, if_pos he]
/-- The eggs do, if there is a plan. -/
theorem need_of_fin {N : Int} {a b c e : Int} (ha : 0 ≤ a) (hb : 0 ≤ b) (hc : 0 ≤ c) (he : 0 ≤ e) (h : Ln N a b c e < N) : need3 a b c ≤ e := by
  by_cases h0 : need3 a b c = 0
  · omega
  · by_cases h1 : e < need3 a b c
    · rw [Ln_inf ha hb hc h0 h1] at h; omega
    · omega

theorem goodsH_mem {N a b c e h : Int} : ∀ {k : Nat} {x : List Int}, x ∈ goodsH N a b c e h k → ∃ f : Int, 1 ≤ f ∧ f ≤ k ∧ gOf (Ln N) a b c e h f = Ln N a b c e ∧ x = [h, f]
  | 0, x, hx => by simp [goodsH] at hx
  | k + 1, x, hx => by
    simp only [goodsH, List.mem_append] at hx
    rcases hx with hx | hx
    · obtain ⟨f, h1, h2, h3⟩ := goodsH_mem hx
      exact ⟨f, h1, by omega, h3⟩
    · split at hx
      · rename_i hg
        simp at hx
        exact ⟨(k : Int) + 1, by omega, by omega, hg, hx⟩
      · simp at hx
theorem goodsH_has {N a b c e h f : Int} (hf1 : 1 ≤ f) (hg : gOf (Ln N) a b c e h f = Ln N a b c e) : ∀ {k : Nat}, f ≤ k → [h, f] ∈ goodsH N a b c e h k
  | 0, hk => by omega
  | k + 1, hk => by
    simp only [goodsH, List.mem_append]
    by_cases he : f = (k : Int) + 1
    · subst he
      rw [if_pos hg]
      exact .inr (by simp)
    · exact .inl (goodsH_has hf1 hg (by omega))
theorem goods_mem {N a b c e : Int} : ∀ {n : Nat} {x : List Int}, x ∈ goods N a b c e n → ∃ h f : Int, 0 ≤ h ∧ h < n ∧ 1 ≤ f ∧ f ≤ cnt a b c h ∧ gOf (Ln N) a b c e h f = Ln N a b c e ∧ x = [h, f]
  | 0, x, hx => by simp [goods] at hx
  | n + 1, x, hx => by
    simp only [goods, List.mem_append] at hx
    rcases hx with hx | hx
    · obtain ⟨h, f, h1, h2, h3⟩ := goods_mem hx
      exact ⟨h, f, h1, by omega, h3⟩
    · obtain ⟨f, h1, h2, h3, h4⟩ := goodsH_mem hx
      exact ⟨n, f, by omega, by omega, h1, by omega, h3, h4⟩
theorem goods_has {N a b c e h f : Int} (h0 : 0 ≤ h) (hf1 : 1 ≤ f) (hf2 : f ≤ cnt a b c h) (hg : gOf (Ln N) a b c e h f = Ln N a b c e) : ∀ {n : Nat}, h < n → [h, f] ∈ goods N a b c e n
  | 0, hk => by omega
  | n + 1, hk => by
    simp only [goods, List.mem_append]
    by_cases he : h = (n : Int)
    · subst he
      exact .inr (goodsH_has hf1 hg (by omega))
    · exact .inl (goods_has h0 hf1 hf2 hg (by omega))

/-- The first good drop. -/
theorem goods_first {N a b c e : Int} (hN : 24 < N) (ha1 : 0 ≤ a) (ha2 : a ≤ 8) (hb1 : 0 ≤ b) (hb2 : b ≤ 8) (hc1 : 0 ≤ c) (hc2 : c ≤ 8) (h0 : need3 a b c ≠ 0) (hn : need3 a b c ≤ e) :
    ∃ (h f : Int) (rest : List (List Int)), goods N a b c e 3 = [h, f] :: rest ∧ 0 ≤ h ∧ h < 3 ∧ 1 ≤ f ∧ f ≤ cnt a b c h ∧ gOf (Ln N) a b c e h f = Ln N a b c e := by
  have hfin := Ln_fin hN ((a + b + c).toNat + 1) a b c e ha1 hb1 hc1 (by omega) hn
  have heq := Ln_eq N a b c e ha1 hb1 hc1
  rw [if_neg h0, if_neg (by omega)] at heq
  obtain ⟨h, f, p1, p2, p3, p4, p5⟩ : ∃ h f : Int, 0 ≤ h ∧ h < 3 ∧ 1 ≤ f ∧ f ≤ cnt a b c h ∧ outs N (gOf (Ln N) a b c e) a b c 3 = gOf (Ln N) a b c e h f := by
    rcases outs_hit (N := N) (g := gOf (Ln N) a b c e) (a := a) (b := b) (c := c) with h | h
    · omega
    · exact h
  have hm := goods_has p1 p3 p4 (p5.symm.trans heq.symm) (n := 3) p2
  cases hg : goods N a b c e 3 with
  | nil => rw [hg] at hm; simp at hm
  | cons x rest =>
    obtain ⟨h, f, q1, q2, q3, q4, q5, rfl⟩ := goods_mem (n := 3) (show x ∈ goods N a b c e 3 by rw [hg]; simp)
    exact ⟨h, f, rest, rfl, q1, q2, q3, q4, q5⟩

/-- x, y, z with v at q. -/
def set3 (x y z q v : Int) (h : Int) : Int := if h = q then v else cnt x y z h

/-- The drops of a plan for breaks br: a, b, c are left, with e eggs, above x, y, z. -/
def plays (N : Int) : Nat → Int → Int → Int → Int → Int → Int → Int → List Int → List S51
  | 0, _, _, _, _, _, _, _, _ => []
  | k + 1, a, b, c, e, x, y, z, br =>
    if need3 a b c = 0 then [] else
      let first := (goods N a b c e 3).getD 0 []
      let q := rd first 0
      let f := rd first 1
      let fl := cnt x y z q + f
      if fl > rd br q then
        ⟨q, fl, true⟩ :: plays N k (set3 a b c q (f - 1) 0) (set3 a b c q (f - 1) 1) (set3 a b c q (f - 1) 2) (e - 1) x y z br
      else
        ⟨q, fl, false⟩ :: plays N k (set3 a b c q (cnt a b c q - f) 0) (set3 a b c q (cnt a b c q - f) 1) (set3 a b c q (cnt a b c q - f) 2) e (set3 x y z q fl 0) (set3 x y z q fl 1) (set3 x y z q fl 2) br

end Go.Proofs.Ytfemdpdnnifehaa.PH

set_option linter.unusedVariables false
set_option linter.unusedSimpArgs false
namespace Go.Proofs.Ytfemdpdnnifehaa.PH
open Go.RowKit Go.Proofs.YtfemdpdnnifehaaW.PrintWords Go.Proofs.YtfemdpdnnifehaaW.PrintLast

theorem plays_broken {N : Int} {k : Nat} {a b c e x y z q f : Int} {br : List Int} {rest : List (List Int)} (h0 : need3 a b c ≠ 0) (hg : goods N a b c e 3 = [q, f] :: rest) (hb : rd br q < cnt x y z q + f) :
    plays N (k + 1) a b c e x y z br = ⟨q, cnt x y z q + f, true⟩ :: plays N k (set3 a b c q (f - 1) 0) (set3 a b c q (f - 1) 1) (set3 a b c q (f - 1) 2) (e - 1) x y z br := by
  simp only [plays]
  rw [if_neg h0, hg]
  simp only [List.getD_cons_zero]
  have e0 : rd [q, f] 0 = q := rfl
  have e1 : rd [q, f] 1 = f := rfl
  rw [e0, e1, if_pos hb]
theorem plays_whole {N : Int} {k : Nat} {a b c e x y z q f : Int} {br : List Int} {rest : List (List Int)} (h0 : need3 a b c ≠ 0) (hg : goods N a b c e 3 = [q, f] :: rest) (hb : ¬ rd br q < cnt x y z q + f) :
    plays N (k + 1) a b c e x y z br = ⟨q, cnt x y z q + f, false⟩ :: plays N k (set3 a b c q (cnt a b c q - f) 0) (set3 a b c q (cnt a b c q - f) 1) (set3 a b c q (cnt a b c q - f) 2) e (set3 x y z q (cnt x y z q + f) 0) (set3 x y z q (cnt x y z q + f) 1) (set3 x y z q (cnt x y z q + f) 2) br := by
  simp only [plays]
  rw [if_neg h0, hg]
  simp only [List.getD_cons_zero]
  have e0 : rd [q, f] 0 = q := rfl
  have e1 : rd [q, f] 1 = f := rfl
  rw [e0, e1, if_neg hb]

theorem set3_00 (a b c v : Int) : set3 a b c 0 v 0 = v := rfl
theorem set3_01 (a b c v : Int) : set3 a b c 0 v 1 = b := rfl
theorem set3_02 (a b c v : Int) : set3 a b c 0 v 2 = c := rfl
theorem set3_10 (a b c v : Int) : set3 a b c 1 v 0 = a := rfl
theorem set3_11 (a b c v : Int) : set3 a b c 1 v 1 = v := rfl
theorem set3_12 (a b c v : Int) : set3 a b c 1 v 2 = c := rfl
theorem set3_20 (a b c v : Int) : set3 a b c 2 v 0 = a := rfl
theorem set3_21 (a b c v : Int) : set3 a b c 2 v 1 = b := rfl
theorem set3_22 (a b c v : Int) : set3 a b c 2 v 2 = v := rfl
theorem cnt_0 (a b c : Int) : cnt a b c 0 = a := rfl
theorem cnt_1 (a b c : Int) : cnt a b c 1 = b := rfl
theorem cnt_2 (a b c : Int) : cnt a b c 2 = c := rfl
/-- Both parts of a good drop can be settled with the eggs that are left. -/
theorem good_needs {N : Int} {a b c e q f : Int} (hN : 24 < N) (ha1 : 0 ≤ a) (ha2 : a ≤ 8) (hb1 : 0 ≤ b) (hb2 : b ≤ 8) (hc1 : 0 ≤ c) (hc2 : c ≤ 8) (h0 : need3 a b c ≠ 0) (hn : need3 a b c ≤ e)
    (hq0 : 0 ≤ q) (hq3 : q < 3) (hf1 : 1 ≤ f) (hf2 : f ≤ cnt a b c q) (hg : gOf (Ln N) a b c e q f = Ln N a b c e) :
    need3 (set3 a b c q (f - 1) 0) (set3 a b c q (f - 1) 1) (set3 a b c q (f - 1) 2) ≤ e - 1 ∧ need3 (set3 a b c q (cnt a b c q - f) 0) (set3 a b c q (cnt a b c q - f) 1) (set3 a b c q (cnt a b c q - f) 2) ≤ e := by
  have hfin := Ln_fin hN ((a + b + c).toNat + 1) a b c e ha1 hb1 hc1 (by omega) hn
  have hr := need3_range a b c
  rw [← hg] at hfin
  have hqc : q = 0 ∨ q = 1 ∨ q = 2 := by omega
  rcases hqc with rfl | rfl | rfl <;> simp [cnt] at hf2 <;> simp [set3, cnt] <;> simp [gOf] at hfin
  · exact ⟨need_of_fin (N := N) (by omega) hb1 hc1 (by omega) (by omega), need_of_fin (N := N) (by omega) hb1 hc1 (by omega) (by omega)⟩
  · exact ⟨need_of_fin (N := N) ha1 (by omega) hc1 (by omega) (by omega), need_of_fin (N := N) ha1 (by omega) hc1 (by omega) (by omega)⟩
  · exact ⟨need_of_fin (N := N) ha1 hb1 (by omega) (by omega) (by omega), need_of_fin (N := N) ha1 hb1 (by omega) (by omega) (by omega)⟩

/-- What a play's round holds of numbers. -/
def NumRel (k : Nat) (a b c e x y z : Int) (br : List Int) (m : Nat) : Prop :=
  (0 ≤ a ∧ 0 ≤ x ∧ x + a ≤ 8) ∧ (0 ≤ b ∧ 0 ≤ y ∧ y + b ≤ 8) ∧ (0 ≤ c ∧ 0 ≤ z ∧ z + c ≤ 8) ∧ need3 a b c ≤ e ∧ e ≤ 6 ∧ ((br.length : Int) ≤ 0 → a = 0) ∧ ((br.length : Int) ≤ 1 → b = 0) ∧ ((br.length : Int) ≤ 2 → c = 0) ∧ a + b + c < k ∧ (m : Int) + a + b + c ≤ 24

theorem num_broken {N : Int} {k : Nat} {a b c e x y z q f : Int} {br : List Int} {m : Nat} (hN : 24 < N) (h : NumRel (k + 1) a b c e x y z br m) (h0 : need3 a b c ≠ 0) (hq0 : 0 ≤ q) (hq3 : q < 3) (hf1 : 1 ≤ f) (hf2 : f ≤ cnt a b c q)
    (hg : gOf (Ln N) a b c e q f = Ln N a b c e) (hlen : q < (br.length : Int)) :
    NumRel k (set3 a b c q (f - 1) 0) (set3 a b c q (f - 1) 1) (set3 a b c q (f - 1) 2) (e - 1) x y z br (m + 1) := by
  obtain ⟨⟨h1, h2, h3⟩, ⟨h4, h5, h6⟩, ⟨h7, h8, h9⟩, hn, he, hb0, hb1, hb2, hk, hm⟩ := h
  have hg2 := (good_needs hN h1 (by omega) h4 (by omega) h7 (by omega) h0 hn hq0 hq3 hf1 hf2 hg).1
  have hqc : q = 0 ∨ q = 1 ∨ q = 2 := by omega
  unfold NumRel
  rcases hqc with rfl | rfl | rfl <;> simp [cnt] at hf2 <;> simp only [set3_00, set3_01, set3_02, set3_10, set3_11, set3_12, set3_20, set3_21, set3_22, cnt_0, cnt_1, cnt_2] at hg2 ⊢ <;> refine ⟨by omega, by omega, by omega, hg2, by omega, ?_, ?_, ?_, by omega, by omega⟩ <;> intro hh <;> first | omega | (exact hb0 hh) | (exact hb1 hh) | (exact hb2 hh) | (exact hb0 (by omega)) | (exact hb1 (by omega)) | (exact hb2 (by omega))
theorem num_whole {N : Int} {k : Nat} {a b c e x y z q f : Int} {br : List Int} {m : Nat} (hN : 24 < N) (h : NumRel (k + 1) a b c e x y z br m) (h0 : need3 a b c ≠ 0) (hq0 : 0 ≤ q) (hq3 : q < 3) (hf1 : 1 ≤ f) (hf2 : f ≤ cnt a b c q)
    (hg : gOf (Ln N) a b c e q f = Ln N a b c e) (hlen : q < (br.length : Int)) :
    NumRel k (set3 a b c q (cnt a b c q - f) 0) (set3 a b c q (cnt a b c q - f) 1) (set3 a b c q (cnt a b c q - f) 2) e (set3 x y z q (cnt x y z q + f) 0) (set3 x y z q (cnt x y z q + f) 1) (set3 x y z q (cnt x y z q + f) 2) br (m + 1) := by
  obtain ⟨⟨h1, h2, h3⟩, ⟨h4, h5, h6⟩, ⟨h7, h8, h9⟩, hn, he, hb0, hb1, hb2, hk, hm⟩ := h
  have hg2 := (good_needs hN h1 (by omega) h4 (by omega) h7 (by omega) h0 hn hq0 hq3 hf1 hf2 hg).2
  have hqc : q = 0 ∨ q = 1 ∨ q = 2 := by omega
  unfold NumRel
  rcases hqc with rfl | rfl | rfl <;> simp [cnt] at hf2 <;> simp only [set3_00, set3_01, set3_02, set3_10, set3_11, set3_12, set3_20, set3_21, set3_22, cnt_0, cnt_1, cnt_2] at hg2 ⊢ <;> refine ⟨by omega, by omega, by omega, hg2, by omega, ?_, ?_, ?_, by omega, by omega⟩ <;> intro hh <;> first | omega | (exact hb0 hh) | (exact hb1 hh) | (exact hb2 hh) | (exact hb0 (by omega)) | (exact hb1 (by omega)) | (exact hb2 (by omega))

end Go.Proofs.Ytfemdpdnnifehaa.PH

set_option linter.unusedVariables false
set_option linter.unusedSimpArgs false
namespace Go.Proofs.Ytfemdpdnnifehaa.PH
open Go.RowKit Go.Proofs.YtfemdpdnnifehaaW.PrintWords Go.Proofs.YtfemdpdnnifehaaW.PrintLast

/-- What is left of a drop's two ends, as one: where both can be settled. -/
theorem gOf_set (L : Int → Int → Int → Int → Int) (a b c e q f : Int) (hq0 : 0 ≤ q) (hq3 : q < 3) :
    gOf L a b c e q f = 1 + max (L (set3 a b c q (f - 1) 0) (set3 a b c q (f - 1) 1) (set3 a b c q (f - 1) 2) (e - 1)) (L (set3 a b c q (cnt a b c q - f) 0) (set3 a b c q (cnt a b c q - f) 1) (set3 a b c q (cnt a b c q - f) 2) e) := by
  have hqc : q = 0 ∨ q = 1 ∨ q = 2 := by omega
  rcases hqc with rfl | rfl | rfl <;> rfl

theorem set3_range {a b c q v : Int} (ha1 : 0 ≤ a) (hb1 : 0 ≤ b) (hc1 : 0 ≤ c) (hv : 0 ≤ v) (h : Int) : 0 ≤ set3 a b c q v h := by
  unfold set3 cnt
  split
  · exact hv
  · split
    · exact ha1
    · split <;> assumption
theorem set3_sum {a b c q v : Int} (hq0 : 0 ≤ q) (hq3 : q < 3) : set3 a b c q v 0 + set3 a b c q v 1 + set3 a b c q v 2 = a + b + c - cnt a b c q + v := by
  have hqc : q = 0 ∨ q = 1 ∨ q = 2 := by omega
  rcases hqc with rfl | rfl | rfl <;> simp only [set3_00, set3_01, set3_02, set3_10, set3_11, set3_12, set3_20, set3_21, set3_22, cnt_0, cnt_1, cnt_2] <;> omega

theorem gOf_fin {N : Int} (hN : 0 ≤ N) {a b c e q f : Int} (hq0 : 0 ≤ q) (hq3 : q < 3) (ha1 : 0 ≤ a) (hb1 : 0 ≤ b) (hc1 : 0 ≤ c) (he : 1 ≤ e) (hf1 : 1 ≤ f) (hf2 : f ≤ cnt a b c q) (h : gOf (Ln N) a b c e q f ≤ N) :
    need3 (set3 a b c q (f - 1) 0) (set3 a b c q (f - 1) 1) (set3 a b c q (f - 1) 2) ≤ e - 1 ∧ need3 (set3 a b c q (cnt a b c q - f) 0) (set3 a b c q (cnt a b c q - f) 1) (set3 a b c q (cnt a b c q - f) 2) ≤ e := by
  rw [gOf_set _ _ _ _ _ _ _ hq0 hq3] at h
  exact ⟨need_of_fin (N := N) (set3_range ha1 hb1 hc1 (by omega) 0) (set3_range ha1 hb1 hc1 (by omega) 1) (set3_range ha1 hb1 hc1 (by omega) 2) (by omega) (by omega),
    need_of_fin (N := N) (set3_range ha1 hb1 hc1 (by omega) 0) (set3_range ha1 hb1 hc1 (by omega) 1) (set3_range ha1 hb1 hc1 (by omega) 2) (by omega) (by omega)⟩

theorem Ln_agree_le {N M : Int} (hN : 24 < N) (hM : 24 < M) : ∀ (s : Nat) (a b c e : Int), 0 ≤ a → 0 ≤ b → 0 ≤ c → a + b + c < s → a + b + c ≤ 24 → need3 a b c ≤ e → Ln N a b c e = Ln M a b c e := by
  intro s
  induction s with
  | zero => intro a b c e h1 h2 h3 h; omega
  | succ s ih =>
    intro a b c e ha hb hc hs h24 hn
    by_cases h0 : need3 a b c = 0
    · rw [Ln_eq N a b c e ha hb hc, Ln_eq M a b c e ha hb hc, if_pos h0, if_pos h0]
    · have hr := need3_range a b c
      have side : ∀ (A B : Int), 24 < A → 24 < B → (∀ (a b c e : Int), 0 ≤ a → 0 ≤ b → 0 ≤ c → a + b + c < s → a + b + c ≤ 24 → need3 a b c ≤ e → Ln A a b c e = Ln B a b c e) → Ln A a b c e ≤ Ln B a b c e := by
        intro A B hA hB ihAB
        have hfin := Ln_fin hB ((a + b + c).toNat + 1) a b c e ha hb hc (by omega) hn
        have heq := Ln_eq B a b c e ha hb hc
        rw [if_neg h0, if_neg (by omega)] at heq
        rcases outs_hit (N := B) (g := gOf (Ln B) a b c e) (a := a) (b := b) (c := c) with h | ⟨q, f, p1, p2, p3, p4, p5⟩
        · omega
        · have hg : gOf (Ln B) a b c e q f = Ln B a b c e := p5.symm.trans heq.symm
          obtain ⟨m1, m2⟩ := gOf_fin (N := B) (e := e) (f := f) (by omega) p1 p2 ha hb hc (by omega) p3 p4 (by omega)
          have hc2 : 0 ≤ cnt a b c q := by omega
          have s1 := set3_sum (a := a) (b := b) (c := c) (v := f - 1) p1 p2
          have s2 := set3_sum (a := a) (b := b) (c := c) (v := cnt a b c q - f) p1 p2
          have r1 := ihAB (set3 a b c q (f - 1) 0) (set3 a b c q (f - 1) 1) (set3 a b c q (f - 1) 2) (e - 1) (set3_range ha hb hc (by omega) 0) (set3_range ha hb hc (by omega) 1) (set3_range ha hb hc (by omega) 2) (by omega) (by omega) m1
          have r2 := ihAB (set3 a b c q (cnt a b c q - f) 0) (set3 a b c q (cnt a b c q - f) 1) (set3 a b c q (cnt a b c q - f) 2) e (set3_range ha hb hc (by omega) 0) (set3_range ha hb hc (by omega) 1) (set3_range ha hb hc (by omega) 2) (by omega) (by omega) m2
          rw [← hg, gOf_set _ _ _ _ _ _ _ p1 p2, ← r1, ← r2, ← gOf_set _ _ _ _ _ _ _ p1 p2]
          rw [Ln_eq A a b c e ha hb hc, if_neg h0, if_neg (by omega)]
          exact outs_le_at q f p1 p2 p3 p4
      exact Int.le_antisymm (side N M hN hM ih) (side M N hM hN (fun a b c e h1 h2 h3 h4 h5 h6 => (ih a b c e h1 h2 h3 h4 h5 h6).symm))

theorem Ln_agree {N M : Int} (hN : 24 < N) (hM : 24 < M) {a b c e : Int} (ha : 0 ≤ a) (hb : 0 ≤ b) (hc : 0 ≤ c) (h24 : a + b + c ≤ 24) (hn : need3 a b c ≤ e) : Ln N a b c e = Ln M a b c e :=
  Ln_agree_le hN hM ((a + b + c).toNat + 1) a b c e ha hb hc (by omega) h24 hn

/-- A good drop is one for both. -/
theorem good_iff {N M : Int} (hN : 24 < N) (hM : 24 < M) {a b c e q f : Int} (ha : 0 ≤ a) (hb : 0 ≤ b) (hc : 0 ≤ c) (h24 : a + b + c ≤ 24) (h0 : need3 a b c ≠ 0) (hn : need3 a b c ≤ e) (hq0 : 0 ≤ q) (hq3 : q < 3) (hf1 : 1 ≤ f) (hf2 : f ≤ cnt a b c q)
    (h : gOf (Ln N) a b c e q f = Ln N a b c e) : gOf (Ln M) a b c e q f = Ln M a b c e := by
  have hr := need3_range a b c
  have hfin := Ln_fin hN ((a + b + c).toNat + 1) a b c e ha hb hc (by omega) hn
  obtain ⟨m1, m2⟩ := gOf_fin (N := N) (e := e) (f := f) (by omega) hq0 hq3 ha hb hc (by omega) hf1 hf2 (by omega)
  have s1 := set3_sum (a := a) (b := b) (c := c) (v := f - 1) hq0 hq3
  have s2 := set3_sum (a := a) (b := b) (c := c) (v := cnt a b c q - f) hq0 hq3
  have r1 := Ln_agree hN hM (set3_range ha hb hc (q := q) (v := f - 1) (by omega) 0) (set3_range ha hb hc (by omega) 1) (set3_range ha hb hc (by omega) 2) (by omega) m1
  have r2 := Ln_agree hN hM (set3_range ha hb hc (q := q) (v := cnt a b c q - f) (by omega) 0) (set3_range ha hb hc (by omega) 1) (set3_range ha hb hc (by omega) 2) (by omega) m2
  rw [gOf_set _ _ _ _ _ _ _ hq0 hq3, ← r1, ← r2, ← gOf_set _ _ _ _ _ _ _ hq0 hq3, h]
  exact Ln_agree hN hM ha hb hc h24 hn

theorem goodsH_agree {N M : Int} (hN : 24 < N) (hM : 24 < M) {a b c e q : Int} (ha : 0 ≤ a) (hb : 0 ≤ b) (hc : 0 ≤ c) (h24 : a + b + c ≤ 24) (h0 : need3 a b c ≠ 0) (hn : need3 a b c ≤ e) (hq0 : 0 ≤ q) (hq3 : q < 3) :
    ∀ (k : Nat), (k : Int) ≤ cnt a b c q → goodsH N a b c e q k = goodsH M a b c e q k
  | 0, _ => rfl
  | k + 1, hk => by
    simp only [goodsH]
    rw [goodsH_agree hN hM ha hb hc h24 h0 hn hq0 hq3 k (by omega)]
    congr 1
    by_cases h : gOf (Ln N) a b c e q ((k : Int) + 1) = Ln N a b c e
    · rw [if_pos h, if_pos (good_iff hN hM ha hb hc h24 h0 hn hq0 hq3 (by omega) (by omega) h)]
    · rw [if_neg h, if_neg (fun h2 => h (good_iff hM hN ha hb hc h24 h0 hn hq0 hq3 (by omega) (by omega) h2))]
theorem goods_agree {N M : Int} (hN : 24 < N) (hM : 24 < M) {a b c e : Int} (ha : 0 ≤ a) (hb : 0 ≤ b) (hc : 0 ≤ c) (h24 : a + b + c ≤ 24) (h0 : need3 a b c ≠ 0) (hn : need3 a b c ≤ e) :
    ∀ (n : Nat), n ≤ 3 → goods N a b c e n = goods M a b c e n
  | 0, _ => rfl
  | n + 1, hn3 => by
    simp only [goods]
    have hc2 : 0 ≤ cnt a b c n := by unfold cnt; split; · exact ha
                                     · split <;> assumption
    rw [goods_agree hN hM ha hb hc h24 h0 hn n (by omega), goodsH_agree hN hM ha hb hc h24 h0 hn (by omega) (by omega) _ (by omega)]

theorem plays_agree {N M : Int} (hN : 24 < N) (hM : 24 < M) : ∀ (k : Nat) (a b c e x y z : Int) (br : List Int) (m : Nat), NumRel k a b c e x y z br m → plays N k a b c e x y z br = plays M k a b c e x y z br := by
  intro k
  induction k with
  | zero => intro a b c e x y z br m h; rfl
  | succ k ih =>
    intro a b c e x y z br m h
    by_cases h0 : need3 a b c = 0
    · simp only [plays, if_pos h0]
    · obtain ⟨⟨h1, h2, h3⟩, ⟨h4, h5, h6⟩, ⟨h7, h8, h9⟩, hn, he, hb0, hb1, hb2, hk, hm⟩ := id h
      obtain ⟨q, f, rest, hgs, hq0, hq3, hf1, hf2, hgg⟩ := goods_first (N := N) hN h1 (by omega) h4 (by omega) h7 (by omega) h0 hn
      have hgs2 : goods M a b c e 3 = [q, f] :: rest := by rw [← goods_agree hN hM h1 h4 h7 (by omega) h0 hn 3 (Nat.le_refl _)]; exact hgs
      have hlen : q < (br.length : Int) := by
        rcases cnt_cases hq0 hq3 hf2 with ⟨rfl, h⟩ | ⟨rfl, h⟩ | ⟨rfl, h⟩
        · by_cases hh : (br.length : Int) ≤ 0
          · have := hb0 hh; omega
          · omega
        · by_cases hh : (br.length : Int) ≤ 1
          · have := hb1 hh; omega
          · omega
        · by_cases hh : (br.length : Int) ≤ 2
          · have := hb2 hh; omega
          · omega
      by_cases hbk : rd br q < cnt x y z q + f
      · rw [plays_broken h0 hgs hbk, plays_broken h0 hgs2 hbk, ih _ _ _ _ _ _ _ _ _ (num_broken hN h h0 hq0 hq3 hf1 hf2 hgg hlen)]
      · rw [plays_whole h0 hgs hbk, plays_whole h0 hgs2 hbk, ih _ _ _ _ _ _ _ _ _ (num_whole hN h h0 hq0 hq3 hf1 hf2 hgg hlen)]

/-- More rounds than floors turn nothing. -/
theorem plays_length {N : Int} (hN : 24 < N) : ∀ (k : Nat) (a b c e x y z : Int) (br : List Int) (m : Nat), NumRel k a b c e x y z br m → ((plays N k a b c e x y z br).length : Int) ≤ a + b + c := by
  intro k
  induction k with
  | zero => intro a b c e x y z br m h; obtain ⟨⟨h1, _⟩, ⟨h2, _⟩, ⟨h3, _⟩, _⟩ := h; simp [plays]; omega
  | succ k ih =>
    intro a b c e x y z br m h
    obtain ⟨⟨h1, h2, h3⟩, ⟨h4, h5, h6⟩, ⟨h7, h8, h9⟩, hn, he, hb0, hb1, hb2, hk, hm⟩ := id h
    by_cases h0 : need3 a b c = 0
    · simp only [plays, if_pos h0, List.length_nil]; omega
    · obtain ⟨q, f, rest, hgs, hq0, hq3, hf1, hf2, hgg⟩ := goods_first (N := N) hN h1 (by omega) h4 (by omega) h7 (by omega) h0 hn
      have hlen : q < (br.length : Int) := by
        rcases cnt_cases hq0 hq3 hf2 with ⟨rfl, h⟩ | ⟨rfl, h⟩ | ⟨rfl, h⟩
        · by_cases hh : (br.length : Int) ≤ 0
          · have := hb0 hh; omega
          · omega
        · by_cases hh : (br.length : Int) ≤ 1
          · have := hb1 hh; omega
          · omega
        · by_cases hh : (br.length : Int) ≤ 2
          · have := hb2 hh; omega
          · omega
      have s1 := set3_sum (a := a) (b := b) (c := c) (v := f - 1) hq0 hq3
      have s2 := set3_sum (a := a) (b := b) (c := c) (v := cnt a b c q - f) hq0 hq3
      by_cases hbk : rd br q < cnt x y z q + f
      · have := ih _ _ _ _ _ _ _ _ _ (num_broken hN h h0 hq0 hq3 hf1 hf2 hgg hlen)
        rw [plays_broken h0 hgs hbk, List.length_cons]
        omega
      · have := ih _ _ _ _ _ _ _ _ _ (num_whole hN h h0 hq0 hq3 hf1 hf2 hgg hlen)
        rw [plays_whole h0 hgs hbk, List.length_cons]
        omega

end Go.Proofs.Ytfemdpdnnifehaa.PH
