/- Numbers alone: what the reference's plays are, and who is asked. No program's walk. -/
import Derived.Test.YtfemdpdnnifehaaPHx0
import Derived.Test.YtfemdpdnnifehaaPHx1
import Derived.Test.YtfemdpdnnifehaaPHx2
import Derived.Test.YtfemdpdnnifehaaPHx3
import Derived.Test.YtfemdpdnnifehaaPHx4
import Derived.Test.YtfemdpdnnifehaaPHx5
import Derived.Test.YtfemdpdnnifehaaPHx6
import Derived.Test.YtfemdpdnnifehaaPHx7
import Derived.Test.YtfemdpdnnifehaaPHx8
import Derived.Test.YtfemdpdnnifehaaPHx10
import Derived.Test.YtfemdpdnnifehaaPHx11
import Derived.Test.YtfemdpdnnifehaaPHx12
import Derived.Test.YtfemdpdnnifehaaHPur
import Derived.Test.YtfemdpdnnifehaaHIdx
-- NEEDS HPur
-- NEEDS HIdx
set_option linter.unusedVariables false
set_option linter.unusedSimpArgs false
namespace Go.Proofs.Ytfemdpdnnifehaa.PH
open Go.RowKit Go.Proofs.YtfemdpdnnifehaaW.PrintWords Go.Proofs.YtfemdpdnnifehaaW.PrintLast

theorem w64 {x : Int} (h1 : -1000000000 ≤ x) (h2 : x ≤ 1000000000) : wrap64 x = x := by unfold wrap64; omega

/-- Houses: one to three, of up to eight floors. -/
def VL (l : List Int) : Prop := (1 ≤ l.length ∧ l.length ≤ 3) ∧ ∀ x ∈ l, 0 ≤ x ∧ x ≤ 8
theorem VL.cases {l : List Int} (h : VL l) : (∃ a, l = [a]) ∨ (∃ a b, l = [a, b]) ∨ ∃ a b c, l = [a, b, c] := by
  obtain ⟨⟨h1, h2⟩, _⟩ := h
  match l, h1, h2 with
  | [a], _, _ => exact .inl ⟨a, rfl⟩
  | [a, b], _, _ => exact .inr (.inl ⟨a, b, rfl⟩)
  | [a, b, c], _, _ => exact .inr (.inr ⟨a, b, c, rfl⟩)
theorem VL.val {l : List Int} (h : VL l) (i : Int) : 0 ≤ rd l i ∧ rd l i ≤ 8 := by
  unfold rd
  by_cases hi : i.toNat < l.length
  · rw [List.getD_eq_getElem?_getD, List.getElem?_eq_getElem hi]
    exact h.2 _ (List.getElem_mem hi)
  · rw [List.getD_eq_getElem?_getD, List.getElem?_eq_none (by omega)]
    simp
theorem rd_out {l : List Int} {i : Int} (h : (l.length : Int) ≤ i) : rd l i = 0 := by
  unfold rd
  rw [List.getD_eq_getElem?_getD, List.getElem?_eq_none (by omega)]
  rfl
theorem cnt_rd {l : List Int} {q : Int} (h0 : 0 ≤ q) (h3 : q < 3) : cnt (rd l 0) (rd l 1) (rd l 2) q = rd l q := by
  have hqc : q = 0 ∨ q = 1 ∨ q = 2 := by omega
  rcases hqc with rfl | rfl | rfl <;> rfl
theorem rd_set (l : List Int) (q v h : Int) (h0 : 0 ≤ q) (hq : q < (l.length : Int)) (hh : 0 ≤ h) : rd (l.set q.toNat v) h = if h = q then v else rd l h := by
  unfold rd
  rw [List.getD_eq_getElem?_getD, List.getD_eq_getElem?_getD, List.getElem?_set]
  by_cases e : h = q
  · subst e
    rw [if_pos rfl, if_pos (by omega), if_pos rfl]
    rfl
  · rw [if_neg (by omega), if_neg e]
theorem set3_rd (l : List Int) (q v h : Int) (h0 : 0 ≤ q) (hq : q < (l.length : Int)) (hl : l.length ≤ 3) (hh : 0 ≤ h) (hh3 : h < 3) : rd (l.set q.toNat v) h = set3 (rd l 0) (rd l 1) (rd l 2) q v h := by
  rw [rd_set l q v h h0 hq hh]
  unfold set3
  split
  · rfl
  · rw [cnt_rd hh hh3]
theorem VL.set {l : List Int} (h : VL l) {q v : Int} (hv0 : 0 ≤ v) (hv8 : v ≤ 8) : VL (l.set q.toNat v) :=
  ⟨by simpa using h.1, fun x hx => by
    rcases List.mem_or_eq_of_mem_set hx with hx | hx
    · exact h.2 x hx
    · subst hx; exact ⟨hv0, hv8⟩⟩

theorem needed_ev (l : List Int) (h : VL l) : Ev (fun k => spec_hoNeeded.f k l) (need3 (rd l 0) (rd l 1) (rd l 2)) := by
  refine Ev.of (spec_hoNeeded.mono l) (k := 5) ?_
  rcases h.cases with ⟨a, rfl⟩ | ⟨a, b, rfl⟩ | ⟨a, b, c, rfl⟩
  · unfold need3
    by_cases h1 : a > 0 <;> simp [spec_hoNeeded.f, spec_hoNeeded.l0, rd, h1, wrap64]
  · unfold need3
    by_cases h1 : a > 0 <;> by_cases h2 : b > 0 <;> simp [spec_hoNeeded.f, spec_hoNeeded.l0, rd, h1, h2, wrap64]
  · unfold need3
    by_cases h1 : a > 0 <;> by_cases h2 : b > 0 <;> by_cases h3 : c > 0 <;> simp [spec_hoNeeded.f, spec_hoNeeded.l0, rd, h1, h2, h3, wrap64]

/-- The place of eggs and floors in the table. -/
def plc (a b c e : Int) : Int := ((e * 9 + a) * 9 + b) * 9 + c
theorem place_ev (l : List Int) (e : Int) (h : VL l) (h0 : 0 ≤ e) (h6 : e ≤ 6) : Ev (fun k => spec_hoPlace.f k e l) (plc (rd l 0) (rd l 1) (rd l 2) e) := by
  refine Ev.of (spec_hoPlace.mono e l) (k := 5) ?_
  have r0 := h.val 0
  have r1 := h.val 1
  have r2 := h.val 2
  unfold plc
  have hh := h.1
  unfold spec_hoPlace.f
  have step : ∀ (k : Nat) (n i : Int), 0 ≤ i → i < 3 → 0 ≤ n → n ≤ 100000 → spec_hoPlace.l0 (k + 1) l n i = spec_hoPlace.l0 k l (n * 9 + rd l i) (i + 1) := fun k n i hi0 hi3 hn0 hn1 => by
    have hr := h.val i
    simp only [spec_hoPlace.l0]
    rw [if_pos hi3]
    by_cases hl : i < (l.length : Int)
    · rw [if_pos hl, if_pos hi0, w64 (x := n * 9) (by omega) (by omega), w64 (x := n * 9 + rd l i) (by omega) (by omega), w64 (by omega) (by omega)]
    · rw [if_neg hl, w64 (x := n * 9) (by omega) (by omega), w64 (x := n * 9 + 0) (by omega) (by omega), w64 (by omega) (by omega), rd_out (by omega)]
  have s0 := step 4 e 0 (by omega) (by omega) (by omega) (by omega)
  have s1 := step 3 (e * 9 + rd l 0) 1 (by omega) (by omega) (by omega) (by omega)
  have s2 := step 2 ((e * 9 + rd l 0) * 9 + rd l 1) 2 (by omega) (by omega) (by omega) (by omega)
  rw [show (0 : Int) + 1 = 1 from rfl] at s0
  rw [show (1 : Int) + 1 = 2 from rfl] at s1
  rw [show (2 : Int) + 1 = 3 from rfl] at s2
  rw [s0, s1, s2]
  simp only [spec_hoPlace.l0]
  rw [if_neg (by omega)]
theorem plc_range {a b c e : Int} (ha1 : 0 ≤ a) (ha2 : a ≤ 8) (hb1 : 0 ≤ b) (hb2 : b ≤ 8) (hc1 : 0 ≤ c) (hc2 : c ≤ 8) (he1 : 0 ≤ e) (he2 : e ≤ 6) : 0 ≤ plc a b c e ∧ plc a b c e < 5103 := by
  unfold plc; omega
theorem plc_inj {a b c e a' b' c' e' : Int} (ha1 : 0 ≤ a) (ha2 : a ≤ 8) (hb1 : 0 ≤ b) (hb2 : b ≤ 8) (hc1 : 0 ≤ c) (hc2 : c ≤ 8) (ha1' : 0 ≤ a') (ha2' : a' ≤ 8) (hb1' : 0 ≤ b') (hb2' : b' ≤ 8) (hc1' : 0 ≤ c') (hc2' : c' ≤ 8)
    (h : plc a b c e = plc a' b' c' e') : a = a' ∧ b = b' ∧ c = c' ∧ e = e' := by
  unfold plc at h; omega

theorem with_ev (l : List Int) (q v : Int) (h0 : 0 ≤ q) (hq : q < (l.length : Int)) (hl : l.length ≤ 3) : spec_hoWith.f l q v = some (l.set q.toNat v) := by
  unfold spec_hoWith.f spec_l1Own.f
  simp only [Option.bind_some, List.length_nil, List.nil_append]
  rw [if_pos (by omega)]
  simp only [Option.bind_some]
  rw [if_pos h0, if_pos hq]

/-- The table holds -1 or the least number of drops. -/
def TabOk (t : List Int) : Prop := t.length = 5103 ∧ ∀ a b c e : Int, 0 ≤ a → a ≤ 8 → 0 ≤ b → b ≤ 8 → 0 ≤ c → c ≤ 8 → 0 ≤ e → e ≤ 6 → rd t (plc a b c e) = -1 ∨ rd t (plc a b c e) = Ln 1000 a b c e
theorem TabOk.put {t : List Int} (h : TabOk t) {a b c e : Int} (ha1 : 0 ≤ a) (ha2 : a ≤ 8) (hb1 : 0 ≤ b) (hb2 : b ≤ 8) (hc1 : 0 ≤ c) (hc2 : c ≤ 8) (he1 : 0 ≤ e) (he2 : e ≤ 6) {v : Int} (hv : v = Ln 1000 a b c e) : TabOk (t.set (plc a b c e).toNat v) := by
  have hr := plc_range ha1 ha2 hb1 hb2 hc1 hc2 he1 he2
  refine ⟨by simpa using h.1, fun a' b' c' e' h1 h2 h3 h4 h5 h6 h7 h8 => ?_⟩
  have hr' := plc_range h1 h2 h3 h4 h5 h6 h7 h8
  rw [rd_set t (plc a b c e) v _ hr.1 (by rw [h.1]; exact hr.2) hr'.1]
  by_cases he : plc a' b' c' e' = plc a b c e
  · obtain ⟨rfl, rfl, rfl, rfl⟩ := plc_inj h1 h2 h3 h4 h5 h6 ha1 ha2 hb1 hb2 hc1 hc2 he
    rw [if_pos rfl]
    exact .inr hv
  · rw [if_neg he]
    exact h.2 a' b' c' e' h1 h2 h3 h4 h5 h6 h7 h8

/-- What one drop tells, in whatever table. -/
def DropOk (e : Int) (l : List Int) : Prop := ∀ (t : List Int) (q f : Int), TabOk t → 0 ≤ q → q < (l.length : Int) → 1 ≤ f → f ≤ rd l q →
  ∃ t', TabOk t' ∧ Ev (fun k => spec_hoDrop.f k t e l q f) (min 1000 (gOf (Ln 1000) (rd l 0) (rd l 1) (rd l 2) e q f), t')

theorem min_min {o g : Int} (h : o ≤ 1000) : (if o < min 1000 g then o else min 1000 g) = min o g := by
  split <;> omega

theorem few_inner {e : Int} {l : List Int} (hv : VL l) (hd : DropOk e l) (place : Int) (q o0 : Int) (h0 : 0 ≤ q) (hq : q < (l.length : Int)) (ho : o0 ≤ 1000) :
    ∀ (d : Nat) (f : Nat) (t : List Int), 1 ≤ f → (f : Int) + d = rd l q + 1 → TabOk t → ∃ t', TabOk t' ∧ ∀ r,
      Ev (fun k => spec_hoFew.l0 k t' e l place (mins (gOf (Ln 1000) (rd l 0) (rd l 1) (rd l 2) e q) o0 (rd l q).toNat) (l.length : Int) (q + 1)) r →
      Ev (fun k => spec_hoFew.l1 k t e l place (mins (gOf (Ln 1000) (rd l 0) (rd l 1) (rd l 2) e q) o0 (f - 1)) q f (l.length : Int) q) r := by
  have hl3 := hv.1.2
  have hr := hv.val q
  intro d
  induction d with
  | zero =>
    intro f t hf hfd ht
    refine ⟨t, ht, fun r hr => Ev.step (fun k => ?_) hr⟩
    simp only [spec_hoFew.l1]
    rw [if_pos h0, if_pos hq, if_neg (by omega), w64 (by omega) (by omega), show f - 1 = (rd l q).toNat by omega]
  | succ d ih =>
    intro f t hf hfd ht
    obtain ⟨t1, ht1, he1⟩ := hd t q f ht h0 hq (by omega) (by omega)
    obtain ⟨t2, ht2, he2⟩ := ih (f + 1) t1 (by omega) (by omega) ht1
    refine ⟨t2, ht2, fun r hr => ?_⟩
    have h2 := he2 r hr
    refine Ev.step (f := fun k => (spec_hoDrop.f k t e l q f).bind fun bt190 => ((spec_l1Least.f (mins (gOf (Ln 1000) (rd l 0) (rd l 1) (rd l 2) e q) o0 (f - 1)) bt190.1).bind fun t192 => (spec_hoFew.l1 k bt190.2 e l place t192 q (wrap64 ((f : Int) + 1)) (l.length : Int) q))) (fun k => ?_) (Ev.bind he1 ?_)
    · simp only [spec_hoFew.l1]
      rw [if_pos h0, if_pos hq, if_pos (by omega)]
    · refine Ev.congr (fun k => ?_) h2
      have hm := mins_le (g := gOf (Ln 1000) (rd l 0) (rd l 1) (rd l 2) e q) (o := o0) (k := f - 1)
      have e1 : spec_l1Least.f (mins (gOf (Ln 1000) (rd l 0) (rd l 1) (rd l 2) e q) o0 (f - 1)) (min 1000 (gOf (Ln 1000) (rd l 0) (rd l 1) (rd l 2) e q f)) = some (mins (gOf (Ln 1000) (rd l 0) (rd l 1) (rd l 2) e q) o0 (f + 1 - 1)) := by
        unfold spec_l1Least.f
        rw [← apply_ite some, min_min (by omega)]
        obtain ⟨m, rfl⟩ : ∃ m, f = m + 1 := ⟨f - 1, by omega⟩
        simp [mins]
      simp only [e1, Option.bind_some]
      rw [w64 (by omega) (by omega)]
      rfl

theorem outs_succ (N : Int) (g : Int → Int → Int) (a b c : Int) (q : Nat) (hq : q < 3) : outs N g a b c (q + 1) = mins (g q) (outs N g a b c q) (cnt a b c q).toNat := by
  match q, hq with
  | 0, _ => rfl
  | 1, _ => rfl
  | 2, _ => rfl
theorem outs_le' (N : Int) (g : Int → Int → Int) (a b c : Int) : ∀ q : Nat, q ≤ 3 → outs N g a b c q ≤ N
  | 0, _ => Int.le_refl _
  | q + 1, h => by
    rw [outs_succ N g a b c q (by omega)]
    exact Int.le_trans mins_le (outs_le' N g a b c q (by omega))
theorem outs_stay (N : Int) (g : Int → Int → Int) (a b c : Int) (q : Nat) (hq : q < 3) (h : cnt a b c q = 0) : outs N g a b c (q + 1) = outs N g a b c q := by
  rw [outs_succ N g a b c q hq, h]
  rfl

theorem few_outer {e : Int} {l : List Int} (hv : VL l) (hd : DropOk e l) (h0 : 0 ≤ e) (h6 : e ≤ 6) (hn0 : need3 (rd l 0) (rd l 1) (rd l 2) ≠ 0) (hn : need3 (rd l 0) (rd l 1) (rd l 2) ≤ e) :
    ∀ (d q : Nat) (t : List Int), q + d = l.length → TabOk t → ∃ t', TabOk t' ∧
      Ev (fun k => spec_hoFew.l0 k t e l (plc (rd l 0) (rd l 1) (rd l 2) e) (outs 1000 (gOf (Ln 1000) (rd l 0) (rd l 1) (rd l 2) e) (rd l 0) (rd l 1) (rd l 2) q) (l.length : Int) q) (Ln 1000 (rd l 0) (rd l 1) (rd l 2) e, t') := by
  have hl3 := hv.1.2
  have r0 := hv.val 0
  have r1 := hv.val 1
  have r2 := hv.val 2
  have hpr := plc_range r0.1 r0.2 r1.1 r1.2 r2.1 r2.2 h0 h6
  intro d
  induction d with
  | zero =>
    intro q t hqd ht
    have hq : q = l.length := by omega
    subst hq
    have hbest : outs 1000 (gOf (Ln 1000) (rd l 0) (rd l 1) (rd l 2) e) (rd l 0) (rd l 1) (rd l 2) l.length = Ln 1000 (rd l 0) (rd l 1) (rd l 2) e := by
      rw [Ln_eq 1000 _ _ _ e r0.1 r1.1 r2.1, if_neg hn0, if_neg (by omega)]
      rcases hv.cases with ⟨a, rfl⟩ | ⟨a, b, rfl⟩ | ⟨a, b, c, rfl⟩ <;> rfl
    refine ⟨t.set (plc (rd l 0) (rd l 1) (rd l 2) e).toNat (Ln 1000 (rd l 0) (rd l 1) (rd l 2) e), ht.put r0.1 r0.2 r1.1 r1.2 r2.1 r2.2 h0 h6 rfl, 1, fun k hk => ?_⟩
    obtain ⟨k, rfl⟩ : ∃ m, k = m + 1 := ⟨k - 1, by omega⟩
    rw [hbest]
    simp only [spec_hoFew.l0]
    rw [if_neg (by omega), if_pos hpr.1, if_pos (by rw [ht.1]; exact hpr.2)]
  | succ d ih =>
    intro q t hqd ht
    have hc := cnt_rd (l := l) (q := (q : Int)) (by omega) (by omega)
    obtain ⟨t1, ht1, he1⟩ := few_inner hv hd (plc (rd l 0) (rd l 1) (rd l 2) e) q (outs 1000 (gOf (Ln 1000) (rd l 0) (rd l 1) (rd l 2) e) (rd l 0) (rd l 1) (rd l 2) q) (by omega) (by omega) (outs_le' _ _ _ _ _ q (by omega)) (rd l q).toNat 1 t (by omega) (by have := hv.val q; omega) ht
    obtain ⟨t2, ht2, he2⟩ := ih (q + 1) t1 (by omega) ht1
    refine ⟨t2, ht2, Ev.step (fun k => ?_) (he1 _ (Ev.congr (fun k => ?_) he2))⟩
    · simp only [spec_hoFew.l0]
      rw [if_pos (by omega)]
      rfl
    · rw [outs_succ _ _ _ _ _ q (by omega), hc]
      rfl

theorem dropOk_of {l : List Int} {e : Int} (hv : VL l) (he1 : 1 ≤ e) (h6 : e ≤ 6) (H : ∀ (l' : List Int) (e' : Int) (t : List Int), VL l' → rd l' 0 + rd l' 1 + rd l' 2 < rd l 0 + rd l 1 + rd l 2 → 0 ≤ e' → e' ≤ 6 → TabOk t → ∃ t', TabOk t' ∧ Ev (fun k => spec_hoFew.f k t e' l') (Ln 1000 (rd l' 0) (rd l' 1) (rd l' 2) e', t')) : DropOk e l := fun t q f ht hq0 hq hf1 hf2 => by
  have hl3 := hv.1.2
  have hrq := hv.val q
  have hc := cnt_rd (l := l) (q := q) hq0 (by omega)
  have v1 := hv.set (q := q) (v := f - 1) (by omega) (by omega)
  have v2 := hv.set (q := q) (v := rd l q - f) (by omega) (by omega)
  have s1 := set3_sum (a := rd l 0) (b := rd l 1) (c := rd l 2) (v := f - 1) hq0 (by omega)
  have s2 := set3_sum (a := rd l 0) (b := rd l 1) (c := rd l 2) (v := rd l q - f) hq0 (by omega)
  have e1 : ∀ h, 0 ≤ h → h < 3 → rd (l.set q.toNat (f - 1)) h = set3 (rd l 0) (rd l 1) (rd l 2) q (f - 1) h := fun h a b => set3_rd l q (f - 1) h hq0 hq hl3 a b
  have e2 : ∀ h, 0 ≤ h → h < 3 → rd (l.set q.toNat (rd l q - f)) h = set3 (rd l 0) (rd l 1) (rd l 2) q (rd l q - f) h := fun h a b => set3_rd l q (rd l q - f) h hq0 hq hl3 a b
  obtain ⟨t1, ht1, x1⟩ := H (l.set q.toNat (f - 1)) (e - 1) t v1 (by rw [e1 0 (by omega) (by omega), e1 1 (by omega) (by omega), e1 2 (by omega) (by omega)]; omega) (by omega) (by omega) ht
  obtain ⟨t2, ht2, x2⟩ := H (l.set q.toNat (rd l q - f)) e t1 v2 (by rw [e2 0 (by omega) (by omega), e2 1 (by omega) (by omega), e2 2 (by omega) (by omega)]; omega) (by omega) (by omega) ht1
  rw [e1 0 (by omega) (by omega), e1 1 (by omega) (by omega), e1 2 (by omega) (by omega)] at x1
  rw [e2 0 (by omega) (by omega), e2 1 (by omega) (by omega), e2 2 (by omega) (by omega)] at x2
  refine ⟨t2, ht2, Ev.step (f := fun k => (spec_hoFew.f k t (e - 1) (l.set q.toNat (f - 1))).bind fun bt174 => ((spec_hoFew.f k bt174.2 e (l.set q.toNat (rd l q - f))).bind fun bt180 => ((spec_l1Most.f bt174.1 bt180.1).bind fun t182 => ((spec_l1Least.f 1000 (wrap64 (1 + t182))).bind fun t183 => (some (t183, bt180.2)))))) (fun k => ?_) (Ev.bind x1 (Ev.bind x2 ⟨0, fun k _ => ?_⟩))⟩
  · simp only [spec_hoDrop.f]
    rw [w64 (x := f - 1) (by omega) (by omega), w64 (x := e - 1) (by omega) (by omega), w64 (x := rd l q - f) (by omega) (by omega), with_ev l q _ hq0 hq hl3]
    simp only [Option.bind_some]
    rw [with_ev l q _ hq0 hq hl3]
    simp only [Option.bind_some]
    congr 1
    funext bt
    rw [if_pos hq0, if_pos hq]
  · have b1 := Ln_bounds (N := 1000) (by omega) (set3 (rd l 0) (rd l 1) (rd l 2) q (f - 1) 0) (set3 (rd l 0) (rd l 1) (rd l 2) q (f - 1) 1) (set3 (rd l 0) (rd l 1) (rd l 2) q (f - 1) 2) (e - 1)
    have b2 := Ln_bounds (N := 1000) (by omega) (set3 (rd l 0) (rd l 1) (rd l 2) q (rd l q - f) 0) (set3 (rd l 0) (rd l 1) (rd l 2) q (rd l q - f) 1) (set3 (rd l 0) (rd l 1) (rd l 2) q (rd l q - f) 2) e
    rw [gOf_set _ _ _ _ _ _ _ hq0 (by omega), hc]
    generalize Ln 1000 (set3 (rd l 0) (rd l 1) (rd l 2) q (f - 1) 0) (set3 (rd l 0) (rd l 1) (rd l 2) q (f - 1) 1) (set3 (rd l 0) (rd l 1) (rd l 2) q (f - 1) 2) (e - 1) = u at *
    generalize Ln 1000 (set3 (rd l 0) (rd l 1) (rd l 2) q (rd l q - f) 0) (set3 (rd l 0) (rd l 1) (rd l 2) q (rd l q - f) 1) (set3 (rd l 0) (rd l 1) (rd l 2) q (rd l q - f) 2) e = v at *
    have em : spec_l1Most.f u v = some (max u v) := by
      unfold spec_l1Most.f
      split <;> congr 1 <;> omega
    have el : spec_l1Least.f 1000 (wrap64 (1 + max u v)) = some (min 1000 (1 + max u v)) := by
      rw [w64 (by omega) (by omega)]
      unfold spec_l1Least.f
      split <;> congr 1 <;> omega
    simp only [em, el, Option.bind_some]

theorem few_drop : ∀ (s : Nat) (l : List Int) (e : Int) (t : List Int), VL l → rd l 0 + rd l 1 + rd l 2 < s → 0 ≤ e → e ≤ 6 → TabOk t → ∃ t', TabOk t' ∧ Ev (fun k => spec_hoFew.f k t e l) (Ln 1000 (rd l 0) (rd l 1) (rd l 2) e, t') := by
  intro s
  induction s with
  | zero => intro l e t hv hs; have := hv.val 0; have := hv.val 1; have := hv.val 2; omega
  | succ s ih =>
    intro l e t hv hs h0 h6 ht
    have hl3 := hv.1.2
    have r0 := hv.val 0
    have r1 := hv.val 1
    have r2 := hv.val 2
    have hne := needed_ev l hv
    have hnr := need3_range (rd l 0) (rd l 1) (rd l 2)
    have start : ∀ r, Ev (fun k => if need3 (rd l 0) (rd l 1) (rd l 2) = 0 then (some (0, t)) else (if e < need3 (rd l 0) (rd l 1) (rd l 2) then (some (1000, t)) else ((spec_hoPlace.f k e l).bind fun t185 => (if 0 ≤ t185 then (if t185 < (t.length : Int) then (if (rd t t185) ≥ 0 then (some (rd t t185, t)) else (spec_hoFew.l0 k t e l t185 1000 (l.length : Int) 0)) else (none)) else (none))))) r → Ev (fun k => spec_hoFew.f k t e l) r := fun r hr =>
      Ev.step (f := fun k => (spec_hoNeeded.f k l).bind fun t184 => (if t184 = 0 then (some (0, t)) else (if e < t184 then (some (1000, t)) else ((spec_hoPlace.f k e l).bind fun t185 => (if 0 ≤ t185 then (if t185 < (t.length : Int) then (if (rd t t185) ≥ 0 then (some (rd t t185, t)) else (spec_hoFew.l0 k t e l t185 1000 (l.length : Int) 0)) else (none)) else (none)))))) (fun k => rfl) (Ev.bind hne hr)
    by_cases hn0 : need3 (rd l 0) (rd l 1) (rd l 2) = 0
    · refine ⟨t, ht, start _ ⟨0, fun k _ => ?_⟩⟩
      simp only [if_pos hn0]
      rw [Ln_eq 1000 _ _ _ e r0.1 r1.1 r2.1, if_pos hn0]
    · by_cases hn : e < need3 (rd l 0) (rd l 1) (rd l 2)
      · refine ⟨t, ht, start _ ⟨0, fun k _ => ?_⟩⟩
        simp only [if_neg hn0, if_pos hn]
        rw [Ln_eq 1000 _ _ _ e r0.1 r1.1 r2.1, if_neg hn0, if_pos hn]
      · have hpr := plc_range r0.1 r0.2 r1.1 r1.2 r2.1 r2.2 h0 h6
        have hd : DropOk e l := dropOk_of hv (by omega) h6 (fun l' e' t hv' hlt h0' h6' ht => ih l' e' t hv' (by omega) h0' h6' ht)
        rcases ht.2 _ _ _ e r0.1 r0.2 r1.1 r1.2 r2.1 r2.2 h0 h6 with hm | hm
        · obtain ⟨t', ht', he'⟩ := few_outer hv hd h0 h6 hn0 (by omega) l.length 0 t (by omega) ht
          refine ⟨t', ht', start _ ?_⟩
          simp only [if_neg hn0, if_neg hn]
          refine Ev.bind (place_ev l e hv h0 h6) ?_
          have hm2 : ¬ rd t (plc (rd l 0) (rd l 1) (rd l 2) e) ≥ 0 := by omega
          have hpl : plc (rd l 0) (rd l 1) (rd l 2) e < (t.length : Int) := by rw [ht.1]; exact hpr.2
          simp only [if_pos hpr.1, if_pos hpl, if_neg hm2]
          exact he'
        · refine ⟨t, ht, start _ ?_⟩
          simp only [if_neg hn0, if_neg hn]
          refine Ev.bind (place_ev l e hv h0 h6) ?_
          have hb := Ln_bounds (N := 1000) (by omega) (rd l 0) (rd l 1) (rd l 2) e
          have hm2 : Ln 1000 (rd l 0) (rd l 1) (rd l 2) e ≥ 0 := by omega
          have hpl : plc (rd l 0) (rd l 1) (rd l 2) e < (t.length : Int) := by rw [ht.1]; exact hpr.2
          simp only [if_pos hpr.1, if_pos hpl, if_pos hm2, hm]
          exact Ev.now _

theorem few_ev (l : List Int) (e : Int) (t : List Int) (hv : VL l) (h0 : 0 ≤ e) (h6 : e ≤ 6) (ht : TabOk t) : ∃ t', TabOk t' ∧ Ev (fun k => spec_hoFew.f k t e l) (Ln 1000 (rd l 0) (rd l 1) (rd l 2) e, t') :=
  few_drop ((rd l 0 + rd l 1 + rd l 2).toNat + 1) l e t hv (by omega) h0 h6 ht
theorem dropOk (l : List Int) (e : Int) (hv : VL l) (h1 : 1 ≤ e) (h6 : e ≤ 6) : DropOk e l := dropOk_of hv h1 h6 fun l' e' t hv' _ h0' h6' ht => few_ev l' e' t hv' h0' h6' ht

end Go.Proofs.Ytfemdpdnnifehaa.PH

set_option linter.unusedVariables false
set_option linter.unusedSimpArgs false
namespace Go.Proofs.Ytfemdpdnnifehaa.PH
open Go.RowKit Go.Proofs.YtfemdpdnnifehaaW.PrintWords Go.Proofs.YtfemdpdnnifehaaW.PrintLast

theorem goods_succ (N a b c e : Int) (q : Nat) : goods N a b c e (q + 1) = goods N a b c e q ++ goodsH N a b c e q (cnt a b c q).toNat := rfl

theorem drops_inner {e : Int} {l : List Int} (hv : VL l) (hd : DropOk e l) (hfew : Ln 1000 (rd l 0) (rd l 1) (rd l 2) e < 1000) (q : Nat) (hq : q < l.length) :
    ∀ (d : Nat) (f : Nat) (t : List Int), 1 ≤ f → (f : Int) + d = rd l q + 1 → TabOk t → ∃ t', TabOk t' ∧ ∀ r,
      Ev (fun k => spec_hoDrops.l0 k t' e l (Ln 1000 (rd l 0) (rd l 1) (rd l 2) e) (goods 1000 (rd l 0) (rd l 1) (rd l 2) e (q + 1)) (l.length : Int) (((q + 1 : Nat)) : Int)) r →
      Ev (fun k => spec_hoDrops.l1 k t e l (Ln 1000 (rd l 0) (rd l 1) (rd l 2) e) (goods 1000 (rd l 0) (rd l 1) (rd l 2) e q ++ goodsH 1000 (rd l 0) (rd l 1) (rd l 2) e q (f - 1)) q f (l.length : Int) q) r := by
  have hl3 := hv.1.2
  have hr := hv.val q
  have r0 := hv.val 0
  have r1 := hv.val 1
  have r2 := hv.val 2
  have hc := cnt_rd (l := l) (q := (q : Int)) (by omega) (by omega)
  intro d
  induction d with
  | zero =>
    intro f t hf hfd ht
    refine ⟨t, ht, fun r hr => Ev.step (fun k => ?_) hr⟩
    simp only [spec_hoDrops.l1]
    rw [if_pos (by omega), if_pos (by omega), if_neg (by omega), w64 (by omega) (by omega), goods_succ, hc, show f - 1 = (rd l q).toNat by omega]
    rfl
  | succ d ih =>
    intro f t hf hfd ht
    obtain ⟨t1, ht1, he1⟩ := hd t q f ht (by omega) (by omega) (by omega) (by omega)
    obtain ⟨t2, ht2, he2⟩ := ih (f + 1) t1 (by omega) (by omega) ht1
    refine ⟨t2, ht2, fun r hr => ?_⟩
    have h2 := he2 r hr
    have hlen : (goods 1000 (rd l 0) (rd l 1) (rd l 2) e q ++ goodsH 1000 (rd l 0) (rd l 1) (rd l 2) e q (f - 1)).length < 5864062014805 := by
      have h1 := goods_length 1000 (rd l 0) (rd l 1) (rd l 2) e r0.2 r1.2 r2.2 q
      have h2 := goodsH_length 1000 (rd l 0) (rd l 1) (rd l 2) e q (f - 1)
      rw [List.length_append]
      omega
    refine Ev.step (f := fun k => (spec_hoDrop.f k t e l q f).bind fun bt196 => (if bt196.1 = Ln 1000 (rd l 0) (rd l 1) (rd l 2) e then (if (goods 1000 (rd l 0) (rd l 1) (rd l 2) e q ++ goodsH 1000 (rd l 0) (rd l 1) (rd l 2) e q (f - 1)).length < 5864062014805 then (spec_hoDrops.l1 k bt196.2 e l (Ln 1000 (rd l 0) (rd l 1) (rd l 2) e) ((goods 1000 (rd l 0) (rd l 1) (rd l 2) e q ++ goodsH 1000 (rd l 0) (rd l 1) (rd l 2) e q (f - 1)) ++ [(([(q : Int), (f : Int)] : List Int))]) q (wrap64 ((f : Int) + 1)) (l.length : Int) q) else (none)) else (spec_hoDrops.l1 k bt196.2 e l (Ln 1000 (rd l 0) (rd l 1) (rd l 2) e) (goods 1000 (rd l 0) (rd l 1) (rd l 2) e q ++ goodsH 1000 (rd l 0) (rd l 1) (rd l 2) e q (f - 1)) q (wrap64 ((f : Int) + 1)) (l.length : Int) q))) (fun k => ?_) (Ev.bind he1 ?_)
    · simp only [spec_hoDrops.l1]
      rw [if_pos (by omega), if_pos (by omega), if_pos (by omega)]
    · have ew : wrap64 ((f : Int) + 1) = ((f + 1 : Nat) : Int) := by rw [w64 (by omega) (by omega)]; rfl
      refine Ev.congr (fun k => ?_) h2
      simp only [ew]
      by_cases hg : gOf (Ln 1000) (rd l 0) (rd l 1) (rd l 2) e q f = Ln 1000 (rd l 0) (rd l 1) (rd l 2) e
      · rw [if_pos (by rw [hg]; omega), if_pos hlen, List.append_assoc, goodsH_hit 1000 (rd l 0) (rd l 1) (rd l 2) e q f hf hg]
      · rw [if_neg (by omega), goodsH_miss 1000 (rd l 0) (rd l 1) (rd l 2) e q f hf hg]

theorem drops_outer {e : Int} {l : List Int} (hv : VL l) (hd : DropOk e l) (hfew : Ln 1000 (rd l 0) (rd l 1) (rd l 2) e < 1000) :
    ∀ (d q : Nat) (t : List Int), q + d = l.length → TabOk t → ∃ t', TabOk t' ∧
      Ev (fun k => spec_hoDrops.l0 k t e l (Ln 1000 (rd l 0) (rd l 1) (rd l 2) e) (goods 1000 (rd l 0) (rd l 1) (rd l 2) e q) (l.length : Int) q) (goods 1000 (rd l 0) (rd l 1) (rd l 2) e 3, t') := by
  have hl3 := hv.1.2
  intro d
  induction d with
  | zero =>
    intro q t hqd ht
    have hq : q = l.length := by omega
    subst hq
    refine ⟨t, ht, 1, fun k hk => ?_⟩
    obtain ⟨k, rfl⟩ : ∃ m, k = m + 1 := ⟨k - 1, by omega⟩
    simp only [spec_hoDrops.l0]
    rw [if_neg (by omega)]
    rcases hv.cases with ⟨a, rfl⟩ | ⟨a, b, rfl⟩ | ⟨a, b, c, rfl⟩
    · have e1 : rd [a] 1 = 0 := rfl
      have e2 : rd [a] 2 = 0 := rfl
      simp [goods, cnt, e1, e2, goodsH]
    · have e2 : rd [a, b] 2 = 0 := rfl
      simp [goods, cnt, e2, goodsH]
    · rfl
  | succ d ih =>
    intro q t hqd ht
    obtain ⟨t1, ht1, he1⟩ := drops_inner hv hd hfew q (by omega) (rd l q).toNat 1 t (by omega) (by have := hv.val q; omega) ht
    obtain ⟨t2, ht2, he2⟩ := ih (q + 1) t1 (by omega) ht1
    refine ⟨t2, ht2, Ev.step (fun k => ?_) (he1 _ he2)⟩
    simp only [spec_hoDrops.l0]
    rw [if_pos (by omega)]
    simp [goodsH]

theorem drops_ev (l : List Int) (e : Int) (t : List Int) (hv : VL l) (h6 : e ≤ 6) (hn0 : need3 (rd l 0) (rd l 1) (rd l 2) ≠ 0) (hn : need3 (rd l 0) (rd l 1) (rd l 2) ≤ e) (ht : TabOk t) :
    ∃ t', TabOk t' ∧ Ev (fun k => spec_hoDrops.f k t e l) (goods 1000 (rd l 0) (rd l 1) (rd l 2) e 3, t') := by
  have r0 := hv.val 0
  have r1 := hv.val 1
  have r2 := hv.val 2
  have hnr := need3_range (rd l 0) (rd l 1) (rd l 2)
  have hfin := Ln_fin (N := 1000) (by omega) ((rd l 0 + rd l 1 + rd l 2).toNat + 1) (rd l 0) (rd l 1) (rd l 2) e r0.1 r1.1 r2.1 (by omega) hn
  obtain ⟨t1, ht1, h1⟩ := few_ev l e t hv (by omega) h6 ht
  obtain ⟨t2, ht2, h2⟩ := drops_outer hv (dropOk l e hv (by omega) h6) (by omega) l.length 0 t1 (by omega) ht1
  exact ⟨t2, ht2, Ev.bind h1 h2⟩

theorem rd_list1 (x : List Int) (xs : List (List Int)) : rd_L1 (x :: xs) 0 = x := rfl

/-- A round of a play: what is left, above what. -/
theorem play_ev (br : List Int) : ∀ (kk : Nat) (left least : List Int) (e : Int) (t : List Int) (out : List S51), VL left → least.length = left.length → br.length = left.length → TabOk t → out.length ≤ 24 →
    NumRel kk (rd left 0) (rd left 1) (rd left 2) e (rd least 0) (rd least 1) (rd least 2) br out.length → ∃ t', TabOk t' ∧
      Ev (fun k => spec_hoPlay.l0 k t e br least left out) (out ++ plays 1000 kk (rd left 0) (rd left 1) (rd left 2) e (rd least 0) (rd least 1) (rd least 2) br, t') := by
  intro kk
  induction kk with
  | zero => intro left least e t out hv hl hb ht ho hn; obtain ⟨⟨h1, _⟩, ⟨h2, _⟩, ⟨h3, _⟩, _, _, _, _, _, h4, _⟩ := hn; omega
  | succ kk ih =>
    intro left least e t out hv hl hb ht ho hnum
    have hl3 := hv.1.2
    have r0 := hv.val 0
    have r1 := hv.val 1
    have r2 := hv.val 2
    obtain ⟨⟨h1, h2, h3⟩, ⟨h4, h5, h6⟩, ⟨h7, h8, h9⟩, hn, he, hb0, hb1, hb2, hk, hm⟩ := id hnum
    have hne := needed_ev left hv
    have hnr := need3_range (rd left 0) (rd left 1) (rd left 2)
    by_cases h0 : need3 (rd left 0) (rd left 1) (rd left 2) = 0
    · refine ⟨t, ht, Ev.step (fun k => by rw [spec_hoPlay.l0]) (Ev.bind hne ⟨0, fun k _ => ?_⟩)⟩
      simp only [plays, if_pos h0, List.append_nil]
      rw [if_neg (by omega)]
    · obtain ⟨q, f, rest, hgs, hq0, hq3, hf1, hf2, hgg⟩ := goods_first (N := 1000) (by omega) h1 (by omega) h4 (by omega) h7 (by omega) h0 hn
      obtain ⟨t1, ht1, hd1⟩ := drops_ev left e t hv he h0 hn ht
      rw [hgs] at hd1
      have hcr := cnt_rd (l := left) hq0 hq3
      have hcx := cnt_rd (l := least) hq0 hq3
      have hrq := hv.val q
      have hql : q < (left.length : Int) := by
        by_cases hh : (left.length : Int) ≤ q
        · have := rd_out hh; omega
        · omega
      have hlen : q < (br.length : Int) := by omega
      have hxr : 0 ≤ rd least q ∧ rd least q + rd left q ≤ 8 := by
        have hqc : q = 0 ∨ q = 1 ∨ q = 2 := by omega
        rcases hqc with rfl | rfl | rfl <;> omega
      have hsum : rd left q ≤ rd left 0 + rd left 1 + rd left 2 := by
        have hqc : q = 0 ∨ q = 1 ∨ q = 2 := by omega
        rcases hqc with rfl | rfl | rfl <;> omega
      have go : ∀ r, Ev (fun k => if (wrap64 ((rd least q) + f)) > (rd br q) then (spec_hoPlay.l0 k t1 (wrap64 (e - 1)) br least (left.set (q : Int).toNat (wrap64 (f - 1))) (out ++ [(⟨q, wrap64 ((rd least q) + f), decide ((wrap64 ((rd least q) + f)) > (rd br q))⟩ : S51)])) else (spec_hoPlay.l0 k t1 e br (least.set (q : Int).toNat (wrap64 ((rd least q) + f))) (left.set (q : Int).toNat (wrap64 ((rd left q) - f))) (out ++ [(⟨q, wrap64 ((rd least q) + f), decide ((wrap64 ((rd least q) + f)) > (rd br q))⟩ : S51)]))) r → Ev (fun k => spec_hoPlay.l0 k t e br least left out) r := fun r hr => by
        refine Ev.step (fun k => by rw [spec_hoPlay.l0]) (Ev.bind hne ?_)
        have hpos : need3 (rd left 0) (rd left 1) (rd left 2) > 0 := by omega
        simp only [if_pos hpos]
        refine Ev.bind hd1 ?_
        refine Ev.congr (fun k => ?_) hr
        have e0 : rd [q, f] 0 = q := rfl
        have e1 : rd [q, f] 1 = f := rfl
        have lq : (([q, f] :: rest).length : Int) = rest.length + 1 := by simp
        have lq2 : (([q, f] : List Int).length : Int) = 2 := rfl
        simp only [rd_list1, e0, e1, lq, lq2]
        rw [if_pos (by omega), if_pos (by omega), if_pos hq0, if_pos (by omega), if_pos (by omega), if_pos hlen, if_pos (by omega)]
        simp only [Option.bind_some]
        rw [if_pos hql, if_pos hql]
      by_cases hbk : rd br q < cnt (rd least 0) (rd least 1) (rd least 2) q + f
      · have hnx := num_broken (N := 1000) (by omega) hnum h0 hq0 hq3 hf1 hf2 hgg hlen
        rw [hcx] at hbk
        have v1 := hv.set (q := q) (v := f - 1) (by omega) (by omega)
        have e1 : ∀ h, 0 ≤ h → h < 3 → rd (left.set q.toNat (f - 1)) h = set3 (rd left 0) (rd left 1) (rd left 2) q (f - 1) h := fun h a b => set3_rd left q (f - 1) h hq0 hql hl3 a b
        have i1 := ih (left.set q.toNat (f - 1)) least (e - 1) t1 (out ++ [⟨q, rd least q + f, true⟩]) v1 (by simpa using hl) (by simpa using hb) ht1 (by rw [List.length_append]; simp; omega)
          (by rw [e1 0 (by omega) (by omega), e1 1 (by omega) (by omega), e1 2 (by omega) (by omega), List.length_append]; exact hnx)
        obtain ⟨t2, ht2, i2⟩ := i1
        rw [e1 0 (by omega) (by omega), e1 1 (by omega) (by omega), e1 2 (by omega) (by omega), List.append_assoc] at i2
        refine ⟨t2, ht2, go _ ?_⟩
        rw [plays_broken h0 hgs (by rw [hcx]; exact hbk), hcx]
        refine Ev.congr (fun k => ?_) i2
        rw [w64 (x := rd least q + f) (by omega) (by omega), w64 (x := e - 1) (by omega) (by omega), w64 (x := f - 1) (by omega) (by omega), if_pos (by omega), decide_eq_true (by omega)]
      · have hnx := num_whole (N := 1000) (by omega) hnum h0 hq0 hq3 hf1 hf2 hgg hlen
        rw [hcx] at hbk
        rw [hcr, hcx] at hnx
        have v1 := hv.set (q := q) (v := rd left q - f) (by omega) (by omega)
        have e1 : ∀ h, 0 ≤ h → h < 3 → rd (left.set q.toNat (rd left q - f)) h = set3 (rd left 0) (rd left 1) (rd left 2) q (rd left q - f) h := fun h a b => set3_rd left q (rd left q - f) h hq0 hql hl3 a b
        have e2 : ∀ h, 0 ≤ h → h < 3 → rd (least.set q.toNat (rd least q + f)) h = set3 (rd least 0) (rd least 1) (rd least 2) q (rd least q + f) h := fun h a b => set3_rd least q (rd least q + f) h hq0 (by omega) (by omega) a b
        have i1 := ih (left.set q.toNat (rd left q - f)) (least.set q.toNat (rd least q + f)) e t1 (out ++ [⟨q, rd least q + f, false⟩]) v1 (by simpa using hl) (by simpa using hb) ht1 (by rw [List.length_append]; simp; omega)
          (by rw [e1 0 (by omega) (by omega), e1 1 (by omega) (by omega), e1 2 (by omega) (by omega), e2 0 (by omega) (by omega), e2 1 (by omega) (by omega), e2 2 (by omega) (by omega), List.length_append]; exact hnx)
        obtain ⟨t2, ht2, i2⟩ := i1
        rw [e1 0 (by omega) (by omega), e1 1 (by omega) (by omega), e1 2 (by omega) (by omega), e2 0 (by omega) (by omega), e2 1 (by omega) (by omega), e2 2 (by omega) (by omega), List.append_assoc] at i2
        refine ⟨t2, ht2, go _ ?_⟩
        rw [plays_whole h0 hgs (by rw [hcx]; exact hbk), hcx, hcr]
        refine Ev.congr (fun k => ?_) i2
        rw [w64 (x := rd least q + f) (by omega) (by omega), w64 (x := rd left q - f) (by omega) (by omega), if_neg (by omega), decide_eq_false (by omega)]

/-! ### The table -/
theorem rd_replicate (n : Nat) (v : Int) (i : Int) (h0 : 0 ≤ i) (h : i < (n : Int)) : rd (List.replicate n v) i = v := by
  unfold rd
  rw [List.getD_eq_getElem?_getD, List.getElem?_replicate, if_pos (by omega)]
  rfl
theorem tab_l1 (n : Nat) (hn : n ≤ 100000) : ∀ (d i : Nat), i + d = n → Ev (fun k => spec_hoTable.l1 k (List.replicate i (-1) ++ List.replicate d 0) (n : Int) (i : Int)) (List.replicate n (-1)) := by
  intro d
  induction d with
  | zero =>
    intro i hi
    have hi' : i = n := by omega
    subst hi'
    refine ⟨1, fun k hk => ?_⟩
    obtain ⟨k, rfl⟩ : ∃ m, k = m + 1 := ⟨k - 1, by omega⟩
    simp only [spec_hoTable.l1]
    rw [if_neg (by omega)]
    simp
  | succ d ih =>
    intro i hi
    refine Ev.step (fun k => ?_) (ih (i + 1) (by omega))
    simp only [spec_hoTable.l1]
    rw [if_pos (by omega), if_pos (by omega), if_pos (by simp; omega), w64 (by omega) (by omega)]
    congr 1
    rw [List.replicate_succ, List.replicate_succ', List.append_assoc]
    simp
theorem tab_ev : Ev (fun k => spec_hoTable.f k) (List.replicate 5103 (-1)) := by
  have h := tab_l1 5103 (by omega) 5103 0 (by omega)
  refine Ev.step (f := fun k => spec_hoTable.l0 k 63 1) (fun k => ?_) (Ev.step (f := fun k => spec_hoTable.l0 k 567 2) (fun k => ?_) (Ev.step (f := fun k => spec_hoTable.l0 k 5103 3) (fun k => ?_) (Ev.step (f := fun k => spec_hoTable.l1 k (List.replicate 5103 0) 5103 0) (fun k => ?_) h)))
  · simp [spec_hoTable.f, spec_hoTable.l0, wrap64]
  · simp [spec_hoTable.l0, wrap64]
  · simp [spec_hoTable.l0, wrap64]
  · simp only [spec_hoTable.l0]
    rw [if_neg (by omega), if_pos (by omega), if_pos (by omega)]
    simp only [Option.bind_some, List.length_replicate]
    rfl
theorem tabOk_new : TabOk (List.replicate 5103 (-1)) :=
  ⟨by rw [List.length_replicate], fun a b c e h1 h2 h3 h4 h5 h6 h7 h8 => by
    have hr := plc_range h1 h2 h3 h4 h5 h6 h7 h8
    exact .inl (rd_replicate _ _ _ hr.1 hr.2)⟩

end Go.Proofs.Ytfemdpdnnifehaa.PH

set_option linter.unusedVariables false
set_option linter.unusedSimpArgs false
namespace Go.Proofs.Ytfemdpdnnifehaa.PH
open Go.RowKit Go.Proofs.YtfemdpdnnifehaaW.PrintWords Go.Proofs.YtfemdpdnnifehaaW.PrintLast

def allOk (l : List Int) : Bool := l.all fun x => decide (x ≥ 0) && decide (x ≤ 8)
def goodB (l : List Int) : Bool := (decide (1 ≤ l.length) && decide (l.length ≤ 3)) && allOk l
def askB (e : Int) (l : List Int) : Bool := goodB l && (decide (need3 (rd l 0) (rd l 1) (rd l 2) ≤ e) && decide (e ≤ 6))
def brkFrom (l br : List Int) (i : Nat) : Nat → Bool
  | 0 => true
  | d + 1 => (decide (0 ≤ rd br i) && decide (rd br i ≤ rd l i)) && brkFrom l br (i + 1) d
def brkB (l br : List Int) : Bool := decide (br.length = l.length) && brkFrom l br 0 br.length

theorem VL_of_good {l : List Int} (h : goodB l = true) : VL l := by
  simp only [goodB, allOk, Bool.and_eq_true, decide_eq_true_eq, List.all_eq_true] at h
  exact ⟨h.1, fun x hx => h.2 x hx⟩
theorem good_of_VL {l : List Int} (h : VL l) : goodB l = true := by
  simp only [goodB, allOk, Bool.and_eq_true, decide_eq_true_eq, List.all_eq_true]
  exact ⟨h.1, fun x hx => h.2 x hx⟩

theorem within_some (x a b : Int) : impl_within.f x a b = some (decide (a ≤ x) && decide (x ≤ b)) := by
  unfold impl_within.f
  by_cases h : x ≥ a
  · rw [if_pos h, decide_eq_true (show a ≤ x from h), Bool.true_and]
  · rw [if_neg h, decide_eq_false (show ¬ a ≤ x from h), Bool.false_and]
theorem l1In_some (x a b : Int) : spec_l1In.f x a b = some (decide (a ≤ x) && decide (x ≤ b)) := by
  unfold spec_l1In.f
  by_cases h : x ≥ a
  · rw [if_pos h, decide_eq_true (show a ≤ x from h), Bool.true_and]
  · rw [if_neg h, decide_eq_false (show ¬ a ≤ x from h), Bool.false_and]

theorem l1All_ev (l : List Int) (hl : l.length ≤ 100000) : ∀ (d i : Nat), i + d = l.length → Ev (fun k => spec_l1All.l0 k 0 8 l (l.length : Int) i) (allOk (l.drop i)) := by
  intro d
  induction d with
  | zero =>
    intro i hi
    refine ⟨1, fun k hk => ?_⟩
    obtain ⟨k, rfl⟩ : ∃ m, k = m + 1 := ⟨k - 1, by omega⟩
    simp only [spec_l1All.l0]
    rw [if_neg (by omega), List.drop_eq_nil_of_le (by omega)]
    rfl
  | succ d ih =>
    intro i hi
    have hd := drop_at l i (by omega)
    have e1 : allOk (l.drop i) = ((decide (rd l i ≥ 0) && decide (rd l i ≤ 8)) && allOk (l.drop (i + 1))) := by rw [hd]; rfl
    have start : ∀ r, Ev (fun k => if (decide (0 ≤ rd l i) && decide (rd l i ≤ 8)) = true then (spec_l1All.l0 k 0 8 l (l.length : Int) (wrap64 ((i : Int) + 1))) else (some false)) r → Ev (fun k => spec_l1All.l0 k 0 8 l (l.length : Int) i) r := fun r hr => by
      refine Ev.step (fun k => ?_) hr
      simp only [spec_l1All.l0]
      rw [if_pos (by omega), if_pos (by omega), if_pos (by omega), l1In_some]
      rfl
    refine start _ ?_
    rw [e1]
    by_cases hb : (decide (0 ≤ rd l i) && decide (rd l i ≤ 8)) = true
    · have hb2 : (decide (rd l i ≥ 0) && decide (rd l i ≤ 8)) = true := hb
      simp only [hb, hb2, if_true, Bool.true_and]
      rw [w64 (by omega) (by omega)]
      exact ih (i + 1) (by omega)
    · have hb' : (decide (0 ≤ rd l i) && decide (rd l i ≤ 8)) = false := by simpa using hb
      have hb2 : (decide (rd l i ≥ 0) && decide (rd l i ≤ 8)) = false := hb'
      simp only [hb', hb2, Bool.false_and, Bool.false_eq_true, if_false]
      exact Ev.now _

theorem hoGood_ev (l : List Int) : Ev (fun k => spec_hoGood.f k l) (goodB l) := by
  have start : ∀ r, Ev (fun k => if (decide (1 ≤ (l.length : Int)) && decide ((l.length : Int) ≤ 3)) = true then ((spec_l1All.f k l 0 8).bind fun t105 => (some t105)) else (some false)) r → Ev (fun k => spec_hoGood.f k l) r := fun r hr => by
    refine Ev.congr (fun k => ?_) hr
    unfold spec_hoGood.f
    rw [l1In_some]
    rfl
  refine start _ ?_
  have hb : (decide (1 ≤ (l.length : Int)) && decide ((l.length : Int) ≤ 3)) = (decide (1 ≤ l.length) && decide (l.length ≤ 3)) := by
    rw [Bool.eq_iff_iff]
    simp
    omega
  rw [hb]
  unfold goodB
  by_cases h : (decide (1 ≤ l.length) && decide (l.length ≤ 3)) = true
  · simp only [h, if_true, Bool.true_and]
    have h3 : l.length ≤ 3 := by simp at h; exact h.2
    exact Ev.bind (l1All_ev l (by omega) l.length 0 (by omega)) (Ev.now _)
  · have h' : (decide (1 ≤ l.length) && decide (l.length ≤ 3)) = false := by simpa using h
    simp only [h', Bool.false_and, Bool.false_eq_true, if_false]
    exact Ev.now _

theorem hoAsked_ev (e : Int) (l : List Int) : Ev (fun k => spec_hoAsked.f k e l) (askB e l) := by
  refine Ev.bind (hoGood_ev l) ?_
  unfold askB
  by_cases h : goodB l = true
  · simp only [h, if_true, Bool.true_and]
    refine Ev.bind (needed_ev l (VL_of_good h)) ?_
    simp only [l1In_some, Option.bind_some]
    exact Ev.now _
  · have h' : goodB l = false := by simpa using h
    simp only [h', Bool.false_and, Bool.false_eq_true, if_false]
    exact Ev.now _

theorem impl_needed_ev (l : List Int) (h : VL l) : Ev (fun k => impl_eggsNeeded.f k l) (need3 (rd l 0) (rd l 1) (rd l 2)) := by
  refine Ev.of (impl_eggsNeeded.mono l) (k := 5) ?_
  rcases h.cases with ⟨a, rfl⟩ | ⟨a, b, rfl⟩ | ⟨a, b, c, rfl⟩
  · unfold need3
    by_cases h1 : a > 0 <;> simp [impl_eggsNeeded.f, impl_eggsNeeded.l0, rd, h1, wrap64]
  · unfold need3
    by_cases h1 : a > 0 <;> by_cases h2 : b > 0 <;> simp [impl_eggsNeeded.f, impl_eggsNeeded.l0, rd, h1, h2, wrap64]
  · unfold need3
    by_cases h1 : a > 0 <;> by_cases h2 : b > 0 <;> by_cases h3 : c > 0 <;> simp [impl_eggsNeeded.f, impl_eggsNeeded.l0, rd, h1, h2, h3, wrap64]
theorem isStocked_ev (e : Int) (l : List Int) : Ev (fun k => impl_isStocked.f k e l) (askB e l) := by
  unfold askB
  by_cases h : goodB l = true
  · have hA : impl_AreHouses.f l = some true := by rw [← h]; rfl
    simp only [h, Bool.true_and]
    refine Ev.congr (f := fun k => (impl_eggsNeeded.f k l).bind fun t259 => ((impl_within.f e t259 6).bind fun t260 => (some t260))) (fun k => ?_) (Ev.bind (impl_needed_ev l (VL_of_good h)) ?_)
    · unfold impl_isStocked.f
      rw [hA]
      rfl
    · simp only [within_some, Option.bind_some]
      exact Ev.now _
  · have h' : goodB l = false := by simpa using h
    have hA : impl_AreHouses.f l = some false := by rw [← h']; rfl
    simp only [h', Bool.false_and]
    refine Ev.congr (fun k => ?_) (Ev.now false)
    unfold impl_isStocked.f
    rw [hA]
    rfl

theorem hoBreaks_ev (l br : List Int) (hl : br.length = l.length → br.length ≤ 100000000) : Ev (fun k => spec_hoBreaks.f k l br) (brkB l br) := by
  unfold brkB
  by_cases h : br.length = l.length
  · have hl := hl h
    rw [decide_eq_true h, Bool.true_and]
    refine Ev.congr (f := fun k => spec_hoBreaks.l0 k l br (br.length : Int) 0) (fun k => ?_) ?_
    · unfold spec_hoBreaks.f
      rw [if_pos (by omega)]
    · have key : ∀ (d i : Nat), i + d = br.length → Ev (fun k => spec_hoBreaks.l0 k l br (br.length : Int) i) (brkFrom l br i d) := by
        intro d
        induction d with
        | zero =>
          intro i hi
          refine ⟨1, fun k hk => ?_⟩
          obtain ⟨k, rfl⟩ : ∃ m, k = m + 1 := ⟨k - 1, by omega⟩
          simp only [spec_hoBreaks.l0]
          rw [if_neg (by omega)]
          rfl
        | succ d ih =>
          intro i hi
          have start : ∀ r, Ev (fun k => if (decide (0 ≤ rd br i) && decide (rd br i ≤ rd l i)) = true then (spec_hoBreaks.l0 k l br (br.length : Int) (wrap64 ((i : Int) + 1))) else (some false)) r → Ev (fun k => spec_hoBreaks.l0 k l br (br.length : Int) i) r := fun r hr => by
            refine Ev.step (fun k => ?_) hr
            simp only [spec_hoBreaks.l0]
            rw [if_pos (by omega), if_pos (by omega), if_pos (by omega), if_pos (by omega), l1In_some]
            rfl
          refine start _ ?_
          simp only [brkFrom]
          by_cases hb : (decide (0 ≤ rd br i) && decide (rd br i ≤ rd l i)) = true
          · simp only [hb, if_true, Bool.true_and]
            rw [w64 (by omega) (by omega)]
            exact ih (i + 1) (by omega)
          · have hb' : (decide (0 ≤ rd br i) && decide (rd br i ≤ rd l i)) = false := by simpa using hb
            simp only [hb', Bool.false_and, Bool.false_eq_true, if_false]
            exact Ev.now _
      exact key br.length 0 (by omega)
  · rw [decide_eq_false h, Bool.false_and]
    refine Ev.congr (fun k => ?_) (Ev.now false)
    unfold spec_hoBreaks.f
    rw [if_neg (by omega)]

theorem areBreaks_ev (l br : List Int) (hl : br.length = l.length → br.length ≤ 100000000) : Ev (fun k => impl_areBreaks.f k l br) (brkB l br) := by
  unfold brkB
  by_cases h : br.length = l.length
  · have hl := hl h
    rw [decide_eq_true h, Bool.true_and]
    refine Ev.congr (f := fun k => impl_areBreaks.l0 k l br (br.length : Int) 0) (fun k => ?_) ?_
    · unfold impl_areBreaks.f
      rw [if_pos (by omega)]
    · have key : ∀ (d i : Nat), i + d = br.length → Ev (fun k => impl_areBreaks.l0 k l br (br.length : Int) i) (brkFrom l br i d) := by
        intro d
        induction d with
        | zero =>
          intro i hi
          refine ⟨1, fun k hk => ?_⟩
          obtain ⟨k, rfl⟩ : ∃ m, k = m + 1 := ⟨k - 1, by omega⟩
          simp only [impl_areBreaks.l0]
          rw [if_neg (by omega)]
          rfl
        | succ d ih =>
          intro i hi
          have start : ∀ r, Ev (fun k => if (decide (0 ≤ rd br i) && decide (rd br i ≤ rd l i)) = true then (impl_areBreaks.l0 k l br (br.length : Int) (wrap64 ((i : Int) + 1))) else (some false)) r → Ev (fun k => impl_areBreaks.l0 k l br (br.length : Int) i) r := fun r hr => by
            refine Ev.step (fun k => ?_) hr
            simp only [impl_areBreaks.l0]
            rw [if_pos (by omega), if_pos (by omega), if_pos (by omega), if_pos (by omega)]
            unfold impl_isBreak.f
            rw [within_some]
            rfl
          refine start _ ?_
          simp only [brkFrom]
          by_cases hb : (decide (0 ≤ rd br i) && decide (rd br i ≤ rd l i)) = true
          · simp only [hb, if_true, Bool.true_and]
            rw [w64 (by omega) (by omega)]
            exact ih (i + 1) (by omega)
          · have hb' : (decide (0 ≤ rd br i) && decide (rd br i ≤ rd l i)) = false := by simpa using hb
            simp only [hb', Bool.false_and, Bool.false_eq_true, if_false]
            exact Ev.now _
      exact key br.length 0 (by omega)
  · rw [decide_eq_false h, Bool.false_and]
    refine Ev.congr (fun k => ?_) (Ev.now false)
    unfold impl_areBreaks.f
    rw [if_neg (by omega)]

/-- The drops of a play. -/
def playsOf (N : Int) (e : Int) (l br : List Int) : List S51 := plays N 25 (rd l 0) (rd l 1) (rd l 2) e 0 0 0 br
/-- What PlayHouses answers. -/
def phAns (e : Int) (l br : List Int) : List S51 × Bool := if (askB e l && brkB l br) = true then (playsOf 1125899906842624 e l br, true) else ([], false)

theorem ask_num {e : Int} {l br : List Int} (ha : askB e l = true) (hb : brkB l br = true) : VL l ∧ br.length = l.length ∧ e ≤ 6 ∧ need3 (rd l 0) (rd l 1) (rd l 2) ≤ e ∧ NumRel 25 (rd l 0) (rd l 1) (rd l 2) e 0 0 0 br 0 := by
  simp only [askB, Bool.and_eq_true, decide_eq_true_eq] at ha
  simp only [brkB, Bool.and_eq_true, decide_eq_true_eq] at hb
  have hv := VL_of_good ha.1
  have r0 := hv.val 0
  have r1 := hv.val 1
  have r2 := hv.val 2
  exact ⟨hv, hb.1, ha.2.2, ha.2.1, ⟨by omega, by omega, by omega⟩, ⟨by omega, by omega, by omega⟩, ⟨by omega, by omega, by omega⟩, ha.2.1, ha.2.2, fun h => rd_out (by omega), fun h => rd_out (by omega), fun h => rd_out (by omega), by omega, by omega⟩

theorem hoPlay_ev (e : Int) (l br : List Int) (t : List Int) (ha : askB e l = true) (hb : brkB l br = true) (ht : TabOk t) : ∃ t', TabOk t' ∧ Ev (fun k => spec_hoPlay.f k t e l br) (playsOf 1125899906842624 e l br, t') := by
  obtain ⟨hv, hbl, he, hn, hnum⟩ := ask_num ha hb
  have hl3 := hv.1.2
  have hz : ∀ i : Int, 0 ≤ i → i < 3 → rd (List.replicate l.length 0) i = 0 := fun i h0 h3 => by
    by_cases h : i < (l.length : Int)
    · exact rd_replicate _ _ _ h0 h
    · exact rd_out (by simp; omega)
  have z0 := hz 0 (by omega) (by omega)
  have z1 := hz 1 (by omega) (by omega)
  have z2 := hz 2 (by omega) (by omega)
  obtain ⟨t', ht', h⟩ := play_ev br 25 l (List.replicate l.length 0) e t [] hv (by simp) hbl ht (by simp) (by rw [z0, z1, z2]; exact hnum)
  refine ⟨t', ht', Ev.congr (fun k => ?_) (by rw [z0, z1, z2, List.nil_append] at h; rw [playsOf, plays_agree (N := 1125899906842624) (M := 1000) (by omega) (by omega) _ _ _ _ _ _ _ _ _ _ hnum]; exact h)⟩
  unfold spec_hoPlay.f spec_l1Own.f
  rw [if_pos (by omega), if_pos (by omega)]
  simp only [Option.bind_some, List.length_nil, List.nil_append]
  rw [if_pos (by omega)]
  simp only [Option.bind_some, Int.toNat_natCast]

theorem specPlay_ev (e : Int) (l br : List Int) : Ev (fun k => spec_PlayHouses.f k e l br) (phAns e l br) := by
  refine Ev.bind (hoAsked_ev e l) ?_
  unfold phAns
  by_cases ha : askB e l = true
  · simp only [ha, if_true, Bool.true_and]
    refine Ev.bind (hoBreaks_ev l br (fun h => by have := (VL_of_good (by simp only [askB, Bool.and_eq_true] at ha; exact ha.1)).1.2; omega)) ?_
    by_cases hb : brkB l br = true
    · simp only [hb, if_true, Bool.not_true]
      obtain ⟨t', ht', hp⟩ := hoPlay_ev e l br _ ha hb tabOk_new
      refine Ev.step (f := fun k => (spec_hoTable.f k).bind fun t236 => ((spec_hoPlay.f k t236 e l br).bind fun bt239 => (some (bt239.1, true)))) (fun k => ?_) (Ev.bind tab_ev (Ev.bind hp (Ev.now _)))
      simp [spec_PlayHouses.j0]
    · have hb' : brkB l br = false := by simpa using hb
      simp only [hb', Bool.not_false, Bool.false_eq_true, if_false]
      refine Ev.step (f := fun k => some ([], false)) (fun k => ?_) (Ev.now _)
      simp [spec_PlayHouses.j0]
  · have ha' : askB e l = false := by simpa using ha
    simp only [ha', Bool.false_and, Bool.false_eq_true, if_false]
    refine Ev.step (f := fun k => some ([], false)) (fun k => ?_) (Ev.now _)
    simp [spec_PlayHouses.j0]

end Go.Proofs.Ytfemdpdnnifehaa.PH
