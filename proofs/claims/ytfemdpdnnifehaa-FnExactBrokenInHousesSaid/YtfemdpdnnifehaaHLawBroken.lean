/- FnExactBrokenInHouses: the program's BrokenInHouses answers as the reference's does, whatever it is given. -/
import Derived.Test.YtfemdpdnnifehaaPHx0
import Derived.Test.YtfemdpdnnifehaaPHx15
import Derived.Test.YtfemdpdnnifehaaHIntc
import Derived.Test.YtfemdpdnnifehaaHAskd
import Derived.Test.YtfemdpdnnifehaaHPH
-- NEEDS HIntc
-- NEEDS HAskd
-- NEEDS HPH
set_option linter.unusedVariables false
set_option linter.unusedSimpArgs false
namespace Go.Proofs.Ytfemdpdnnifehaa.PH
open Go.RowKit Go.Proofs.YtfemdpdnnifehaaW.PrintWords Go.Proofs.YtfemdpdnnifehaaW.PrintLast

theorem phAns_short_ (a0 : Int) (l1 l2 : List Int) : (phAns a0 l1 l2).1.length ≤ 24 := by
  unfold phAns
  split
  · rename_i h
    simp only [Bool.and_eq_true] at h
    obtain ⟨hv, _, _, _, hnum⟩ := ask_num h.1 h.2
    have hl := plays_length (N := 1125899906842624) (by omega) _ _ _ _ _ _ _ _ _ _ hnum
    have r0 := hv.val 0
    have r1 := hv.val 1
    have r2 := hv.val 2
    show (playsOf 1125899906842624 a0 l1 l2).length ≤ 24
    unfold playsOf
    omega
  · simp
theorem broken_both (xs : List S51) (hx : xs.length ≤ 24) : ∀ (d i : Nat) (c : Int), i + d = xs.length → ∃ n, Ev (fun k => spec_BrokenInHouses.l0 k c xs (xs.length : Int) i) (n, true) ∧ ∀ b, Ev (fun k => impl_BrokenInHouses.l0 k b c xs (xs.length : Int) i) (n, b) := by
  intro d
  induction d with
  | zero =>
    intro i c hi
    refine ⟨c, ⟨1, fun k hk => ?_⟩, fun b => ⟨1, fun k hk => ?_⟩⟩
    · obtain ⟨k, rfl⟩ : ∃ m, k = m + 1 := ⟨k - 1, by omega⟩
      simp only [spec_BrokenInHouses.l0]
      rw [if_neg (by omega)]
    · obtain ⟨k, rfl⟩ : ∃ m, k = m + 1 := ⟨k - 1, by omega⟩
      simp only [impl_BrokenInHouses.l0]
      rw [if_neg (by omega)]
  | succ d ih =>
    intro i c hi
    have ew : wrap64 ((i : Int) + 1) = ((i + 1 : Nat) : Int) := by unfold wrap64; omega
    by_cases hf : (rd_T51 xs i).f2 = true
    · obtain ⟨n, h1, h2⟩ := ih (i + 1) (wrap64 (c + 1)) (by omega)
      refine ⟨n, Ev.step (fun k => ?_) h1, fun b => Ev.step (fun k => ?_) (h2 b)⟩
      · simp only [spec_BrokenInHouses.l0]
        rw [if_pos (by omega), if_pos (by omega), if_pos (by omega), if_pos hf, ew]
      · simp only [impl_BrokenInHouses.l0]
        rw [if_pos (by omega), if_pos (by omega), if_pos (by omega), if_pos hf, ew]
    · obtain ⟨n, h1, h2⟩ := ih (i + 1) c (by omega)
      refine ⟨n, Ev.step (fun k => ?_) h1, fun b => Ev.step (fun k => ?_) (h2 b)⟩
      · simp only [spec_BrokenInHouses.l0]
        rw [if_pos (by omega), if_pos (by omega), if_pos (by omega), if_neg hf, ew]
      · simp only [impl_BrokenInHouses.l0]
        rw [if_pos (by omega), if_pos (by omega), if_pos (by omega), if_neg hf, ew]
theorem pure_FnExactBrokenInHouses (a0 : Int) (l1 l2 : List Int) : ∃ (n : Int) (b : Bool), (∃ k, spec_BrokenInHouses.f k a0 l1 l2 = some (n, b)) ∧ (∃ k, impl_BrokenInHouses.f k a0 l1 l2 = some (n, b)) := by
  obtain ⟨n, h1, h2⟩ := broken_both (phAns a0 l1 l2).1 (phAns_short_ a0 l1 l2) (phAns a0 l1 l2).1.length 0 0 (by omega)
  by_cases hb : (phAns a0 l1 l2).2 = true
  · refine ⟨n, true, Ev.rounds (Ev.bind (specPlay_ev a0 l1 l2) ?_), Ev.rounds (Ev.congr (fun k => ?_) (h2 true))⟩
    · simp only [hb, if_true]
      exact h1
    · rw [← hb]
      rfl
  · have hb' : (phAns a0 l1 l2).2 = false := by simpa using hb
    have hnil : (phAns a0 l1 l2).1 = [] := by
      unfold phAns at hb' ⊢
      split
      · rename_i h
        rw [if_pos h] at hb'
        cases hb'
      · rfl
    refine ⟨0, false, Ev.rounds (Ev.bind (specPlay_ev a0 l1 l2) ?_), ⟨1, ?_⟩⟩
    · simp only [hb', Bool.false_eq_true, if_false]
      exact Ev.now _
    · show impl_BrokenInHouses.l0 1 (phAns a0 l1 l2).2 0 (phAns a0 l1 l2).1 ((phAns a0 l1 l2).1.length : Int) 0 = some (0, false)
      rw [hb', hnil]
      simp [impl_BrokenInHouses.l0]
/-- Both answer the same. -/
theorem both_FnExactBrokenInHouses (a0 : Int) (l1 l2 : List Int) : ∃ (n : Int) (b : Bool),
    (∀ W A c A' c', Kd.C (Kd.int .i64) W A l1.length l1 → l1.length ≤ c → Kd.C (Kd.int .i64) W A' l2.length l2 → l2.length ≤ c' → Calls Try.prog 12 #[.int .i64 a0, .slice A l1.length c, .slice A' l2.length c'] W fun e w' => e = .returned (.tuple #[.int .i64 n, .bool b]) ∧ Below W.heap.size W w') ∧
    (∀ W A c A' c', Kd.C (Kd.int .i64) W A l1.length l1 → l1.length ≤ c → Kd.C (Kd.int .i64) W A' l2.length l2 → l2.length ≤ c' → Calls Try.prog 13 #[.int .i64 a0, .slice A l1.length c, .slice A' l2.length c'] W fun e w' => e = .returned (.tuple #[.int .i64 n, .bool b]) ∧ Below W.heap.size W w') := by
  obtain ⟨n, b, ⟨k, hs⟩, ⟨ki, hi⟩⟩ := pure_FnExactBrokenInHouses a0 l1 l2
  exact ⟨n, b, fun W A c A' c' h1 hc1 h2 hc2 => spec_BrokenInHouses.calls k a0 A c l1 A' c' l2 n b W h1 hc1 h2 hc2 hs, fun W A c A' c' h1 hc1 h2 hc2 => impl_BrokenInHouses.calls ki a0 A c l1 A' c' l2 n b W h1 hc1 h2 hc2 hi⟩

set_option maxHeartbeats 4000000 in
set_option maxRecDepth 100000 in
theorem lawT_FnExactBrokenInHouses.told (a0 : Int) (A1 : Option Addr) (c1 : Nat) (l1 : List Int) (A2 : Option Addr) (c2 : Nat) (l2 : List Int) (w : World) (hr1 : Kd.C (Kd.int .i64) w A1 l1.length l1) (hr2 : Kd.C (Kd.int .i64) w A2 l2.length l2) (y1 : l1.length * 8 ≤ 140737488351232) (y2 : l2.length * 8 ≤ 140737488351232) :
    Calls Try.prog 4 #[.int .i64 a0, .slice A1 l1.length c1, .slice A2 l2.length c2] w fun e w' => e = .returned (.bool true) ∧ Below w.heap.size w w' := by
  have HR1 := Aside0.mk hr1
  have HR2 := Aside0.mk hr2
  clear hr1 hr2
  obtain ⟨n, b, hS, hI⟩ := both_FnExactBrokenInHouses a0 l1 l2
  have HS := Aside0.mk hS
  have HI := Aside0.mk hI
  clear hS hI
  by_cases hbig : 1000000 < (l1.length : Int) + (l2.length : Int)
  · have hd : decide (1000000 < (l1.length : Int) + (l2.length : Int)) = true := decide_eq_true hbig
    go_enter Try.func4, Try.ntmps4
    go_wp2
    go_ret
    exact ⟨rfl, Below.refl _ _⟩
  · have hd : decide (1000000 < (l1.length : Int) + (l2.length : Int)) = false := decide_eq_false hbig
    have hn1 : l1.length ≤ 1000000 := by omega
    have hn2 : l2.length ≤ 1000000 := by omega
    have HB0 := Aside0.mk (Below.refl w.heap.size w)
    have HN1 := Aside0.mk hn1
    have HN2 := Aside0.mk hn2
    go_enter Try.func4, Try.ntmps4
    go_wp2_with fail
    (with_reducible refine (toIntS_false A1 c1 l1 _ (Kd.C_below HR1.out HB0.out) HN1.out).mono ?_)
    rintro e w1 ⟨g1, rfl, _, hk, hb⟩
    have HK1 := Aside0.mk hk
    have HE1 := Aside0.mk hb
    have HB1 := Aside0.mk (HB0.out.trans (hb.mono HB0.out.size))
    clear hb hk
    go_wp2_with fail
    (with_reducible refine (toIntS_false A2 c2 l2 _ (Kd.C_below HR2.out HB1.out) HN2.out).mono ?_)
    rintro e w2 ⟨g2, rfl, _, hk, hb⟩
    have HK2 := Aside0.mk hk
    have HE2 := Aside0.mk hb
    have HB2 := Aside0.mk (HB1.out.trans (hb.mono HB1.out.size))
    clear hb hk
    go_wp2_with fail
    (with_reducible refine (HS.out _ _ _ _ _ (IntBlk.reads (l := l1) (xs := List.replicate (room l1.length) filler) (HK1.out.below HE2.out) (by have := HN1.out; omega)) (by rw [fullI_length]; omega) (IntBlk.reads (l := l2) (xs := List.replicate (room l2.length) filler) HK2.out (by have := HN2.out; omega)) (by rw [fullI_length]; omega)).mono ?_)
    rintro e w3 ⟨rfl, hb⟩
    have HE3 := Aside0.mk hb
    have HB3 := Aside0.mk (HB2.out.trans (hb.mono HB2.out.size))
    clear hb
    go_wp2_with fail
    (with_reducible refine (toIntS_false A1 c1 l1 _ (Kd.C_below HR1.out HB3.out) HN1.out).mono ?_)
    rintro e w4 ⟨g3, rfl, _, hk, hb⟩
    have HK3 := Aside0.mk hk
    have HE4 := Aside0.mk hb
    have HB4 := Aside0.mk (HB3.out.trans (hb.mono HB3.out.size))
    clear hb hk
    go_wp2_with fail
    (with_reducible refine (toIntS_false A2 c2 l2 _ (Kd.C_below HR2.out HB4.out) HN2.out).mono ?_)
    rintro e w5 ⟨g4, rfl, _, hk, hb⟩
    have HK4 := Aside0.mk hk
    have HE5 := Aside0.mk hb
    have HB5 := Aside0.mk (HB4.out.trans (hb.mono HB4.out.size))
    clear hb hk
    go_wp2_with fail
    (with_reducible refine (HI.out _ _ _ _ _ (IntBlk.reads (l := l1) (xs := List.replicate (room l1.length) filler) (HK3.out.below HE5.out) (by have := HN1.out; omega)) (by rw [fullI_length]; omega) (IntBlk.reads (l := l2) (xs := List.replicate (room l2.length) filler) HK4.out (by have := HN2.out; omega)) (by rw [fullI_length]; omega)).mono ?_)
    rintro e w6 ⟨rfl, hb⟩
    have HE6 := Aside0.mk hb
    have HB6 := Aside0.mk (HB5.out.trans (hb.mono HB5.out.size))
    clear hb
    go_wp2_with fail
    (with_reducible refine (toIntS_false A1 c1 l1 _ (Kd.C_below HR1.out HB6.out) HN1.out).mono ?_)
    rintro e w7 ⟨g5, rfl, _, hk, hb⟩
    have HK5 := Aside0.mk hk
    have HE7 := Aside0.mk hb
    have HB7 := Aside0.mk (HB6.out.trans (hb.mono HB6.out.size))
    clear hb hk
    go_wp2_with fail
    (with_reducible refine (intact_true l1 _ _ _ (((HK3.out.below HE5.out).below HE6.out).below HE7.out) HK5.out HN1.out).mono ?_)
    rintro e w8 ⟨rfl, ⟨hd⟩⟩
    have hb : Below w7.heap.size w7 w8 := by
      obtain ⟨n, rfl⟩ := hd
      exact pw_below_drewN (Below.refl _ _) _
    clear hd
    have HE8 := Aside0.mk hb
    have HB8 := Aside0.mk (HB7.out.trans (hb.mono HB7.out.size))
    clear hb
    go_wp2_with fail
    (with_reducible refine (toIntS_false A2 c2 l2 _ (Kd.C_below HR2.out HB8.out) HN2.out).mono ?_)
    rintro e w9 ⟨g6, rfl, _, hk, hb⟩
    have HK6 := Aside0.mk hk
    have HE9 := Aside0.mk hb
    have HB9 := Aside0.mk (HB8.out.trans (hb.mono HB8.out.size))
    clear hb hk
    go_wp2_with fail
    (with_reducible refine (intact_true l2 _ _ _ ((((HK4.out.below HE6.out).below HE7.out).below HE8.out).below HE9.out) HK6.out HN2.out).mono ?_)
    rintro e w10 ⟨rfl, ⟨hd⟩⟩
    have hb : Below w9.heap.size w9 w10 := by
      obtain ⟨n, rfl⟩ := hd
      exact pw_below_drewN (Below.refl _ _) _
    clear hd
    have HE10 := Aside0.mk hb
    have HB10 := Aside0.mk (HB9.out.trans (hb.mono HB9.out.size))
    clear hb
    go_wp2_with fail
    (with_reducible refine (toIntS_bare A1 c1 l1 _ (Kd.C_below HR1.out HB10.out) HN1.out).mono ?_)
    rintro e w11 ⟨B7, d7, rfl, hc7, hr7, hb⟩
    have HC7 := Aside0.mk hc7
    have HR7 := Aside0.mk hr7
    have HE11 := Aside0.mk hb
    have HB11 := Aside0.mk (HB10.out.trans (hb.mono HB10.out.size))
    clear hb hc7 hr7
    go_wp2_with fail
    (with_reducible refine (toIntS_bare A2 c2 l2 _ (Kd.C_below HR2.out HB11.out) HN2.out).mono ?_)
    rintro e w12 ⟨B8, d8, rfl, hc8, hr8, hb⟩
    have HC8 := Aside0.mk hc8
    have HR8 := Aside0.mk hr8
    have HE12 := Aside0.mk hb
    have HB12 := Aside0.mk (HB11.out.trans (hb.mono HB11.out.size))
    clear hb hc8 hr8
    go_wp2_with fail
    (with_reducible refine (HI.out _ _ _ _ _ (Kd.C_below HR7.out HE12.out) HC7.out HR8.out HC8.out).mono ?_)
    rintro e w13 ⟨rfl, hb⟩
    have HE13 := Aside0.mk hb
    have HB13 := Aside0.mk (HB12.out.trans (hb.mono HB12.out.size))
    clear hb
    go_wp2
    go_ret
    exact ⟨rfl, HB13.out⟩

theorem lawT_FnExactBrokenInHouses.walk (a0 : Int) (a1 : Option Addr) (len1 cap1 : Nat) (z1 : List Int) (a2 : Option Addr) (len2 cap2 : Nat) (z2 : List Int) (w : World) (w1 : (a1 = none ∧ len1 = 0 ∧ cap1 = 0 ∧ z1 = []) ∨ ∃ x, a1 = some x ∧ len1 ≤ cap1 ∧ cap1 ≤ maxLen ∧ z1.length = cap1 ∧ (∀ i, i < z1.length → w.cell? (x.add i) = some (.int .i64 (z1.getD i 0))) ∧ ∀ n ∈ z1, (Lit.int .i64 n).wf = true) (y1 : len1 * 8 ≤ 140737488351232) (w2 : (a2 = none ∧ len2 = 0 ∧ cap2 = 0 ∧ z2 = []) ∨ ∃ x, a2 = some x ∧ len2 ≤ cap2 ∧ cap2 ≤ maxLen ∧ z2.length = cap2 ∧ (∀ i, i < z2.length → w.cell? (x.add i) = some (.int .i64 (z2.getD i 0))) ∧ ∀ n ∈ z2, (Lit.int .i64 n).wf = true) (y2 : len2 * 8 ≤ 140737488351232) :
    Calls Try.prog 4 #[.int .i64 a0, .slice a1 len1 cap1, .slice a2 len2 cap2] w fun e w' => e = .returned (.bool true) ∧ Below w.heap.size w w' := by
  obtain ⟨l1, rfl, hr1, hm1, hw1, hc1⟩ := ReadsInt.ofRowC w1
  obtain ⟨l2, rfl, hr2, hm2, hw2, hc2⟩ := ReadsInt.ofRowC w2
  exact lawT_FnExactBrokenInHouses.told a0 _ _ l1 _ _ l2 w (Kd.C_of_reads (d := (0 : Int)) (h1 := fun _ => rfl) hr1) (Kd.C_of_reads (d := (0 : Int)) (h1 := fun _ => rfl) hr2) y1 y2

end Go.Proofs.Ytfemdpdnnifehaa.PH
