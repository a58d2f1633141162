/- The villages of impl: what is left behind a drop (parts); the village of houses (villageOf). -/
import Derived.Test.YtfemdpdnnifehaaPHx0
import Derived.Test.YtfemdpdnnifehaaPHx11
import Derived.Test.YtfemdpdnnifehaaHMap
import Derived.Test.YtfemdpdnnifehaaHPur
-- NEEDS HMap
-- NEEDS HPur
import Derived.BigRegion
set_option linter.unusedVariables false
set_option linter.unusedSimpArgs false
namespace Go.Proofs.Ytfemdpdnnifehaa.PH
open Go.RowKit Go.Proofs.YtfemdpdnnifehaaW.PrintWords Go.Proofs.YtfemdpdnnifehaaW.PrintLast

set_option maxHeartbeats 4000000 in
set_option maxRecDepth 100000 in
theorem parts0 (a b c e f : Int) (w : World) (hf1 : 1 ≤ f) (hf2 : f ≤ 8) (he1 : 1 ≤ e) (he2 : e ≤ 6) (ha1 : 0 ≤ a) (ha2 : a ≤ 8) :
    Calls Try.prog 74 #[Vl a b c e, .int .i64 0, .int .i64 f] w fun r w' => r = .returned (.tuple #[Vl (f - 1) b c (e - 1), Vl (a - f) b c e]) ∧ Below w.heap.size w w' := by
  have hu := Try.underlying62
  go_enter Try.func74, Try.ntmps74
  go_wp2
  go_region
  all_goals
    go_wp2
    go_region
    all_goals
      go_wp2
      go_region
      all_goals
        go_wp2
        refine bodyPost_ret (v := .tuple #[Vl (f - 1) b c (e - 1), Vl (a - f) b c e]) (by simp [results, Try.results74, go_sem, hu]) rfl ⟨rfl, ?_⟩
        repeat (first | exact Below.refl _ _ | apply below_alloc | apply below_drew)

set_option maxHeartbeats 4000000 in
set_option maxRecDepth 100000 in
theorem parts1 (a b c e f : Int) (w : World) (hf1 : 1 ≤ f) (hf2 : f ≤ 8) (he1 : 1 ≤ e) (he2 : e ≤ 6) (hb1 : 0 ≤ b) (hb2 : b ≤ 8) :
    Calls Try.prog 74 #[Vl a b c e, .int .i64 1, .int .i64 f] w fun r w' => r = .returned (.tuple #[Vl a (f - 1) c (e - 1), Vl a (b - f) c e]) ∧ Below w.heap.size w w' := by
  have hu := Try.underlying62
  go_enter Try.func74, Try.ntmps74
  go_wp2
  go_region
  all_goals
    go_wp2
    go_region
    all_goals
      go_wp2
      go_region
      all_goals
        go_wp2
        refine bodyPost_ret (v := .tuple #[Vl a (f - 1) c (e - 1), Vl a (b - f) c e]) (by simp [results, Try.results74, go_sem, hu]) rfl ⟨rfl, ?_⟩
        repeat (first | exact Below.refl _ _ | apply below_alloc | apply below_drew)

set_option maxHeartbeats 4000000 in
set_option maxRecDepth 100000 in
theorem parts2 (a b c e f : Int) (w : World) (hf1 : 1 ≤ f) (hf2 : f ≤ 8) (he1 : 1 ≤ e) (he2 : e ≤ 6) (hc1 : 0 ≤ c) (hc2 : c ≤ 8) :
    Calls Try.prog 74 #[Vl a b c e, .int .i64 2, .int .i64 f] w fun r w' => r = .returned (.tuple #[Vl a b (f - 1) (e - 1), Vl a b (c - f) e]) ∧ Below w.heap.size w w' := by
  have hu := Try.underlying62
  go_enter Try.func74, Try.ntmps74
  go_wp2
  go_region
  all_goals
    go_wp2
    go_region
    all_goals
      go_wp2
      go_region
      all_goals
        go_wp2
        refine bodyPost_ret (v := .tuple #[Vl a b (f - 1) (e - 1), Vl a b (c - f) e]) (by simp [results, Try.results74, go_sem, hu]) rfl ⟨rfl, ?_⟩
        repeat (first | exact Below.refl _ _ | apply below_alloc | apply below_drew)

/-! ### with, least: the one by the other -/

/-- The contract of eggsNeeded over the three floors of a village in memory. -/
theorem needed3 (g : Nat) (a b c e : Int) (w : World) (hg : w.heap[g]? = some (.cells #[.int .i64 a, .int .i64 b, .int .i64 c, .int .i64 e] 62 (0, 0))) :
    Calls Try.prog 72 #[.slice (some ⟨g, 0, none⟩) 3 3] w fun r w' => r = .returned (.int .i64 (need3 a b c)) ∧ Drawn0 w w' := by
  have hr : Kd.C (Kd.int .i64) w (some ⟨g, 0, none⟩) 3 [a, b, c] := by
    refine Kd.C_of_reads (d := (0 : Int)) (h1 := fun _ => rfl) ⟨rfl, by omega, fun _ => ⟨_, rfl, fun j hj => ?_⟩⟩
    rw [add_plain, cell_of_row w g _ _ _ _ hg]
    match j, hj with
    | 0, _ => rfl
    | 1, _ => rfl
    | 2, _ => rfl
  refine impl_eggsNeeded.calls 5 (some ⟨g, 0, none⟩) 3 [a, b, c] (need3 a b c) w hr (by simp) ?_
  unfold need3
  by_cases h1 : a > 0 <;> by_cases h2 : b > 0 <;> by_cases h3 : c > 0 <;> simp [impl_eggsNeeded.f, impl_eggsNeeded.l0, rd, h1, h2, h3, wrap64]

end Go.Proofs.Ytfemdpdnnifehaa.PH
