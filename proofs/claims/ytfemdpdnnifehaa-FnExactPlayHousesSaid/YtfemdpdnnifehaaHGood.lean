/- impl: the village of houses (villageOf). -/
import Derived.Test.YtfemdpdnnifehaaPHx0
import Derived.Test.YtfemdpdnnifehaaHMap
import Derived.Test.YtfemdpdnnifehaaHPur
import Derived.Test.YtfemdpdnnifehaaHVil
import Derived.Test.YtfemdpdnnifehaaHWith
import Derived.Test.YtfemdpdnnifehaaHLeast
-- NEEDS HMap
-- NEEDS HPur
-- NEEDS HVil
-- NEEDS HWith
-- NEEDS HLeast
import Derived.Laws.CopyOwn
set_option linter.unusedVariables false
set_option linter.unusedSimpArgs false
namespace Go.Proofs.Ytfemdpdnnifehaa.PH
open Go.RowKit Go.Proofs.YtfemdpdnnifehaaW.PrintWords Go.Proofs.YtfemdpdnnifehaaW.PrintLast

set_option maxHeartbeats 4000000 in
set_option maxRecDepth 100000 in
theorem villageOf_any (e : Int) (A : Option Addr) (c : Nat) (l : List Int) (w : World) (hr : Kd.C (Kd.int .i64) w A l.length l) (h1 : 1 ≤ l.length) (h3 : l.length ≤ 3) :
    Calls Try.prog 49 #[.int .i64 e, .slice A l.length c] w fun r w' => r = .returned (Vl (rd l 0) (rd l 1) (rd l 2) e) ∧ Below w.heap.size w w' := by
  obtain ⟨_, _, hc⟩ := Kd.reads_of_C (d := (0 : Int)) hr
  obtain ⟨ad, rfl, hcell⟩ := hc (by omega)
  have HC : Aside0 (∀ W, Below w.heap.size w W → ∀ j v, (nums .i64 l)[j]? = some v → W.cell? (ad.add j) = some v) := ⟨fun W hb j v hj => by
    obtain ⟨hlt, hv⟩ := List.getElem?_eq_some_iff.1 hj
    rw [nums_length] at hlt
    have h := pw_cell_below hb (hcell j hlt)
    rw [h, ← hv]
    simp [nums, List.getElem?_eq_getElem hlt]⟩
  clear hcell hc hr
  have hu := Try.underlying62
  have hone : ∀ v ∈ nums .i64 l, v.oneCell' = true := fun v hv => by
    simp only [nums, List.mem_map] at hv
    obtain ⟨x, _, rfl⟩ := hv
    rfl
  have HO := Aside0.mk hone
  clear hone
  have hHG : ∀ (o : Obj), ((w.alloc o).alloc (.cells #[.int .i64 0, .int .i64 0, .int .i64 0, .int .i64 e] 62)).heap[w.heap.size + 1]? = some (.cells #[.int .i64 0, .int .i64 0, .int .i64 0, .int .i64 e] 62 (0, 0)) := fun o => by
    have := heap_alloc_new (w.alloc o) (.cells #[.int .i64 0, .int .i64 0, .int .i64 0, .int .i64 e] 62)
    simpa using this
  have HG := Aside0.mk hHG
  clear hHG
  have hsp : ∃ x y z, l = [x] ∧ y = 0 ∧ z = 0 ∨ l = [x, y] ∧ z = 0 ∨ l = [x, y, z] := by
    match l, h1, h3 with
    | [x], _, _ => exact ⟨x, 0, 0, .inl ⟨rfl, rfl, rfl⟩⟩
    | [x, y], _, _ => exact ⟨x, y, 0, .inr (.inl ⟨rfl, rfl⟩)⟩
    | [x, y, z], _, _ => exact ⟨x, y, z, .inr (.inr rfl)⟩
  obtain ⟨x, y, z, hsp⟩ := hsp
  have hspl : Aside0 (splice [.int .i64 0, .int .i64 0, .int .i64 0, .int .i64 e] 0 (nums .i64 l) = [.int .i64 x, .int .i64 y, .int .i64 z, .int .i64 e]) := ⟨by
    rcases hsp with ⟨rfl, rfl, rfl⟩ | ⟨rfl, rfl⟩ | rfl <;> rfl⟩
  have hval : Aside0 (Vl (rd l 0) (rd l 1) (rd l 2) e = Vl x y z e) := ⟨by
    rcases hsp with ⟨rfl, rfl, rfl⟩ | ⟨rfl, rfl⟩ | rfl <;> rfl⟩
  clear hsp
  have hmin : Aside0 ((nums .i64 l).length = Nat.min l.length 3) := ⟨by rw [nums_length]; exact (Nat.min_eq_left h3).symm⟩
  have hfit : Aside0 (0 + (nums .i64 l).length ≤ [Value.int .i64 0, .int .i64 0, .int .i64 0, .int .i64 e].length) := ⟨by rw [nums_length]; simp; omega⟩
  go_enter Try.func49, Try.ntmps49
  go_wp2_with (first
    | (refine wpList_copy_splice rfl (.tmp 9) (.tmp 10) 22 22 rfl 3 Try.underlying22 (by kernel_rfl) (some ⟨w.heap.size + 1, 0, none⟩) (some ad) 3 3 l.length c rfl rfl (w.heap.size + 1) 0 [.int .i64 0, .int .i64 0, .int .i64 0, .int .i64 e] 62 (HG.out _) (nums .i64 l) hmin.out (fun _ => ⟨rfl, ad, rfl, HC.out _ (by repeat (first | exact Below.refl _ _ | apply below_alloc))⟩) hfit.out HO.out (w.heap.size + 1) _ (Below.refl _ _) (Nat.le_refl _) ?_; intro w2 hg2 hb2; rw [hspl.out] at hg2; have HG2 := Aside0.mk hg2.out; have HB2 := Aside0.mk hb2; have hz2 := (hb2.block w.heap.size (by omega)).trans ((Below.heap_alloc _ _ _ (by simp)).trans (heap_alloc_new w _)); obtain ⟨c0, c1, c2, c3⟩ := VilAt.of_heap hg2.out; obtain ⟨z0, z1, z2, z3⟩ := VilAt.of_heap hz2; have f0 := blk_frozen hz2 0; have f1 := blk_frozen hz2 1; have f2 := blk_frozen hz2 2; have f3 := blk_frozen hz2 3; have HZ2 := Aside0.mk hz2; clear hz2 hg2 hb2))
  refine bodyPost_ret (v := Vl x y z e) (by simp [results, Try.results49, go_sem, hu, z0, z1, z2, z3]) rfl ⟨by rw [hval.out], ?_⟩
  have hb0 : Below w.heap.size w w2 := (below_alloc (below_alloc (Below.refl _ _) _) _).trans (HB2.out.mono (by omega))
  exact (((hb0.setCell (Nat.le_refl _) _).setCell (Nat.le_refl _) _).setCell (Nat.le_refl _) _).setCell (Nat.le_refl _) _

end Go.Proofs.Ytfemdpdnnifehaa.PH
