/- The least numbers of drops of impl (houser): with and least, each by the other. -/
import Derived.Test.YtfemdpdnnifehaaPHx0
import Derived.Test.YtfemdpdnnifehaaHMap
import Derived.Test.YtfemdpdnnifehaaHVil
-- NEEDS HMap
-- NEEDS HVil
import Derived.Deep.RegionWith
import Derived.Deep.RegionHeld3
set_option linter.unusedVariables false
set_option linter.unusedSimpArgs false
namespace Go.Proofs.Ytfemdpdnnifehaa.PH
open Go.RowKit Go.Proofs.YtfemdpdnnifehaaW.PrintWords Go.Proofs.YtfemdpdnnifehaaW.PrintLast

section
variable {L : Int → Int → Int → Int → Int} {w w' : World} {B : Nat}
theorem MapOk.step (h : MapOk L w B) (he : w'.heap[B]? = w.heap[B]?) : MapOk L w' B := by
  obtain ⟨es, c, hb, hes⟩ := h
  exact ⟨es, c, he.trans hb, hes⟩
theorem MapOk.lt (h : MapOk L w B) : B < w.heap.size := by
  obtain ⟨es, c, hb, hes⟩ := h
  exact (Array.getElem?_eq_some_iff.1 hb).1
theorem MapOk.below (h : MapOk L w B) (hb : Below w.heap.size w w') : MapOk L w' B := h.step (hb.block B h.lt)
theorem MapOk.alloc (h : MapOk L w B) (o : Obj) : MapOk L (w.alloc o) B := h.below (below_alloc (Below.refl _ _) o)
theorem MapOk.drew (h : MapOk L w B) : MapOk L w.drew B := h.step rfl
theorem MapOk.drewN (h : MapOk L w B) (n : Nat) : MapOk L (w.drewN n) B := h.step rfl
end

/-- What least does at one village. -/
def LeastC (L : Int → Int → Int → Int → Int) (B : Nat) (a b c e : Int) : Prop :=
  ∀ w, MapOk L w B → Calls Try.prog 56 #[.map (some B), Vl a b c e] w fun r w' => r = .returned (.int .i64 (L a b c e)) ∧ MapOk L w' B ∧ w.grownBy w' (some B)

theorem LeastC.use {L : Int → Int → Int → Int → Int} {B : Nat} {a b c e : Int} (h : LeastC L B a b c e) : ∀ w, MapOk L w B → Calls Try.prog 56 #[.map (some B), Vl a b c e] w fun r w' => r = .returned (.int .i64 (L a b c e)) ∧ MapOk L w' B ∧ w.grownBy w' (some B) := h

theorem grown_cell {w w' : World} {B g i : Nat} {v : Value} (hg : w.grownBy w' (some B)) (hc : w.cell? ⟨g, i, none⟩ = some v) (hne : g ≠ B) : w'.cell? ⟨g, i, none⟩ = some v :=
  hg.cell hc (by simpa using hne)

theorem grown_undrew {W W' : World} {r : Option Nat} (h : W.drew.grownBy W' r) : W.grownBy W' r := ⟨h.os, h.tape, h.output, h.size, h.block⟩
/-- The village a, b, c, e lies in block g. -/
structure VilAt (W : World) (g : Nat) (a b c e : Int) : Prop where
  c0 : W.cell? ⟨g, 0, none⟩ = some (.int .i64 a)
  c1 : W.cell? ⟨g, 1, none⟩ = some (.int .i64 b)
  c2 : W.cell? ⟨g, 2, none⟩ = some (.int .i64 c)
  c3 : W.cell? ⟨g, 3, none⟩ = some (.int .i64 e)
theorem VilAt.of_heap {W : World} {g : Nat} {a b c e : Int} (h : W.heap[g]? = some (.cells #[.int .i64 a, .int .i64 b, .int .i64 c, .int .i64 e] 62 (0, 0))) : VilAt W g a b c e :=
  ⟨by rw [cell_of_row W g _ _ _ _ h]; rfl, by rw [cell_of_row W g _ _ _ _ h]; rfl, by rw [cell_of_row W g _ _ _ _ h]; rfl, by rw [cell_of_row W g _ _ _ _ h]; rfl⟩
theorem VilAt.grown {W W' : World} {B g : Nat} {a b c e : Int} (h : VilAt W g a b c e) (hg : W.grownBy W' (some B)) (hne : g ≠ B) : VilAt W' g a b c e :=
  ⟨grown_cell hg h.c0 hne, grown_cell hg h.c1 hne, grown_cell hg h.c2 hne, grown_cell hg h.c3 hne⟩
theorem grown_of_below_then {w w1 W0 W1 : World} {B : Nat} (hb : Below w.heap.size w w1) (h0 : Below w1.heap.size w1 W0) (hg : W0.grownBy W1 (some B)) : w.grownBy W1 (some B) :=
  ⟨hg.os.trans (h0.os.trans hb.os), hg.tape.trans (h0.tape.trans hb.tape), hg.output.trans (h0.output.trans hb.output), Nat.le_trans hb.size (Nat.le_trans h0.size hg.size), fun k hk hn => (hg.block k (Nat.lt_of_lt_of_le hk (Nat.le_trans hb.size h0.size)) hn).trans ((h0.block k (Nat.lt_of_lt_of_le hk hb.size)).trans (hb.block k hk))⟩

theorem max_end1 (p q x y : Int) (hp : p = x) (hq : q = y) (h : p < q) (hx1 : 0 ≤ x) (hy1 : 0 ≤ y) (hx2 : x ≤ 1125899906842624) (hy2 : y ≤ 1125899906842624) :
    Ending.returned (.int .i64 (IntKind.i64.wrap (1 + q))) = Ending.returned (.int .i64 (1 + max x y)) := by
  subst hp hq
  rw [IntKind.wrap_i64, Int.max_def, if_pos (by omega)]
  congr 2
  omega
theorem max_end2 (p q x y : Int) (hp : p = x) (hq : q = y) (h : q ≤ p) (hx1 : 0 ≤ x) (hy1 : 0 ≤ y) (hx2 : x ≤ 1125899906842624) (hy2 : y ≤ 1125899906842624) :
    Ending.returned (.int .i64 (IntKind.i64.wrap (1 + p))) = Ending.returned (.int .i64 (1 + max x y)) := by
  subst hp hq
  rw [IntKind.wrap_i64, Int.max_def]
  split <;> congr 2 <;> omega

set_option maxHeartbeats 4000000 in
set_option maxRecDepth 100000 in
theorem with0 (L : Int → Int → Int → Int → Int) (B : Nat) (a b c e f : Int) (w : World) (hf1 : 1 ≤ f) (hf2 : f ≤ 8) (he1 : 1 ≤ e) (he2 : e ≤ 6) (ha1 : 0 ≤ a) (ha2 : a ≤ 8)
    (hm : MapOk L w B) (h1 : LeastC L B (f - 1) b c (e - 1)) (h2 : LeastC L B (a - f) b c e)
    (x y : Int) (hx : L (f - 1) b c (e - 1) = x) (hy : L (a - f) b c e = y) (hx1 : 0 ≤ x) (hx2 : x ≤ 1125899906842624) (hy1 : 0 ≤ y) (hy2 : y ≤ 1125899906842624) :
    Calls Try.prog 82 #[.map (some B), Vl a b c e, .int .i64 0, .int .i64 f] w fun r w' => r = .returned (.int .i64 (1 + max x y)) ∧ MapOk L w' B ∧ w.grownBy w' (some B) := by
  have hu := Try.underlying62
  have H1 := Aside0.mk h1
  have H2 := Aside0.mk h2
  have HM := Aside0.mk hm
  have HX := Aside0.mk hx
  have HY := Aside0.mk hy
  have hB := hm.lt
  clear h1 h2 hm hx hy
  go_enter Try.func82, Try.ntmps82
  go_wp2_with fail
  refine (parts0 a b c e f _ hf1 hf2 he1 he2 ha1 ha2).mono ?_
  rintro r w1 ⟨rfl, hb⟩
  have hz : w.heap.size + 1 ≤ w1.heap.size := by have := hb.size; simpa using this
  have HM1 := Aside0.mk ((HM.out.alloc _).below hb)
  have HB := Aside0.mk (below_then (below_alloc (Below.refl w.heap.size w) _) (by simp) hb)
  clear hb
  go_wp2
  generalize hW : ((w1.alloc (.cells #[.int .i64 (f - 1), .int .i64 b, .int .i64 c, .int .i64 (e - 1)] 62)).alloc (.cells #[.int .i64 (a - f), .int .i64 b, .int .i64 c, .int .i64 e] 62)) = W0
  have HM2 : Aside0 (MapOk L W0 B) := ⟨by rw [← hW]; exact (HM1.out.alloc _).alloc _⟩
  have HB2 : Aside0 (Below w1.heap.size w1 W0) := ⟨by rw [← hW]; exact below_alloc (below_alloc (Below.refl _ _) _) _⟩
  have V1 : Aside0 (VilAt W0 w1.heap.size (f - 1) b c (e - 1)) := ⟨VilAt.of_heap (by rw [← hW, Below.heap_alloc _ _ _ (by simp)]; exact heap_alloc_new w1 _)⟩
  have V2 : Aside0 (VilAt W0 (w1.heap.size + 1) (a - f) b c e) := ⟨VilAt.of_heap (by rw [← hW]; exact (by simpa using heap_alloc_new (w1.alloc _) _))⟩
  clear hW
  have HG : Aside0 (W0.grownBy W0 (some B)) := ⟨World.grownBy.refl _ _⟩
  have hn1 : w1.heap.size ≠ B := by omega
  have hn2 : w1.heap.size + 1 ≠ B := by omega
  go_region_held3 (fun w' => (w'.cell? ⟨w1.heap.size, 0, none⟩ = some (.int .i64 (f - 1)) ∧ w'.cell? ⟨w1.heap.size, 1, none⟩ = some (.int .i64 b) ∧ w'.cell? ⟨w1.heap.size, 2, none⟩ = some (.int .i64 c) ∧ w'.cell? ⟨w1.heap.size, 3, none⟩ = some (.int .i64 (e - 1))) ∧
      (w'.cell? ⟨w1.heap.size + 1, 0, none⟩ = some (.int .i64 (a - f)) ∧ w'.cell? ⟨w1.heap.size + 1, 1, none⟩ = some (.int .i64 b) ∧ w'.cell? ⟨w1.heap.size + 1, 2, none⟩ = some (.int .i64 c) ∧ w'.cell? ⟨w1.heap.size + 1, 3, none⟩ = some (.int .i64 e)))
    (first
      | exact ⟨⟨V1.out.c0, V1.out.c1, V1.out.c2, V1.out.c3⟩, ⟨V2.out.c0, V2.out.c1, V2.out.c2, V2.out.c3⟩⟩)
    (first
      | (go_at_call 56; (with_reducible refine (H1.out.use _ ?hm).mono ?_); (case hm => exact HM2.out.drew); rintro r w2 ⟨rfl, hm2, hg2⟩; have HM3 := Aside0.mk hm2; have HG2 := Aside0.mk (HG.out.trans (grown_undrew hg2)); have V3 := Aside0.mk (V1.out.grown (grown_undrew hg2) hn1); have V4 := Aside0.mk (V2.out.grown (grown_undrew hg2) hn2); clear hm2 hg2 HM2 V1 V2 HG; have HM2 := HM3; have V1 := V3; have V2 := V4; have HG := HG2; clear HM3 V3 V4 HG2)
      | (go_at_call 56; (with_reducible refine (H2.out.use _ ?hm).mono ?_); (case hm => exact HM2.out); rintro r w3 ⟨rfl, hm2, hg2⟩; have HM3 := Aside0.mk hm2; have HG2 := Aside0.mk (HG.out.trans hg2); have V3 := Aside0.mk (V1.out.grown hg2 hn1); have V4 := Aside0.mk (V2.out.grown hg2 hn2); clear hm2 hg2 HM2 V1 V2 HG; have HM2 := HM3; have V1 := V3; have V2 := V4; have HG := HG2; clear HM3 V3 V4 HG2))
  all_goals
    go_wp2
    all_goals
      go_ret
      exact ⟨by first | exact max_end1 _ _ _ _ HX.out HY.out (by assumption) hx1 hy1 hx2 hy2 | exact max_end2 _ _ _ _ HX.out HY.out (by assumption) hx1 hy1 hx2 hy2, HM2.out, grown_of_below_then HB.out HB2.out HG.out⟩

set_option maxHeartbeats 4000000 in
set_option maxRecDepth 100000 in
theorem with1 (L : Int → Int → Int → Int → Int) (B : Nat) (a b c e f : Int) (w : World) (hf1 : 1 ≤ f) (hf2 : f ≤ 8) (he1 : 1 ≤ e) (he2 : e ≤ 6) (ha1 : 0 ≤ b) (ha2 : b ≤ 8)
    (hm : MapOk L w B) (h1 : LeastC L B a (f - 1) c (e - 1)) (h2 : LeastC L B a (b - f) c e)
    (x y : Int) (hx : L a (f - 1) c (e - 1) = x) (hy : L a (b - f) c e = y) (hx1 : 0 ≤ x) (hx2 : x ≤ 1125899906842624) (hy1 : 0 ≤ y) (hy2 : y ≤ 1125899906842624) :
    Calls Try.prog 82 #[.map (some B), Vl a b c e, .int .i64 1, .int .i64 f] w fun r w' => r = .returned (.int .i64 (1 + max x y)) ∧ MapOk L w' B ∧ w.grownBy w' (some B) := by
  have hu := Try.underlying62
  have H1 := Aside0.mk h1
  have H2 := Aside0.mk h2
  have HM := Aside0.mk hm
  have HX := Aside0.mk hx
  have HY := Aside0.mk hy
  have hB := hm.lt
  clear h1 h2 hm hx hy
  go_enter Try.func82, Try.ntmps82
  go_wp2_with fail
  refine (parts1 a b c e f _ hf1 hf2 he1 he2 ha1 ha2).mono ?_
  rintro r w1 ⟨rfl, hb⟩
  have hz : w.heap.size + 1 ≤ w1.heap.size := by have := hb.size; simpa using this
  have HM1 := Aside0.mk ((HM.out.alloc _).below hb)
  have HB := Aside0.mk (below_then (below_alloc (Below.refl w.heap.size w) _) (by simp) hb)
  clear hb
  go_wp2
  generalize hW : ((w1.alloc (.cells #[.int .i64 a, .int .i64 (f - 1), .int .i64 c, .int .i64 (e - 1)] 62)).alloc (.cells #[.int .i64 a, .int .i64 (b - f), .int .i64 c, .int .i64 e] 62)) = W0
  have HM2 : Aside0 (MapOk L W0 B) := ⟨by rw [← hW]; exact (HM1.out.alloc _).alloc _⟩
  have HB2 : Aside0 (Below w1.heap.size w1 W0) := ⟨by rw [← hW]; exact below_alloc (below_alloc (Below.refl _ _) _) _⟩
  have V1 : Aside0 (VilAt W0 w1.heap.size a (f - 1) c (e - 1)) := ⟨VilAt.of_heap (by rw [← hW, Below.heap_alloc _ _ _ (by simp)]; exact heap_alloc_new w1 _)⟩
  have V2 : Aside0 (VilAt W0 (w1.heap.size + 1) a (b - f) c e) := ⟨VilAt.of_heap (by rw [← hW]; exact (by simpa using heap_alloc_new (w1.alloc _) _))⟩
  clear hW
  have HG : Aside0 (W0.grownBy W0 (some B)) := ⟨World.grownBy.refl _ _⟩
  have hn1 : w1.heap.size ≠ B := by omega
  have hn2 : w1.heap.size + 1 ≠ B := by omega
  go_region_held3 (fun w' => (w'.cell? ⟨w1.heap.size, 0, none⟩ = some (.int .i64 a) ∧ w'.cell? ⟨w1.heap.size, 1, none⟩ = some (.int .i64 (f - 1)) ∧ w'.cell? ⟨w1.heap.size, 2, none⟩ = some (.int .i64 c) ∧ w'.cell? ⟨w1.heap.size, 3, none⟩ = some (.int .i64 (e - 1))) ∧
      (w'.cell? ⟨w1.heap.size + 1, 0, none⟩ = some (.int .i64 a) ∧ w'.cell? ⟨w1.heap.size + 1, 1, none⟩ = some (.int .i64 (b - f)) ∧ w'.cell? ⟨w1.heap.size + 1, 2, none⟩ = some (.int .i64 c) ∧ w'.cell? ⟨w1.heap.size + 1, 3, none⟩ = some (.int .i64 e)))
    (first
      | exact ⟨⟨V1.out.c0, V1.out.c1, V1.out.c2, V1.out.c3⟩, ⟨V2.out.c0, V2.out.c1, V2.out.c2, V2.out.c3⟩⟩)
    (first
      | (go_at_call 56; (with_reducible refine (H1.out.use _ ?hm).mono ?_); (case hm => exact HM2.out.drew); rintro r w2 ⟨rfl, hm2, hg2⟩; have HM3 := Aside0.mk hm2; have HG2 := Aside0.mk (HG.out.trans (grown_undrew hg2)); have V3 := Aside0.mk (V1.out.grown (grown_undrew hg2) hn1); have V4 := Aside0.mk (V2.out.grown (grown_undrew hg2) hn2); clear hm2 hg2 HM2 V1 V2 HG; have HM2 := HM3; have V1 := V3; have V2 := V4; have HG := HG2; clear HM3 V3 V4 HG2)
      | (go_at_call 56; (with_reducible refine (H2.out.use _ ?hm).mono ?_); (case hm => exact HM2.out); rintro r w3 ⟨rfl, hm2, hg2⟩; have HM3 := Aside0.mk hm2; have HG2 := Aside0.mk (HG.out.trans hg2); have V3 := Aside0.mk (V1.out.grown hg2 hn1); have V4 := Aside0.mk (V2.out.grown hg2 hn2); clear hm2 hg2 HM2 V1 V2 HG; have HM2 := HM3; have V1 := V3; have V2 := V4; have HG := HG2; clear HM3 V3 V4 HG2))
  all_goals
    go_wp2
    all_goals
      go_ret
      exact ⟨by first | exact max_end1 _ _ _ _ HX.out HY.out (by assumption) hx1 hy1 hx2 hy2 | exact max_end2 _ _ _ _ HX.out HY.out (by assumption) hx1 hy1 hx2 hy2, HM2.out, grown_of_below_then HB.out HB2.out HG.out⟩

set_option maxHeartbeats 4000000 in
set_option maxRecDepth 100000 in
theorem with2 (L : Int → Int → Int → Int → Int) (B : Nat) (a b c e f : Int) (w : World) (hf1 : 1 ≤ f) (hf2 : f ≤ 8) (he1 : 1 ≤ e) (he2 : e ≤ 6) (ha1 : 0 ≤ c) (ha2 : c ≤ 8)
    (hm : MapOk L w B) (h1 : LeastC L B a b (f - 1) (e - 1)) (h2 : LeastC L B a b (c - f) e)
    (x y : Int) (hx : L a b (f - 1) (e - 1) = x) (hy : L a b (c - f) e = y) (hx1 : 0 ≤ x) (hx2 : x ≤ 1125899906842624) (hy1 : 0 ≤ y) (hy2 : y ≤ 1125899906842624) :
    Calls Try.prog 82 #[.map (some B), Vl a b c e, .int .i64 2, .int .i64 f] w fun r w' => r = .returned (.int .i64 (1 + max x y)) ∧ MapOk L w' B ∧ w.grownBy w' (some B) := by
  have hu := Try.underlying62
  have H1 := Aside0.mk h1
  have H2 := Aside0.mk h2
  have HM := Aside0.mk hm
  have HX := Aside0.mk hx
  have HY := Aside0.mk hy
  have hB := hm.lt
  clear h1 h2 hm hx hy
  go_enter Try.func82, Try.ntmps82
  go_wp2_with fail
  refine (parts2 a b c e f _ hf1 hf2 he1 he2 ha1 ha2).mono ?_
  rintro r w1 ⟨rfl, hb⟩
  have hz : w.heap.size + 1 ≤ w1.heap.size := by have := hb.size; simpa using this
  have HM1 := Aside0.mk ((HM.out.alloc _).below hb)
  have HB := Aside0.mk (below_then (below_alloc (Below.refl w.heap.size w) _) (by simp) hb)
  clear hb
  go_wp2
  generalize hW : ((w1.alloc (.cells #[.int .i64 a, .int .i64 b, .int .i64 (f - 1), .int .i64 (e - 1)] 62)).alloc (.cells #[.int .i64 a, .int .i64 b, .int .i64 (c - f), .int .i64 e] 62)) = W0
  have HM2 : Aside0 (MapOk L W0 B) := ⟨by rw [← hW]; exact (HM1.out.alloc _).alloc _⟩
  have HB2 : Aside0 (Below w1.heap.size w1 W0) := ⟨by rw [← hW]; exact below_alloc (below_alloc (Below.refl _ _) _) _⟩
  have V1 : Aside0 (VilAt W0 w1.heap.size a b (f - 1) (e - 1)) := ⟨VilAt.of_heap (by rw [← hW, Below.heap_alloc _ _ _ (by simp)]; exact heap_alloc_new w1 _)⟩
  have V2 : Aside0 (VilAt W0 (w1.heap.size + 1) a b (c - f) e) := ⟨VilAt.of_heap (by rw [← hW]; exact (by simpa using heap_alloc_new (w1.alloc _) _))⟩
  clear hW
  have HG : Aside0 (W0.grownBy W0 (some B)) := ⟨World.grownBy.refl _ _⟩
  have hn1 : w1.heap.size ≠ B := by omega
  have hn2 : w1.heap.size + 1 ≠ B := by omega
  go_region_held3 (fun w' => (w'.cell? ⟨w1.heap.size, 0, none⟩ = some (.int .i64 a) ∧ w'.cell? ⟨w1.heap.size, 1, none⟩ = some (.int .i64 b) ∧ w'.cell? ⟨w1.heap.size, 2, none⟩ = some (.int .i64 (f - 1)) ∧ w'.cell? ⟨w1.heap.size, 3, none⟩ = some (.int .i64 (e - 1))) ∧
      (w'.cell? ⟨w1.heap.size + 1, 0, none⟩ = some (.int .i64 a) ∧ w'.cell? ⟨w1.heap.size + 1, 1, none⟩ = some (.int .i64 b) ∧ w'.cell? ⟨w1.heap.size + 1, 2, none⟩ = some (.int .i64 (c - f)) ∧ w'.cell? ⟨w1.heap.size + 1, 3, none⟩ = some (.int .i64 e)))
    (first
      | exact ⟨⟨V1.out.c0, V1.out.c1, V1.out.c2, V1.out.c3⟩, ⟨V2.out.c0, V2.out.c1, V2.out.c2, V2.out.c3⟩⟩)
    (first
      | (go_at_call 56; (with_reducible refine (H1.out.use _ ?hm).mono ?_); (case hm => exact HM2.out.drew); rintro r w2 ⟨rfl, hm2, hg2⟩; have HM3 := Aside0.mk hm2; have HG2 := Aside0.mk (HG.out.trans (grown_undrew hg2)); have V3 := Aside0.mk (V1.out.grown (grown_undrew hg2) hn1); have V4 := Aside0.mk (V2.out.grown (grown_undrew hg2) hn2); clear hm2 hg2 HM2 V1 V2 HG; have HM2 := HM3; have V1 := V3; have V2 := V4; have HG := HG2; clear HM3 V3 V4 HG2)
      | (go_at_call 56; (with_reducible refine (H2.out.use _ ?hm).mono ?_); (case hm => exact HM2.out); rintro r w3 ⟨rfl, hm2, hg2⟩; have HM3 := Aside0.mk hm2; have HG2 := Aside0.mk (HG.out.trans hg2); have V3 := Aside0.mk (V1.out.grown hg2 hn1); have V4 := Aside0.mk (V2.out.grown hg2 hn2); clear hm2 hg2 HM2 V1 V2 HG; have HM2 := HM3; have V1 := V3; have V2 := V4; have HG := HG2; clear HM3 V3 V4 HG2))
  all_goals
    go_wp2
    all_goals
      go_ret
      exact ⟨by first | exact max_end1 _ _ _ _ HX.out HY.out (by assumption) hx1 hy1 hx2 hy2 | exact max_end2 _ _ _ _ HX.out HY.out (by assumption) hx1 hy1 hx2 hy2, HM2.out, grown_of_below_then HB.out HB2.out HG.out⟩

end Go.Proofs.Ytfemdpdnnifehaa.PH
