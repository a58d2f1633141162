/- The least number of drops of impl (houser.least): a village, by its children's. -/
import Derived.Test.YtfemdpdnnifehaaPHx0
import Derived.Test.YtfemdpdnnifehaaHMap
import Derived.Test.YtfemdpdnnifehaaHVil
import Derived.Test.YtfemdpdnnifehaaHWith
import Derived.Test.YtfemdpdnnifehaaHPur
-- NEEDS HMap
-- NEEDS HVil
-- NEEDS HWith
-- NEEDS HPur
import Derived.Maps.Own
import Derived.Maps.OwnOps
set_option linter.unusedVariables false
set_option linter.unusedSimpArgs false
namespace Go.Proofs.Ytfemdpdnnifehaa.PH
open Go.RowKit Go.Proofs.YtfemdpdnnifehaaW.PrintWords Go.Proofs.YtfemdpdnnifehaaW.PrintLast

theorem wpList_lookup_run {P : Program} (w : World) {ops : Array Oper} {rest : List Oper} {o : Oper} {a : Act} {Q : Exit → Act → World → Prop}
    (hg : o.guard = none) (m x : Operand) (t : TypeId) (c : Bool) (hop : o.op = Op.lookup t m x c) (mv key v : Value) (hm : a.eval m = mv) (hx : a.eval x = key)
    (hrun : (Instr.lookup t mv key c).run P w = .ok v w) (hK : wpList P ops Q rest (a.put o.dst v) w) : wpList P ops Q (o :: rest) a w := by
  refine wpList_plain hg fun K' hK' => ?_
  unfold Oper.wp
  simp [execOp, hop, hm, hx, hrun, Result.andThen]
  exact hK' _ _ hK
theorem wpList_update_run {P : Program} (w w' : World) {ops : Array Oper} {rest : List Oper} {o : Oper} {a : Act} {Q : Exit → Act → World → Prop}
    (hg : o.guard = none) (m x v : Operand) (t : TypeId) (hop : o.op = Op.mapUpdate t m x v) (mv key val : Value) (hm : a.eval m = mv) (hx : a.eval x = key) (hv : a.eval v = val)
    (hrun : (Instr.mapUpdate t mv key val).run P w = .ok () w') (hK : wpList P ops Q rest (a.put o.dst undef) w') : wpList P ops Q (o :: rest) a w := by
  refine wpList_plain hg fun K' hK' => ?_
  unfold Oper.wp
  simp [execOp, hop, hm, hx, hv, hrun, Result.andThen]
  exact hK' _ _ hK

set_option maxHeartbeats 2000000 in
set_option maxRecDepth 100000 in
theorem least_zero (L : Int → Int → Int → Int → Int) (B : Nat) (a b c e : Int) (hn : need3 a b c = 0) (hL : L a b c e = 0) : LeastC L B a b c e := by
  intro w hm
  have HM := Aside0.mk hm
  have hlt := hm.lt
  clear hm
  have hcn : ∀ W, W.heap[w.heap.size]? = some (.cells #[.int .i64 a, .int .i64 b, .int .i64 c, .int .i64 e] 62 (0, 0)) → Calls Try.prog 72 #[.slice (some ⟨w.heap.size, 0, none⟩) 3 3] W fun r w' => r = .returned (.int .i64 0) ∧ Drawn0 W w' := fun W h => by
    rw [← hn]; exact needed3 _ a b c e W h
  have HC := Aside0.mk hcn
  have HL := Aside0.mk hL
  clear hcn hL hn
  have hu := Try.underlying62
  go_enter Try.func56, Try.ntmps56
  go_wp2_with (go_at_call 72; refine (HC.out _ (heap_alloc_new w _)).mono ?_; rintro r w' ⟨rfl, ⟨nd, rfl⟩⟩)
  go_ret
  refine ⟨by rw [HL.out]; rfl, (HM.out.alloc _).drewN _, ?_⟩
  exact ⟨rfl, rfl, rfl, by simp, fun k hk _ => Below.heap_alloc _ _ _ hk⟩

set_option maxHeartbeats 2000000 in
set_option maxRecDepth 100000 in
theorem least_never (L : Int → Int → Int → Int → Int) (B : Nat) (a b c e : Int) (n : Int) (hn : need3 a b c = n) (h0 : n ≠ 0) (he : e < n) (hL : L a b c e = 1125899906842624) : LeastC L B a b c e := by
  intro w hm
  have HM := Aside0.mk hm
  have hlt := hm.lt
  clear hm
  have hcn : ∀ W, W.heap[w.heap.size]? = some (.cells #[.int .i64 a, .int .i64 b, .int .i64 c, .int .i64 e] 62 (0, 0)) → Calls Try.prog 72 #[.slice (some ⟨w.heap.size, 0, none⟩) 3 3] W fun r w' => r = .returned (.int .i64 n) ∧ Drawn0 W w' := fun W h => by
    rw [← hn]; exact needed3 _ a b c e W h
  have HC := Aside0.mk hcn
  have HL := Aside0.mk hL
  clear hcn hL hn
  have h0b : (n == 0) = false := beq_eq_false_iff_ne.mpr h0
  have heb : decide (e < n) = true := decide_eq_true he
  have hu := Try.underlying62
  go_enter Try.func56, Try.ntmps56
  go_wp2_with (go_at_call 72; refine (HC.out _ (heap_alloc_new w _)).mono ?_; rintro r w' ⟨rfl, ⟨nd, rfl⟩⟩)
  go_ret
  refine ⟨by rw [HL.out]; rfl, (HM.out.alloc _).drewN _, ?_⟩
  exact ⟨rfl, rfl, rfl, by simp, fun k hk _ => Below.heap_alloc _ _ _ hk⟩

theorem mins_next (g : Int → Int → Int) (h o : Int) (f : Nat) (hf : 1 ≤ f) : mins (g h) o (f + 1 - 1) = min (mins (g h) o (f - 1)) (g h (f : Int)) := by
  obtain ⟨k, rfl⟩ : ∃ k, f = k + 1 := ⟨f - 1, by omega⟩
  simp [mins]
theorem ite_min (x y : Int) : (if y < x then y else x) = min x y := by
  rw [Int.min_def]
  split <;> split <;> omega
theorem min_l {x y : Int} (h : y < x) : y = min x y := by omega
theorem min_r {x y : Int} (h : x ≤ y) : x = min x y := by omega
theorem outs_next0 (g : Int → Int → Int) (a b c : Int) (f : Nat) (h1 : 1 ≤ f) (h2 : (f : Int) ≤ a + 1) (h3 : a < f) : mins (g 0) (outs 1125899906842624 g a b c 0) (f - 1) = outs 1125899906842624 g a b c (0 + 1) := by
  rw [show f - 1 = a.toNat by omega]; rfl
theorem outs_next1 (g : Int → Int → Int) (a b c : Int) (f : Nat) (h1 : 1 ≤ f) (h2 : (f : Int) ≤ b + 1) (h3 : b < f) : mins (g 1) (outs 1125899906842624 g a b c 1) (f - 1) = outs 1125899906842624 g a b c (1 + 1) := by
  rw [show f - 1 = b.toNat by omega]; rfl
theorem outs_next2 (g : Int → Int → Int) (a b c : Int) (f : Nat) (h1 : 1 ≤ f) (h2 : (f : Int) ≤ c + 1) (h3 : c < f) : mins (g 2) (outs 1125899906842624 g a b c 2) (f - 1) = outs 1125899906842624 g a b c (2 + 1) := by
  rw [show f - 1 = c.toNat by omega]; rfl
theorem lt_of_some {W : World} {g : Nat} {o : Obj} (h : W.heap[g]? = some o) : g < W.heap.size := (Array.getElem?_eq_some_iff.1 h).1

/-- What with does at one village, house and floor. -/
def WithC (L : Int → Int → Int → Int → Int) (B : Nat) (a b c e h f r : Int) : Prop :=
  ∀ w, MapOk L w B → Calls Try.prog 82 #[.map (some B), Vl a b c e, .int .i64 h, .int .i64 f] w fun r' w' => r' = .returned (.int .i64 r) ∧ MapOk L w' B ∧ w.grownBy w' (some B)

theorem WithC.use {L : Int → Int → Int → Int → Int} {B : Nat} {a b c e h f r : Int} (hw : WithC L B a b c e h f r) : ∀ w, MapOk L w B → Calls Try.prog 82 #[.map (some B), Vl a b c e, .int .i64 h, .int .i64 f] w fun r' w' => r' = .returned (.int .i64 r) ∧ MapOk L w' B ∧ w.grownBy w' (some B) := hw

set_option maxHeartbeats 8000000 in
set_option maxRecDepth 100000 in
theorem least_main (L : Int → Int → Int → Int → Int) (B : Nat) (a b c e : Int) (n : Int) (hn : need3 a b c = n) (h0 : n ≠ 0) (he : n ≤ e) (ha1 : 0 ≤ a) (ha2 : a ≤ 8) (hb1 : 0 ≤ b) (hb2 : b ≤ 8) (hc1 : 0 ≤ c) (hc2 : c ≤ 8)
    (g : Int → Int → Int) (hgb : ∀ h f, 0 ≤ g h f ∧ g h f ≤ 1125899906842625)
    (w0 : ∀ f, 1 ≤ f → f ≤ a → WithC L B a b c e 0 f (g 0 f)) (w1 : ∀ f, 1 ≤ f → f ≤ b → WithC L B a b c e 1 f (g 1 f)) (w2 : ∀ f, 1 ≤ f → f ≤ c → WithC L B a b c e 2 f (g 2 f))
    (hL : L a b c e = outs 1125899906842624 g a b c 3) : LeastC L B a b c e := by
  intro w hm
  have HM := Aside0.mk hm
  have hlt := hm.lt
  clear hm
  have hw0 := Aside0.mk w0
  have hw1 := Aside0.mk w1
  have hw2 := Aside0.mk w2
  clear w0 w1 w2
  have hcn : ∀ W, W.heap[w.heap.size]? = some (.cells #[.int .i64 a, .int .i64 b, .int .i64 c, .int .i64 e] 62 (0, 0)) → Calls Try.prog 72 #[.slice (some ⟨w.heap.size, 0, none⟩) 3 3] W fun r w' => r = .returned (.int .i64 n) ∧ Drawn0 W w' := fun W h => by
    rw [← hn]; exact needed3 _ a b c e W h
  have HC := Aside0.mk hcn
  have HL := Aside0.mk hL
  have HGB := Aside0.mk hgb
  clear hcn hL hn hgb
  have h0b : (n == 0) = false := beq_eq_false_iff_ne.mpr h0
  have heb : decide (e < n) = false := decide_eq_false (by omega)
  clear h0
  have hu := Try.underlying62
  go_enter Try.func56, Try.ntmps56
  go_wp2_with fail
  refine (HC.out _ (heap_alloc_new w _)).mono ?_
  rintro r w' ⟨rfl, ⟨nd, rfl⟩⟩
  generalize hW : (w.alloc (.cells #[.int .i64 a, .int .i64 b, .int .i64 c, .int .i64 e] 62)).drewN nd = W1
  have HM2 : Aside0 (MapOk L W1 B) := ⟨by rw [← hW]; exact (HM.out.alloc _).drewN _⟩
  have HG : Aside0 (w.grownBy W1 (some B)) := ⟨by rw [← hW]; exact ⟨rfl, rfl, rfl, by simp, fun k hk _ => Below.heap_alloc _ _ _ hk⟩⟩
  have HBX : Aside0 (W1.heap[w.heap.size]? = some (.cells #[.int .i64 a, .int .i64 b, .int .i64 c, .int .i64 e] 62 (0, 0))) := ⟨by rw [← hW]; exact heap_alloc_new w _⟩
  clear hW
  obtain ⟨v, ok, hrun, hok⟩ := lookup_village HM2.out a b c e
  have HR := Aside0.mk hrun
  clear hrun
  obtain ⟨c0, c1, c2, c3⟩ := VilAt.of_heap HBX.out
  cases ok
  · clear hok
    have hbx := HBX.out
    go_wp2_with (first
      | (at_lookup; refine wpList_lookup_run _ rfl _ _ 58 true rfl _ _ _ rfl rfl HR.out ?_))
    clear hbx c0 c1 c2 c3
    go_loopw [8, 33] (fun o i wr => ∃ (h : Int) (x : Int), (0 ≤ h ∧ h ≤ 3) ∧ i = .int .i64 h ∧ o = .int .i64 x ∧ Aside0 (x = outs 1125899906842624 g a b c h.toNat) ∧ x ≤ 1125899906842624 ∧ 0 ≤ x ∧ Aside0 (MapOk L wr B) ∧ Aside0 (w.grownBy wr (some B)) ∧ Aside0 (wr.heap[w.heap.size]? = some (.cells #[.int .i64 a, .int .i64 b, .int .i64 c, .int .i64 e] 62 (0, 0))))
      (fun _ i _ => (3 - intOf i).toNat)
    case atStart => exact ⟨0, _, by omega, rfl, rfl, ⟨rfl⟩, by omega, by omega, HM2, HG, HBX⟩
    case round =>
      clear HM2 HG HBX
      obtain ⟨h, x, hh, rfl, rfl, HX, hx1, hx2, HM2, HG, HBX⟩ := hrel
      have hcase : h = 0 ∨ h = 1 ∨ h = 2 ∨ h = 3 := by omega
      have hgb := HGB.out
      clear HGB
      have hi0 : ∀ W, (Instr.index 60 (.agg #[.int .i64 a, .int .i64 b, .int .i64 c]) (.int .i64 0)).run Try.prog W = .ok (.int .i64 a) W := fun _ => by kernel_rfl
      have hi1 : ∀ W, (Instr.index 60 (.agg #[.int .i64 a, .int .i64 b, .int .i64 c]) (.int .i64 1)).run Try.prog W = .ok (.int .i64 b) W := fun _ => by kernel_rfl
      have hi2 : ∀ W, (Instr.index 60 (.agg #[.int .i64 a, .int .i64 b, .int .i64 c]) (.int .i64 2)).run Try.prog W = .ok (.int .i64 c) W := fun _ => by kernel_rfl
      rcases hcase with rfl | rfl | rfl | rfl
      · go_wp2
        go_loopw [8, 11] (fun o i wr => ∃ (f : Nat) (x : Int), 1 ≤ f ∧ (f : Int) ≤ a + 1 ∧ i = .int .i64 f ∧ o = .int .i64 x ∧ Aside0 (x = mins (g 0) (outs 1125899906842624 g a b c 0) (f - 1)) ∧ x ≤ 1125899906842624 ∧ 0 ≤ x ∧ Aside0 (MapOk L wr B) ∧ Aside0 (w.grownBy wr (some B)) ∧ Aside0 (wr.heap[w.heap.size]? = some (.cells #[.int .i64 a, .int .i64 b, .int .i64 c, .int .i64 e] 62 (0, 0))))
          (fun _ i _ => (9 - intOf i).toNat)
        case atStart => exact ⟨1, x, by omega, by omega, rfl, rfl, ⟨HX.out⟩, hx1, hx2, HM2, HG, HBX⟩
        case round =>
          clear HM2 HG HBX HX hx1 hx2
          obtain ⟨f, x, hf1, hf2, rfl, rfl, HX, hx1, hx2, HM2, HG, HBX⟩ := hrel
          by_cases hle : (f : Int) ≤ a
          · have hd : decide ((f : Int) ≤ a) = true := decide_eq_true hle
            obtain ⟨c0, c1, c2, c3⟩ := VilAt.of_heap HBX.out
            have hbx := HBX.out
            obtain ⟨y, hy⟩ : ∃ y, g 0 (f : Int) = y := ⟨_, rfl⟩
            have hyb := hgb 0 (f : Int)
            rw [hy] at hyb
            obtain ⟨hy1, hy2⟩ := hyb
            have HW := Aside0.mk (hw0.out (f : Int) (by omega) hle)
            rw [hy] at HW
            have HY := Aside0.mk hy
            have hf3 : (f : Int) ≤ 8 := by omega
            clear hy
            go_wp2_with (go_at_call 82; (with_reducible refine (HW.out.use _ HM2.out).mono ?_); rintro r w2 ⟨rfl, hm2, hg2⟩; have HM3 := Aside0.mk hm2; have HG2 := Aside0.mk (HG.out.trans hg2); have HBX2 := Aside0.mk (show w2.heap[w.heap.size]? = some (.cells #[.int .i64 a, .int .i64 b, .int .i64 c, .int .i64 e] 62 (0, 0)) from (hg2.block _ (lt_of_some HBX.out) (by simp; omega)).trans HBX.out); clear hm2 hg2)
            all_goals
              go_roundw
              case rel => exact ⟨f + 1, _, by omega, by omega, by go_num, rfl, ⟨by rw [mins_next g _ _ f hf1, HY.out, ← HX.out]; exact ite_min x y⟩, by omega, by omega, HM3, HG2, HBX2⟩
              case measure => simp [intOf]; omega
          · have hd : decide ((f : Int) ≤ a) = false := decide_eq_false hle
            go_wp2
            go_roundw
            case rel => exact ⟨1, x, by omega, by go_num, rfl, ⟨by rw [HX.out]; exact outs_next0 g a b c f hf1 (by omega) (by omega)⟩, hx1, hx2, HM2, HG, HBX⟩
            case measure => simp [intOf]
      · go_wp2
        go_loopw [8, 11] (fun o i wr => ∃ (f : Nat) (x : Int), 1 ≤ f ∧ (f : Int) ≤ b + 1 ∧ i = .int .i64 f ∧ o = .int .i64 x ∧ Aside0 (x = mins (g 1) (outs 1125899906842624 g a b c 1) (f - 1)) ∧ x ≤ 1125899906842624 ∧ 0 ≤ x ∧ Aside0 (MapOk L wr B) ∧ Aside0 (w.grownBy wr (some B)) ∧ Aside0 (wr.heap[w.heap.size]? = some (.cells #[.int .i64 a, .int .i64 b, .int .i64 c, .int .i64 e] 62 (0, 0))))
          (fun _ i _ => (9 - intOf i).toNat)
        case atStart => exact ⟨1, x, by omega, by omega, rfl, rfl, ⟨HX.out⟩, hx1, hx2, HM2, HG, HBX⟩
        case round =>
          clear HM2 HG HBX HX hx1 hx2
          obtain ⟨f, x, hf1, hf2, rfl, rfl, HX, hx1, hx2, HM2, HG, HBX⟩ := hrel
          by_cases hle : (f : Int) ≤ b
          · have hd : decide ((f : Int) ≤ b) = true := decide_eq_true hle
            obtain ⟨c0, c1, c2, c3⟩ := VilAt.of_heap HBX.out
            have hbx := HBX.out
            obtain ⟨y, hy⟩ : ∃ y, g 1 (f : Int) = y := ⟨_, rfl⟩
            have hyb := hgb 1 (f : Int)
            rw [hy] at hyb
            obtain ⟨hy1, hy2⟩ := hyb
            have HW := Aside0.mk (hw1.out (f : Int) (by omega) hle)
            rw [hy] at HW
            have HY := Aside0.mk hy
            have hf3 : (f : Int) ≤ 8 := by omega
            clear hy
            go_wp2_with (go_at_call 82; (with_reducible refine (HW.out.use _ HM2.out).mono ?_); rintro r w2 ⟨rfl, hm2, hg2⟩; have HM3 := Aside0.mk hm2; have HG2 := Aside0.mk (HG.out.trans hg2); have HBX2 := Aside0.mk (show w2.heap[w.heap.size]? = some (.cells #[.int .i64 a, .int .i64 b, .int .i64 c, .int .i64 e] 62 (0, 0)) from (hg2.block _ (lt_of_some HBX.out) (by simp; omega)).trans HBX.out); clear hm2 hg2)
            all_goals
              go_roundw
              case rel => exact ⟨f + 1, _, by omega, by omega, by go_num, rfl, ⟨by rw [mins_next g _ _ f hf1, HY.out, ← HX.out]; exact ite_min x y⟩, by omega, by omega, HM3, HG2, HBX2⟩
              case measure => simp [intOf]; omega
          · have hd : decide ((f : Int) ≤ b) = false := decide_eq_false hle
            go_wp2
            go_roundw
            case rel => exact ⟨2, x, by omega, by go_num, rfl, ⟨by rw [HX.out]; exact outs_next1 g a b c f hf1 (by omega) (by omega)⟩, hx1, hx2, HM2, HG, HBX⟩
            case measure => simp [intOf]
      · go_wp2
        go_loopw [8, 11] (fun o i wr => ∃ (f : Nat) (x : Int), 1 ≤ f ∧ (f : Int) ≤ c + 1 ∧ i = .int .i64 f ∧ o = .int .i64 x ∧ Aside0 (x = mins (g 2) (outs 1125899906842624 g a b c 2) (f - 1)) ∧ x ≤ 1125899906842624 ∧ 0 ≤ x ∧ Aside0 (MapOk L wr B) ∧ Aside0 (w.grownBy wr (some B)) ∧ Aside0 (wr.heap[w.heap.size]? = some (.cells #[.int .i64 a, .int .i64 b, .int .i64 c, .int .i64 e] 62 (0, 0))))
          (fun _ i _ => (9 - intOf i).toNat)
        case atStart => exact ⟨1, x, by omega, by omega, rfl, rfl, ⟨HX.out⟩, hx1, hx2, HM2, HG, HBX⟩
        case round =>
          clear HM2 HG HBX HX hx1 hx2
          obtain ⟨f, x, hf1, hf2, rfl, rfl, HX, hx1, hx2, HM2, HG, HBX⟩ := hrel
          by_cases hle : (f : Int) ≤ c
          · have hd : decide ((f : Int) ≤ c) = true := decide_eq_true hle
            obtain ⟨c0, c1, c2, c3⟩ := VilAt.of_heap HBX.out
            have hbx := HBX.out
            obtain ⟨y, hy⟩ : ∃ y, g 2 (f : Int) = y := ⟨_, rfl⟩
            have hyb := hgb 2 (f : Int)
            rw [hy] at hyb
            obtain ⟨hy1, hy2⟩ := hyb
            have HW := Aside0.mk (hw2.out (f : Int) (by omega) hle)
            rw [hy] at HW
            have HY := Aside0.mk hy
            have hf3 : (f : Int) ≤ 8 := by omega
            clear hy
            go_wp2_with (go_at_call 82; (with_reducible refine (HW.out.use _ HM2.out).mono ?_); rintro r w2 ⟨rfl, hm2, hg2⟩; have HM3 := Aside0.mk hm2; have HG2 := Aside0.mk (HG.out.trans hg2); have HBX2 := Aside0.mk (show w2.heap[w.heap.size]? = some (.cells #[.int .i64 a, .int .i64 b, .int .i64 c, .int .i64 e] 62 (0, 0)) from (hg2.block _ (lt_of_some HBX.out) (by simp; omega)).trans HBX.out); clear hm2 hg2)
            all_goals
              go_roundw
              case rel => exact ⟨f + 1, _, by omega, by omega, by go_num, rfl, ⟨by rw [mins_next g _ _ f hf1, HY.out, ← HX.out]; exact ite_min x y⟩, by omega, by omega, HM3, HG2, HBX2⟩
              case measure => simp [intOf]; omega
          · have hd : decide ((f : Int) ≤ c) = false := decide_eq_false hle
            go_wp2
            go_roundw
            case rel => exact ⟨3, x, by omega, by go_num, rfl, ⟨by rw [HX.out]; exact outs_next2 g a b c f hf1 (by omega) (by omega)⟩, hx1, hx2, HM2, HG, HBX⟩
            case measure => simp [intOf]
      · have hxL : x = L a b c e := by rw [HX.out, HL.out]; rfl
        subst hxL
        obtain ⟨c0, c1, c2, c3⟩ := VilAt.of_heap HBX.out
        have hbx := HBX.out
        obtain ⟨w5, hup, hm5, hg5⟩ := update_village HM2.out a b c e
        have HU := Aside0.mk hup
        have HM5 := Aside0.mk hm5
        have HG5 := Aside0.mk (HG.out.trans hg5)
        clear hup hm5 hg5
        go_wp2_with (first
          | (at_mapUpdate; refine wpList_update_run _ w5 rfl _ _ _ 58 rfl _ _ _ rfl rfl rfl HU.out ?_))
        go_ret
        exact ⟨rfl, HM5.out, HG5.out⟩
  · have hv := hok rfl
    subst hv
    clear hok
    have hbx := HBX.out
    go_wp2_with (first
      | (at_lookup; refine wpList_lookup_run _ rfl _ _ 58 true rfl _ _ _ rfl rfl HR.out ?_))
    go_ret
    exact ⟨rfl, HM2.out, HG.out⟩

/-- The least number as impl tells it. -/
abbrev LI : Int → Int → Int → Int → Int := Ln 1125899906842624

theorem least_all (B : Nat) : ∀ (s : Nat) (a b c e : Int), 0 ≤ a → a ≤ 8 → 0 ≤ b → b ≤ 8 → 0 ≤ c → c ≤ 8 → 0 ≤ e → e ≤ 6 → a + b + c < s → LeastC LI B a b c e := by
  intro s
  induction s with
  | zero => intro a b c e h1 _ h2 _ h3; omega
  | succ s ih =>
    intro a b c e ha1 ha2 hb1 hb2 hc1 hc2 he1 he2 hs
    have heq := Ln_eq 1125899906842624 a b c e ha1 hb1 hc1
    by_cases h0 : need3 a b c = 0
    · rw [if_pos h0] at heq
      exact least_zero LI B a b c e h0 heq
    · rw [if_neg h0] at heq
      by_cases hn : e < need3 a b c
      · rw [if_pos hn] at heq
        exact least_never LI B a b c e _ rfl h0 hn heq
      · rw [if_neg hn] at heq
        have hr := need3_range a b c
        have hbd := Ln_bounds (N := 1125899906842624) (by omega)
        refine least_main LI B a b c e _ rfl h0 (by omega) ha1 ha2 hb1 hb2 hc1 hc2 (gOf LI a b c e) (fun h f => gOf_bounds (by omega) a b c e h f) (fun f h1 h2 w hm => ?_) (fun f h1 h2 w hm => ?_) (fun f h1 h2 w hm => ?_) heq
        · simp only [gOf, if_true]
          exact with0 LI B a b c e f w h1 (by omega) (by omega) he2 ha1 ha2 hm (ih _ _ _ _ (by omega) (by omega) hb1 hb2 hc1 hc2 (by omega) (by omega) (by omega)) (ih _ _ _ _ (by omega) (by omega) hb1 hb2 hc1 hc2 he1 he2 (by omega)) _ _ rfl rfl (hbd _ _ _ _).1 (hbd _ _ _ _).2 (hbd _ _ _ _).1 (hbd _ _ _ _).2
        · simp only [gOf, show ¬ ((1 : Int) = 0) by decide, if_false, if_true]
          exact with1 LI B a b c e f w h1 (by omega) (by omega) he2 hb1 hb2 hm (ih _ _ _ _ ha1 ha2 (by omega) (by omega) hc1 hc2 (by omega) (by omega) (by omega)) (ih _ _ _ _ ha1 ha2 (by omega) (by omega) hc1 hc2 he1 he2 (by omega)) _ _ rfl rfl (hbd _ _ _ _).1 (hbd _ _ _ _).2 (hbd _ _ _ _).1 (hbd _ _ _ _).2
        · simp only [gOf, show ¬ ((2 : Int) = 0) by decide, show ¬ ((2 : Int) = 1) by decide, if_false]
          exact with2 LI B a b c e f w h1 (by omega) (by omega) he2 hc1 hc2 hm (ih _ _ _ _ ha1 ha2 hb1 hb2 (by omega) (by omega) (by omega) (by omega) (by omega)) (ih _ _ _ _ ha1 ha2 hb1 hb2 (by omega) (by omega) he1 he2 (by omega)) _ _ rfl rfl (hbd _ _ _ _).1 (hbd _ _ _ _).2 (hbd _ _ _ _).1 (hbd _ _ _ _).2

/-- with, at whatever house and floor there are. -/
theorem with_all (B : Nat) (a b c e h f : Int) (ha1 : 0 ≤ a) (ha2 : a ≤ 8) (hb1 : 0 ≤ b) (hb2 : b ≤ 8) (hc1 : 0 ≤ c) (hc2 : c ≤ 8) (he1 : 1 ≤ e) (he2 : e ≤ 6) (hf : 1 ≤ f)
    (hh : h = 0 ∧ f ≤ a ∨ h = 1 ∧ f ≤ b ∨ h = 2 ∧ f ≤ c) : WithC LI B a b c e h f (gOf LI a b c e h f) := by
  have la := fun a b c e h1 h2 h3 h4 h5 h6 h7 h8 => least_all B ((a + b + c).toNat + 1) a b c e h1 h2 h3 h4 h5 h6 h7 h8 (by omega)
  have hbd := Ln_bounds (N := 1125899906842624) (by omega)
  intro w hm
  rcases hh with ⟨rfl, h2⟩ | ⟨rfl, h2⟩ | ⟨rfl, h2⟩
  · simp only [gOf, if_true]
    exact with0 LI B a b c e f w hf (by omega) (by omega) he2 ha1 ha2 hm (la _ _ _ _ (by omega) (by omega) hb1 hb2 hc1 hc2 (by omega) (by omega)) (la _ _ _ _ (by omega) (by omega) hb1 hb2 hc1 hc2 (by omega) he2) _ _ rfl rfl (hbd _ _ _ _).1 (hbd _ _ _ _).2 (hbd _ _ _ _).1 (hbd _ _ _ _).2
  · simp only [gOf, show ¬ ((1 : Int) = 0) by decide, if_false, if_true]
    exact with1 LI B a b c e f w hf (by omega) (by omega) he2 hb1 hb2 hm (la _ _ _ _ ha1 ha2 (by omega) (by omega) hc1 hc2 (by omega) (by omega)) (la _ _ _ _ ha1 ha2 (by omega) (by omega) hc1 hc2 (by omega) he2) _ _ rfl rfl (hbd _ _ _ _).1 (hbd _ _ _ _).2 (hbd _ _ _ _).1 (hbd _ _ _ _).2
  · simp only [gOf, show ¬ ((2 : Int) = 0) by decide, show ¬ ((2 : Int) = 1) by decide, if_false]
    exact with2 LI B a b c e f w hf (by omega) (by omega) he2 hc1 hc2 hm (la _ _ _ _ ha1 ha2 hb1 hb2 (by omega) (by omega) (by omega) (by omega)) (la _ _ _ _ ha1 ha2 hb1 hb2 (by omega) (by omega) (by omega) he2) _ _ rfl rfl (hbd _ _ _ _).1 (hbd _ _ _ _).2 (hbd _ _ _ _).1 (hbd _ _ _ _).2

end Go.Proofs.Ytfemdpdnnifehaa.PH
