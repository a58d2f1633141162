-- Written by a program of the session (wip/tools/drive.py over the kit's print)
import Derived.Test.YtfemdpdnnifehaaPHx0
import Derived.Test.YtfemdpdnnifehaaPHx1
import Derived.Test.YtfemdpdnnifehaaPHx3
import Derived.Test.YtfemdpdnnifehaaPHx5
namespace Go.Proofs.Ytfemdpdnnifehaa.PH
open Go.RowKit Go.Proofs.YtfemdpdnnifehaaW.PrintWords Go.Proofs.YtfemdpdnnifehaaW.PrintLast Go.Proofs.YtfemdpdnnifehaaW.PrintMore
attribute [local go_sem] max2_int min2_int max_two min_two max_three min_three max_four min_four   -- for this text's walks alone
set_option linter.unusedVariables false
set_option linter.unusedSimpArgs false

/-! ### spec_hoPlay: function 44 -/
def spec_hoPlay.l0 : Nat → List Int → Int → List Int → List Int → List Int → List (S51) → Option ((List (S51)) × List Int)
  | 0, _, _, _, _, _, _ => none
  | k + 1, x0, x1, x3, x9, x10, x11 => (spec_hoNeeded.f k x10).bind fun t210 => (if t210 > 0 then ((spec_hoDrops.f k x0 x1 x10).bind fun bt211 => (if 0 < (bt211.1.length : Int) then (if 0 < ((rd_L1 bt211.1 0).length : Int) then (if 0 ≤ (rd (rd_L1 bt211.1 0) 0) then (if (rd (rd_L1 bt211.1 0) 0) < (x9.length : Int) then (if 1 < ((rd_L1 bt211.1 0).length : Int) then (if (rd (rd_L1 bt211.1 0) 0) < (x3.length : Int) then (if x11.length < 5864062014805 then ((some (x11 ++ [(⟨rd (rd_L1 bt211.1 0) 0, wrap64 ((rd x9 (rd (rd_L1 bt211.1 0) 0)) + (rd (rd_L1 bt211.1 0) 1)), decide ((wrap64 ((rd x9 (rd (rd_L1 bt211.1 0) 0)) + (rd (rd_L1 bt211.1 0) 1))) > (rd x3 (rd (rd_L1 bt211.1 0) 0)))⟩ : S51)] : List (S51))).bind fun y221 => (if (wrap64 ((rd x9 (rd (rd_L1 bt211.1 0) 0)) + (rd (rd_L1 bt211.1 0) 1))) > (rd x3 (rd (rd_L1 bt211.1 0) 0)) then (if (rd (rd_L1 bt211.1 0) 0) < (x10.length : Int) then (spec_hoPlay.l0 k bt211.2 (wrap64 (x1 - 1)) x3 x9 (x10.set ((rd (rd_L1 bt211.1 0) 0) : Int).toNat (wrap64 ((rd (rd_L1 bt211.1 0) 1) - 1))) y221) else (none)) else (if (rd (rd_L1 bt211.1 0) 0) < (x10.length : Int) then (spec_hoPlay.l0 k bt211.2 x1 x3 (x9.set ((rd (rd_L1 bt211.1 0) 0) : Int).toNat (wrap64 ((rd x9 (rd (rd_L1 bt211.1 0) 0)) + (rd (rd_L1 bt211.1 0) 1)))) (x10.set ((rd (rd_L1 bt211.1 0) 0) : Int).toNat (wrap64 ((rd x10 (rd (rd_L1 bt211.1 0) 0)) - (rd (rd_L1 bt211.1 0) 1)))) y221) else (none)))) else (none)) else (none)) else (none)) else (none)) else (none)) else (none)) else (none))) else (some (x11, x0)))
def spec_hoPlay.f (k : Nat) (l0 : List Int) (a1 : Int) (l2 : List Int) (l3 : List Int) : Option ((List (S51)) × List Int) := if 0 ≤ (l2.length : Int) then (if ((l2.length : Int) : Int).toNat ≤ 35184372088832 then ((spec_l1Own.f l2).bind fun t207 => (spec_hoPlay.l0 k l0 a1 l3 (List.replicate ((l2.length : Int) : Int).toNat 0) t207 ([] : List (S51)))) else (none)) else (none)
theorem spec_hoPlay.mono_l : ∀ k, (∀ y0 y1 y2 y3 y4 y5, LeO (spec_hoPlay.l0 k y0 y1 y2 y3 y4 y5) (spec_hoPlay.l0 (k + 1) y0 y1 y2 y3 y4 y5))
  | 0 => fun _ _ _ _ _ _ r h => by simp [spec_hoPlay.l0] at h
  | k + 1 => by
    have ih0 := spec_hoPlay.mono_l k
    · intro y0 y1 y2 y3 y4 y5
      unfold spec_hoPlay.l0
      repeat' first
      | (with_reducible exact ih0 _ _ _ _ _ _)
      | (with_reducible exact spec_hoDrops.mono _ _ _ _)
      | (with_reducible exact spec_hoNeeded.mono _ _)
      | (with_reducible exact LeO.refl _)
      | (with_reducible exact LeO.none _)
      | (with_reducible refine LeO.ite ?_ ?_)
      | (with_reducible refine LeO.bind ?_ (fun _ => ?_))
      | exact ih0 _ _ _ _ _ _
      | exact spec_hoDrops.mono _ _ _ _
      | exact spec_hoNeeded.mono _ _
      | exact LeO.none _
      | refine LeO.ite ?_ ?_
      | refine LeO.bind ?_ (fun _ => ?_)
theorem spec_hoPlay.mono : ∀ a0 a1 a2 a3 k, LeO (spec_hoPlay.f k a0 a1 a2 a3) (spec_hoPlay.f (k + 1) a0 a1 a2 a3) := by
  intro a0 a1 a2 a3 k
  have ih0 := spec_hoPlay.mono_l k
  unfold spec_hoPlay.f
  repeat' first
      | (with_reducible exact ih0 _ _ _ _ _ _)
      | (with_reducible exact spec_hoDrops.mono _ _ _ _)
      | (with_reducible exact spec_hoNeeded.mono _ _)
      | (with_reducible exact LeO.refl _)
      | (with_reducible exact LeO.none _)
      | (with_reducible refine LeO.ite ?_ ?_)
      | (with_reducible refine LeO.bind ?_ (fun _ => ?_))
      | exact ih0 _ _ _ _ _ _
      | exact spec_hoDrops.mono _ _ _ _
      | exact spec_hoNeeded.mono _ _
      | exact LeO.none _
      | refine LeO.ite ?_ ?_
      | refine LeO.bind ?_ (fun _ => ?_)
def spec_hoPlay.T6 : Bool × List (List Nat × List Nat) := (true, [([], []), ([0], [0]), ([1], [1]), ([], []), ([], []), ([4], [4]), ([5], [5]), ([3, 6], [3, 6]), ([7], [7]), ([], []), ([9], [9]), ([10], [10]), ([8, 11], [8, 11]), ([2, 0, 1, 2], [2]), ([12, 13, 0, 1, 2, 3, 4, 5, 6, 7, 8, 9, 10, 11, 12, 13], [12])])
def spec_hoPlay.B6 : List Nat := [0, 1, 3, 0, 0, 16, 48, 120, 248, 0, 512, 1536, 4088, 7, 16383]
theorem spec_hoPlay.tab6 : rtab .any (opsOf Try.f44 6) = spec_hoPlay.T6 := by kernel_rfl
theorem spec_hoPlay.bits6 : waitsOk spec_hoPlay.T6.2 spec_hoPlay.B6 = true := by kernel_rfl
def spec_hoPlay.T12 : Bool × List (List Nat × List Nat) := (true, [([], []), ([], []), ([0, 1], [0, 1]), ([2], [2]), ([], []), ([4], [4]), ([5], [5]), ([3, 6], [3, 6]), ([0, 1, 0, 1, 2, 3, 4, 5, 6, 7], [0, 1]), ([8, 7, 0, 1, 2, 3, 4, 5, 6, 7], [7, 8])])
def spec_hoPlay.B12 : List Nat := [0, 0, 3, 7, 0, 16, 48, 127, 255, 511]
theorem spec_hoPlay.tab12 : rtab .any (opsOf Try.f44 12) = spec_hoPlay.T12 := by kernel_rfl
theorem spec_hoPlay.bits12 : waitsOk spec_hoPlay.T12.2 spec_hoPlay.B12 = true := by kernel_rfl
set_option maxHeartbeats 8000000 in
set_option maxRecDepth 100000 in
theorem spec_hoPlay.calls (k : Nat) (P0_ : Nat → Prop) (u9000_ : Value) (l0 : List Int) (a1 : Int) (A2 : Option Addr) (c2 : Nat) (l2 : List Int) (A3 : Option Addr) (c3 : Nat) (l3 : List Int) (r1 : List (S51)) (r2 : List Int) (w0 w : World) (hB : Below w0.heap.size w0 w) (ho0 : Kd.R (Kd.int .i64) 3 w w0.heap.size P0_ u9000_ l0) (hr2 : ∀ W_, Kept w W_ (fun k_ => P0_ k_) → Kd.C (Kd.int .i64) W_ A2 l2.length l2) (hc2 : l2.length ≤ c2) (hr3 : ∀ W_, Kept w W_ (fun k_ => P0_ k_) → Kd.C (Kd.int .i64) W_ A3 l3.length l3) (hc3 : l3.length ≤ c3) (h : spec_hoPlay.f k l0 a1 l2 l3 = some (r1, r2)) :
    Calls Try.prog 44 #[u9000_, .int .i64 a1, .slice A2 l2.length c2, .slice A3 l3.length c3] w fun e w' => ∃ v0_ : Value, e = .returned (v0_) ∧ Kd.R k51 51 w' w0.heap.size (fun k_ => (P0_ k_ ∨ w.heap.size ≤ k_)) v0_ r1 ∧ Kd.R (Kd.int .i64) 3 w' w0.heap.size (fun k_ => (P0_ k_ ∨ w.heap.size ≤ k_)) u9000_ r2 ∧ Below w0.heap.size w0 w' ∧ Kept w w' (fun k_ => P0_ k_) := by
  have hu51 := Try.underlying51
  have HO0 := Aside0.mk (show Kd.R (Kd.int .i64) 3 w w0.heap.size (fun k_ => (P0_ k_ ∨ w.heap.size ≤ k_)) u9000_ l0 from Kd.R_mono ho0 (fun k_ hk => (.inl hk)))
  have HR2 := Aside0.mk hr2
  have HC2 := Aside0.mk hc2
  clear hr2 hc2
  have HR3 := Aside0.mk hr3
  have HC3 := Aside0.mk hc3
  clear hr3 hc3
  have HK := Aside0.mk (Kept.refl w (fun k_ => P0_ k_))
  have HW0 := Aside0.mk hB.size
  have HB := Aside0.mk hB
  clear hB
  have H : (if 0 ≤ (l2.length : Int) then (if ((l2.length : Int) : Int).toNat ≤ 35184372088832 then ((spec_l1Own.f l2).bind fun t207 => (spec_hoPlay.l0 k l0 a1 l3 (List.replicate ((l2.length : Int) : Int).toNat 0) t207 ([] : List (S51)))) else (none)) else (none)) = some (r1, r2) := h
  clear h
  by_cases c5 : 0 ≤ (l2.length : Int)
  · rw [if_pos c5] at H
    have c5b0 := eq_true c5
    have c5b1 : decide (0 ≤ (l2.length : Int)) = true := decide_eq_true c5
    clear c5
    by_cases c6 : ((l2.length : Int) : Int).toNat ≤ 35184372088832
    · rw [if_pos c6] at H
      have c6b0 := eq_true c6
      have c6b1 : decide (((l2.length : Int) : Int).toNat ≤ 35184372088832) = true := decide_eq_true c6
      clear c6
      obtain ⟨y204, hy204⟩ : ∃ y_ : List Int, y_ = (List.replicate ((l2.length : Int) : Int).toNat 0) := ⟨_, rfl⟩
      replace H : ((spec_l1Own.f l2).bind fun t207 => (spec_hoPlay.l0 k l0 a1 l3 y204 t207 ([] : List (S51)))) = some (r1, r2) := by first | (rw [hy204]; with_reducible exact H) | (have H2_ := (Option.bind_some _ _).symm.trans H; rw [hy204]; with_reducible exact H2_) | (have H2_ := (Option.bind_some _ _).symm.trans H; with_reducible exact H2_) | with_reducible exact H | (rw [hy204]; exact H) | exact H
      have Ny204 := Aside0.mk hy204
      clear hy204
      replace H := Option.bind_eq_some_iff.mp H
      obtain ⟨t207, A70, H⟩ := H
      replace H : (spec_hoPlay.l0 k l0 a1 l3 y204 t207 ([] : List (S51))) = some (r1, r2) := H
      have A7 := Aside0.mk A70
      clear A70
      have H' := Aside0.mk H
      clear H
      go_enter Try.func44, Try.ntmps44
      go_wp2_with (first | ((with_reducible refine gate_dst (N := 18) rfl ?_); refine Kd.R_make (Kd.int .i64) _ 3 rfl (N := 18) rfl 22 _ _ rfl (l2.length : Int) rfl rfl Try.underlying22 (.int .i64 0) 8 info3 rfl (by decide) (by omega) 0 (ok := fun _ => True) (okp := fun _ => True) rfl (fun _ hk => hk) trivial (of_decide_eq_true (by first | (with_reducible assumption) | assumption)) (Nat.le_trans (Nat.mul_le_mul_right _ (of_decide_eq_true (by first | (with_reducible assumption) | assumption) : (l2.length : Int).toNat ≤ 35184372088832)) (by omega)) (Below.refl _ _) (Nat.le_refl _) ?_; intro v205 w8 ho9 hb hg_ hnew_; clear hg_ hnew_; (first | rw [← Ny204.out] at ho9 | (simp only [Int.reduceToNat] at ho9; rw [← Ny204.out] at ho9)); have n0_ := Aside0.mk (Kd.R_elder' (by (with_reducible repeat (first | apply Kd.R_alloc | apply Kd.R_drewN | apply Kd.R_drew)); exact HO0.out) (Kd.R_base ho9) hb); have n1_ := Aside0.mk (Kd.R_lower (Kd.R_new' (Kd.R_newM (M := fun k_ => (P0_ k_ ∨ w.heap.size ≤ k_)) ho9 (by first | exact HK.out.1 | exact (show Kept w _ (fun k_ => P0_ k_) from by repeat (first | (with_reducible first | exact HK.out | apply Kept.alloc | apply Kept.drewN | apply Kept.drew) | exact HK.out)).1) (fun k_ h_ => .inr h_)) (Kd.R_lt (by (with_reducible repeat (first | apply Kd.R_alloc | apply Kd.R_drewN | apply Kd.R_drew)); exact HO0.out))) (below_size (by repeat (first | (with_reducible first | exact HB.out | apply below_alloc | apply pw_below_drewN | apply below_drew1) | exact HB.out)))); have n2_ := Aside0.mk (Kept.below (S := (fun k_ => P0_ k_)) (by repeat (first | (with_reducible first | exact HK.out | apply Kept.alloc | apply Kept.drewN | apply Kept.drew) | exact HK.out)) hb); have n3_ := Aside0.mk (below_step (by repeat (first | (with_reducible first | exact HB.out | apply below_alloc | apply pw_below_drewN | apply below_drew1) | exact HB.out)) hb); clear HO0; clear HK; clear HB; have HO0 := n0_; have HO206 := n1_; have HK := n2_; have HB := n3_; clear n0_ n1_ n2_ n3_; clear hb ho9) | ((with_reducible refine gate_callee (f := 71) rfl ?_); refine goesL_ (some 20) rfl rfl Try.func71 (by kernel_rfl) rfl #[.slice A2 l2.length c2] rfl (by (try simp only [List.map_toArray, List.map_cons, List.map_nil]); first | done | rfl | (simp only [List.length_drop, List.length_take]; rfl)) ?_; (with_reducible refine (spec_l1Own.calls _ _ l2 t207 _ ?side1 ?side2 A7.out).mono ?_); (case side1 => exact Kd.C_kept_now HR2.out (by repeat (first | (with_reducible first | exact HK.out | apply Kept.alloc | apply Kept.drewN | apply Kept.drew) | exact HK.out))); (case side2 => exact HC2.out); rintro e w10 ⟨v208, rfl, ho0, hb⟩; refine ⟨_, rfl, ?_⟩; have n0_ := Aside0.mk (Kd.R_elder' (by (with_reducible repeat (first | apply Kd.R_alloc | apply Kd.R_drewN | apply Kd.R_drew)); exact HO0.out) (Kd.R_base ho0) hb); have n1_ := Aside0.mk (Kd.R_elder' (by (with_reducible repeat (first | apply Kd.R_alloc | apply Kd.R_drewN | apply Kd.R_drew)); exact HO206.out) (Kd.R_base ho0) hb); have n2_ := Aside0.mk (Kd.R_lower (Kd.R_new' (Kd.R_new' (Kd.R_newM (M := fun k_ => (P0_ k_ ∨ w.heap.size ≤ k_)) ho0 (by first | exact HK.out.1 | exact (show Kept w _ (fun k_ => P0_ k_) from by repeat (first | (with_reducible first | exact HK.out | apply Kept.alloc | apply Kept.drewN | apply Kept.drew) | exact HK.out)).1) (fun k_ h_ => .inr h_)) (Kd.R_lt (by (with_reducible repeat (first | apply Kd.R_alloc | apply Kd.R_drewN | apply Kd.R_drew)); exact HO0.out))) (Kd.R_lt (by (with_reducible repeat (first | apply Kd.R_alloc | apply Kd.R_drewN | apply Kd.R_drew)); exact HO206.out))) (below_size (by repeat (first | (with_reducible first | exact HB.out | apply below_alloc | apply pw_below_drewN | apply below_drew1) | exact HB.out)))); have n3_ := Aside0.mk (Kept.below (S := (fun k_ => P0_ k_)) (by repeat (first | (with_reducible first | exact HK.out | apply Kept.alloc | apply Kept.drewN | apply Kept.drew) | exact HK.out)) hb); have n4_ := Aside0.mk (below_step (by repeat (first | (with_reducible first | exact HB.out | apply below_alloc | apply pw_below_drewN | apply below_drew1) | exact HB.out)) hb); clear HO0; clear HO206; clear HK; clear HB; have HO0 := n0_; have HO206 := n1_; have HO209 := n2_; have HK := n3_; have HB := n4_; clear n0_ n1_ n2_ n3_ n4_; (try clear hb); (try clear hb2); (try clear hk); (try clear hi); (try clear ho0)))
      go_loopg [1, 11] k (fun kq v1 v11 w' => ∃ (x0_1 : List Int) (x1_1 : Int) (x9_1 : List Int) (x10_1 : List Int) (x11_1 : List (S51)), v1 = .int .i64 x1_1 ∧ Aside0 (spec_hoPlay.l0 kq x0_1 x1_1 l3 x9_1 x10_1 x11_1 = some (r1, r2)) ∧ Aside0 (kq ≤ k) ∧ Aside0 (Kd.R (Kd.int .i64) 3 w' w0.heap.size (fun k_ => (P0_ k_ ∨ w.heap.size ≤ k_) ∧ some k_ ≠ (v205 : Value).ownBlock ∧ some k_ ≠ (v208 : Value).ownBlock) u9000_ x0_1) ∧ Aside0 (Kd.R (Kd.int .i64) 3 w' w0.heap.size (fun k_ => (P0_ k_ ∨ w.heap.size ≤ k_) ∧ some k_ ≠ (u9000_ : Value).ownBlock ∧ some k_ ≠ (v208 : Value).ownBlock) v205 x9_1) ∧ Aside0 (Kd.R (Kd.int .i64) 3 w' w0.heap.size (fun k_ => (P0_ k_ ∨ w.heap.size ≤ k_) ∧ some k_ ≠ (u9000_ : Value).ownBlock ∧ some k_ ≠ (v205 : Value).ownBlock) v208 x10_1) ∧ Aside0 (Kd.R k51 51 w' w0.heap.size (fun k_ => (P0_ k_ ∨ w.heap.size ≤ k_)) v11 x11_1) ∧ Aside0 (Kept w w' (fun k_ => P0_ k_)) ∧ Aside0 (Below w0.heap.size w0 w'))
      case atStart => exact ⟨(l0), (a1), (y204), (t207), (([] : List (S51))), (by first | rfl | (simp; done) | (simp [*]; done)), H', ⟨Nat.le_refl _⟩, ⟨by (with_reducible repeat (first | apply Kd.R_alloc | apply Kd.R_drewN | apply Kd.R_drew)); exact Kd.R_mono HO0.out (fun _ hk => by first | exact ⟨hk.1.1, ⟨hk.1.2, hk.2⟩⟩ | grind)⟩, ⟨by (with_reducible repeat (first | apply Kd.R_alloc | apply Kd.R_drewN | apply Kd.R_drew)); exact Kd.R_mono HO206.out (fun _ hk => by first | exact ⟨hk.1.1.1, ⟨hk.1.2, hk.2⟩⟩ | grind)⟩, ⟨by (with_reducible repeat (first | apply Kd.R_alloc | apply Kd.R_drewN | apply Kd.R_drew)); exact Kd.R_mono HO209.out (fun _ hk => by first | exact ⟨hk.1.1.1, ⟨hk.1.2, hk.2⟩⟩ | grind)⟩, ⟨by first | exact Kd.R_nil _ _ _ _ _ | exact Kd.N_nil _ _ _ _ _ | exact Kd.V_nil _ _ _ _ _ | exact Kd.Q_nil _ _ _ _ _ | exact Kd.S_nil _ _ _ _ _⟩, ⟨by repeat (first | (with_reducible first | exact HK.out | apply Kept.alloc | apply Kept.drewN | apply Kept.drew) | exact HK.out)⟩, ⟨by repeat (first | (with_reducible first | exact HB.out | apply below_alloc | apply pw_below_drewN | apply below_drew1) | exact HB.out)⟩⟩
      case round =>
        clear H'
        try clear c2
        try clear p2
        try clear c3
        try clear c4
        try clear c5
        try clear c5b0
        try clear c5b1
        try clear c6
        try clear c6b0
        try clear c6b1
        try clear c7
        obtain ⟨x0_1, x1_1, x9_1, x10_1, x11_1, rfl, HA, HK1, HO_0, HO_9, HO_10, HO_11, HK, HB⟩ := hrel
        cases gk with
        | zero => exact absurd HA.out (by simp [spec_hoPlay.l0])
        | succ k1 =>
          have H := HA.out
          clear HA
          simp only [spec_hoPlay.l0] at H
          replace H := Option.bind_eq_some_iff.mp H
          obtain ⟨t210, A110, H⟩ := H
          replace H : (if t210 > 0 then ((spec_hoDrops.f k1 x0_1 x1_1 x10_1).bind fun bt211 => (if 0 < (bt211.1.length : Int) then (if 0 < ((rd_L1 bt211.1 0).length : Int) then (if 0 ≤ (rd (rd_L1 bt211.1 0) 0) then (if (rd (rd_L1 bt211.1 0) 0) < (x9_1.length : Int) then (if 1 < ((rd_L1 bt211.1 0).length : Int) then (if (rd (rd_L1 bt211.1 0) 0) < (l3.length : Int) then (if x11_1.length < 5864062014805 then ((some (x11_1 ++ [(⟨rd (rd_L1 bt211.1 0) 0, wrap64 ((rd x9_1 (rd (rd_L1 bt211.1 0) 0)) + (rd (rd_L1 bt211.1 0) 1)), decide ((wrap64 ((rd x9_1 (rd (rd_L1 bt211.1 0) 0)) + (rd (rd_L1 bt211.1 0) 1))) > (rd l3 (rd (rd_L1 bt211.1 0) 0)))⟩ : S51)] : List (S51))).bind fun y221 => (if (wrap64 ((rd x9_1 (rd (rd_L1 bt211.1 0) 0)) + (rd (rd_L1 bt211.1 0) 1))) > (rd l3 (rd (rd_L1 bt211.1 0) 0)) then (if (rd (rd_L1 bt211.1 0) 0) < (x10_1.length : Int) then (spec_hoPlay.l0 k1 bt211.2 (wrap64 (x1_1 - 1)) l3 x9_1 (x10_1.set ((rd (rd_L1 bt211.1 0) 0) : Int).toNat (wrap64 ((rd (rd_L1 bt211.1 0) 1) - 1))) y221) else (none)) else (if (rd (rd_L1 bt211.1 0) 0) < (x10_1.length : Int) then (spec_hoPlay.l0 k1 bt211.2 x1_1 l3 (x9_1.set ((rd (rd_L1 bt211.1 0) 0) : Int).toNat (wrap64 ((rd x9_1 (rd (rd_L1 bt211.1 0) 0)) + (rd (rd_L1 bt211.1 0) 1)))) (x10_1.set ((rd (rd_L1 bt211.1 0) 0) : Int).toNat (wrap64 ((rd x10_1 (rd (rd_L1 bt211.1 0) 0)) - (rd (rd_L1 bt211.1 0) 1)))) y221) else (none)))) else (none)) else (none)) else (none)) else (none)) else (none)) else (none)) else (none))) else (some (x11_1, x0_1))) = some (r1, r2) := H
          have A11 := Aside0.mk A110
          clear A110
          by_cases c12 : t210 > 0
          · rw [if_pos c12] at H
            have c12b0 : decide (0 < t210) = true := decide_eq_true c12
            clear c12
            replace H := Option.bind_eq_some_iff.mp H
            obtain ⟨⟨t211, t214⟩, A130, H⟩ := H
            replace H : (if 0 < (t211.length : Int) then (if 0 < ((rd_L1 t211 0).length : Int) then (if 0 ≤ (rd (rd_L1 t211 0) 0) then (if (rd (rd_L1 t211 0) 0) < (x9_1.length : Int) then (if 1 < ((rd_L1 t211 0).length : Int) then (if (rd (rd_L1 t211 0) 0) < (l3.length : Int) then (if x11_1.length < 5864062014805 then ((some (x11_1 ++ [(⟨rd (rd_L1 t211 0) 0, wrap64 ((rd x9_1 (rd (rd_L1 t211 0) 0)) + (rd (rd_L1 t211 0) 1)), decide ((wrap64 ((rd x9_1 (rd (rd_L1 t211 0) 0)) + (rd (rd_L1 t211 0) 1))) > (rd l3 (rd (rd_L1 t211 0) 0)))⟩ : S51)] : List (S51))).bind fun y221 => (if (wrap64 ((rd x9_1 (rd (rd_L1 t211 0) 0)) + (rd (rd_L1 t211 0) 1))) > (rd l3 (rd (rd_L1 t211 0) 0)) then (if (rd (rd_L1 t211 0) 0) < (x10_1.length : Int) then (spec_hoPlay.l0 k1 t214 (wrap64 (x1_1 - 1)) l3 x9_1 (x10_1.set ((rd (rd_L1 t211 0) 0) : Int).toNat (wrap64 ((rd (rd_L1 t211 0) 1) - 1))) y221) else (none)) else (if (rd (rd_L1 t211 0) 0) < (x10_1.length : Int) then (spec_hoPlay.l0 k1 t214 x1_1 l3 (x9_1.set ((rd (rd_L1 t211 0) 0) : Int).toNat (wrap64 ((rd x9_1 (rd (rd_L1 t211 0) 0)) + (rd (rd_L1 t211 0) 1)))) (x10_1.set ((rd (rd_L1 t211 0) 0) : Int).toNat (wrap64 ((rd x10_1 (rd (rd_L1 t211 0) 0)) - (rd (rd_L1 t211 0) 1)))) y221) else (none)))) else (none)) else (none)) else (none)) else (none)) else (none)) else (none)) else (none)) = some (r1, r2) := H
            have A13 := Aside0.mk A130
            clear A130
            by_cases c14 : 0 < (t211.length : Int)
            · rw [if_pos c14] at H
              have c14b0 : decide (0 < (t211.length : Int)) = true := decide_eq_true c14
              have c14b1 : decide (0 < t211.length) = true := decide_eq_true (by omega)
              clear c14
              by_cases c15 : 0 < ((rd_L1 t211 0).length : Int)
              · rw [if_pos c15] at H
                have c15b0 : decide (0 < ((rd_L1 t211 0).length : Int)) = true := decide_eq_true c15
                have c15b1 : decide (0 < (rd_L1 t211 0).length) = true := decide_eq_true (by omega)
                clear c15
                by_cases c16 : 0 ≤ (rd (rd_L1 t211 0) 0)
                · rw [if_pos c16] at H
                  have c16b0 : decide (0 ≤ (rd (rd_L1 t211 0) 0)) = true := decide_eq_true c16
                  clear c16
                  by_cases c17 : (rd (rd_L1 t211 0) 0) < (x9_1.length : Int)
                  · rw [if_pos c17] at H
                    have c17b0 : decide ((rd (rd_L1 t211 0) 0) < (x9_1.length : Int)) = true := decide_eq_true c17
                    clear c17
                    by_cases c18 : 1 < ((rd_L1 t211 0).length : Int)
                    · rw [if_pos c18] at H
                      have c18b0 : decide (1 < ((rd_L1 t211 0).length : Int)) = true := decide_eq_true c18
                      have c18b1 : decide (1 < (rd_L1 t211 0).length) = true := decide_eq_true (by omega)
                      clear c18
                      by_cases c19 : (rd (rd_L1 t211 0) 0) < (l3.length : Int)
                      · rw [if_pos c19] at H
                        have c19b0 : decide ((rd (rd_L1 t211 0) 0) < (l3.length : Int)) = true := decide_eq_true c19
                        clear c19
                        by_cases c20 : x11_1.length < 5864062014805
                        · rw [if_pos c20] at H
                          have LMc20 := Aside0.mk c20
                          clear c20
                          obtain ⟨y221, hy221⟩ : ∃ y_ : List (S51), y_ = (x11_1 ++ [(⟨rd (rd_L1 t211 0) 0, wrap64 ((rd x9_1 (rd (rd_L1 t211 0) 0)) + (rd (rd_L1 t211 0) 1)), decide ((wrap64 ((rd x9_1 (rd (rd_L1 t211 0) 0)) + (rd (rd_L1 t211 0) 1))) > (rd l3 (rd (rd_L1 t211 0) 0)))⟩ : S51)]) := ⟨_, rfl⟩
                          replace H : (if (wrap64 ((rd x9_1 (rd (rd_L1 t211 0) 0)) + (rd (rd_L1 t211 0) 1))) > (rd l3 (rd (rd_L1 t211 0) 0)) then (if (rd (rd_L1 t211 0) 0) < (x10_1.length : Int) then (spec_hoPlay.l0 k1 t214 (wrap64 (x1_1 - 1)) l3 x9_1 (x10_1.set ((rd (rd_L1 t211 0) 0) : Int).toNat (wrap64 ((rd (rd_L1 t211 0) 1) - 1))) y221) else (none)) else (if (rd (rd_L1 t211 0) 0) < (x10_1.length : Int) then (spec_hoPlay.l0 k1 t214 x1_1 l3 (x9_1.set ((rd (rd_L1 t211 0) 0) : Int).toNat (wrap64 ((rd x9_1 (rd (rd_L1 t211 0) 0)) + (rd (rd_L1 t211 0) 1)))) (x10_1.set ((rd (rd_L1 t211 0) 0) : Int).toNat (wrap64 ((rd x10_1 (rd (rd_L1 t211 0) 0)) - (rd (rd_L1 t211 0) 1)))) y221) else (none))) = some (r1, r2) := by first | (rw [hy221]; with_reducible exact H) | (have H2_ := (Option.bind_some _ _).symm.trans H; rw [hy221]; with_reducible exact H2_) | (have H2_ := (Option.bind_some _ _).symm.trans H; with_reducible exact H2_) | with_reducible exact H | (rw [hy221]; exact H) | exact H
                          have Ny221 := Aside0.mk hy221
                          clear hy221
                          by_cases c21 : (wrap64 ((rd x9_1 (rd (rd_L1 t211 0) 0)) + (rd (rd_L1 t211 0) 1))) > (rd l3 (rd (rd_L1 t211 0) 0))
                          · rw [if_pos c21] at H
                            have c21D : (decide ((wrap64 ((rd x9_1 (rd (rd_L1 t211 0) 0)) + (rd (rd_L1 t211 0) 1))) > (rd l3 (rd (rd_L1 t211 0) 0)))) = true := decide_eq_true c21
                            have c21b0 : decide ((rd l3 (rd (rd_L1 t211 0) 0)) < (wrap64 ((rd x9_1 (rd (rd_L1 t211 0) 0)) + (rd (rd_L1 t211 0) 1)))) = true := decide_eq_true c21
                            clear c21
                            (try rw [c21D] at A11)
                            (try rw [c21D] at A13)
                            (try rw [c21D] at Ny221)
                            (try rw [c21D] at H)
                            clear c21D
                            by_cases c22 : (rd (rd_L1 t211 0) 0) < (x10_1.length : Int)
                            · rw [if_pos c22] at H
                              have c22b0 : decide ((rd (rd_L1 t211 0) 0) < (x10_1.length : Int)) = true := decide_eq_true c22
                              clear c22
                              obtain ⟨y225, hy225⟩ : ∃ y_ : List Int, y_ = (x10_1.set ((rd (rd_L1 t211 0) 0) : Int).toNat (wrap64 ((rd (rd_L1 t211 0) 1) - 1))) := ⟨_, rfl⟩
                              replace H : (spec_hoPlay.l0 k1 t214 (wrap64 (x1_1 - 1)) l3 x9_1 y225 y221) = some (r1, r2) := by first | (rw [hy225]; with_reducible exact H) | (have H2_ := (Option.bind_some _ _).symm.trans H; rw [hy225]; with_reducible exact H2_) | (have H2_ := (Option.bind_some _ _).symm.trans H; with_reducible exact H2_) | with_reducible exact H | (rw [hy225]; exact H) | exact H
                              have Ny225 := Aside0.mk hy225
                              clear hy225
                              have H' := Aside0.mk H
                              clear H
                              obtain ⟨Ao24, co24, eo24⟩ := Kd.R_slice HO_10.out
                              subst eo24
                              try go_wp2_with (first | ((with_reducible refine gate_callee (f := 58) rfl ?_); refine goesL_ (some 22) rfl rfl Try.func58 (by kernel_rfl) rfl #[.slice Ao24 x10_1.length co24] rfl (by (try simp only [List.map_toArray, List.map_cons, List.map_nil]); first | done | rfl | (simp only [List.length_drop, List.length_take]; rfl)) ?_; (with_reducible refine (spec_hoNeeded.calls k1 _ _ x10_1 t210 _ ?side1 ?side2 A11.out).mono ?_); (case side1 => repeat (first | exact (Kd.R_reads' HO_10.out).2.2 | (with_reducible refine Kd.C_alloc ?_ _) | (with_reducible refine Kd.C_drewN ?_ _) | (with_reducible refine Kd.C_drew ?_))); (case side2 => exact (Kd.R_reads' HO_10.out).2.1); rintro e w' ⟨rfl, ⟨nd, rfl⟩⟩; refine ⟨_, rfl, ?_⟩; (try (rw [drewN_self wr]; generalize hq_ : World.drewN wr _ = wr; have n0_ : Aside0 (Kd.R (Kd.int .i64) 3 wr w0.heap.size (fun k_ => (P0_ k_ ∨ w.heap.size ≤ k_) ∧ some k_ ≠ (.slice Ao24 x10_1.length co24 : Value).ownBlock ∧ some k_ ≠ (v205 : Value).ownBlock) u9000_ x0_1) := ⟨by rw [← hq_]; exact (by (with_reducible repeat (first | apply Kd.R_alloc | apply Kd.R_drewN | apply Kd.R_drew)); exact Kd.R_mono HO_0.out (fun _ hk => by first | exact ⟨hk.1, ⟨hk.2.2, hk.2.1⟩⟩ | grind))⟩; have n1_ : Aside0 (Kd.R (Kd.int .i64) 3 wr w0.heap.size (fun k_ => (P0_ k_ ∨ w.heap.size ≤ k_) ∧ some k_ ≠ (u9000_ : Value).ownBlock ∧ some k_ ≠ (v205 : Value).ownBlock) (.slice Ao24 x10_1.length co24) x10_1) := ⟨by rw [← hq_]; exact (by (with_reducible repeat (first | apply Kd.R_alloc | apply Kd.R_drewN | apply Kd.R_drew)); exact HO_10.out)⟩; have n2_ : Aside0 (Kd.R k51 51 wr w0.heap.size (fun k_ => (P0_ k_ ∨ w.heap.size ≤ k_)) u11 x11_1) := ⟨by rw [← hq_]; exact (by (with_reducible repeat (first | apply Kd.R_alloc | apply Kd.R_drewN | apply Kd.R_drew)); exact HO_11.out)⟩; have n3_ : Aside0 (Kd.R (Kd.int .i64) 3 wr w0.heap.size (fun k_ => (P0_ k_ ∨ w.heap.size ≤ k_) ∧ some k_ ≠ (u9000_ : Value).ownBlock ∧ some k_ ≠ (.slice Ao24 x10_1.length co24 : Value).ownBlock) v205 x9_1) := ⟨by rw [← hq_]; exact (by (with_reducible repeat (first | apply Kd.R_alloc | apply Kd.R_drewN | apply Kd.R_drew)); exact HO_9.out)⟩; have n4_ : Aside0 (Kept w wr (fun k_ => P0_ k_)) := ⟨by rw [← hq_]; exact (by repeat (first | (with_reducible first | exact HK.out | apply Kept.alloc | apply Kept.drewN | apply Kept.drew) | exact HK.out))⟩; have n5_ : Aside0 (Below w0.heap.size w0 wr) := ⟨by rw [← hq_]; exact (by repeat (first | (with_reducible first | exact HB.out | apply below_alloc | apply pw_below_drewN | apply below_drew1) | exact HB.out))⟩; clear HO_0 HO_10 HO_11 HO_9 HK HB hq_; have HO_0 := n0_; have HO_10 := n1_; have HO_11 := n2_; have HO_9 := n3_; have HK := n4_; have HB := n5_; clear n0_ n1_ n2_ n3_ n4_ n5_)); obtain ⟨Ao25, co25, eo25⟩ := Kd.R_slice HO_0.out; subst eo25) | ((with_reducible refine gate_callee (f := 59) rfl ?_); refine goesL_ (some 27) rfl rfl Try.func59 (by kernel_rfl) rfl #[.slice Ao25 x0_1.length co25, .int .i64 x1_1, .slice Ao24 x10_1.length co24] rfl (by (try simp only [List.map_toArray, List.map_cons, List.map_nil]); first | done | rfl | (simp only [List.length_drop, List.length_take]; rfl)) ?_; (with_reducible refine (spec_hoDrops.calls k1 (fun k_ => some k_ = (.slice Ao25 x0_1.length co25 : Value).ownBlock) (.slice Ao25 x0_1.length co25) x0_1 x1_1 _ _ x10_1 t211 t214 w0 _ ?side1 ?side2 ?side3 ?side4 A13.out).mono ?_); (case side1 => repeat (first | (with_reducible first | exact HB.out | apply below_alloc | apply pw_below_drewN | apply below_drew1) | exact HB.out)); (case side2 => exact Kd.R_tight rfl HO_0.out); (case side3 => exact Kd.C_kept_own (HO_10.out) (fun k_ hk_ hs_ => (hk_.2.1) hs_)); (case side4 => exact (Kd.R_reads' HO_10.out).2.1); rintro e w26 ⟨v212, rfl, ho0, hy0, hb, hkp⟩; refine ⟨_, rfl, ?_⟩; have n0_ := Aside0.mk (Kd.R_reok rfl hy0 (fun k_ e_ => HO_0.out.1 k_ e_)); have n1_ := Aside0.mk (Kd.R_mono (ok' := fun k_ => (P0_ k_ ∨ w.heap.size ≤ k_) ∧ some k_ ≠ (.slice Ao25 x0_1.length co25 : Value).ownBlock ∧ some k_ ≠ (.slice Ao24 x10_1.length co24 : Value).ownBlock) (Kd.R_keptB (HO_9.out) hkp (fun k_ hk_ hs_ => (hk_.2.1) hs_)) (fun k_ hk_ => by first | exact ⟨hk_.1.1, hk_.1.2.1, hk_.1.2.2⟩ | grind)); have n2_ := Aside0.mk (Kd.R_mono (ok' := fun k_ => (P0_ k_ ∨ w.heap.size ≤ k_) ∧ some k_ ≠ (.slice Ao25 x0_1.length co25 : Value).ownBlock ∧ some k_ ≠ (v205 : Value).ownBlock) (Kd.R_keptB (HO_10.out) hkp (fun k_ hk_ hs_ => (hk_.2.1) hs_)) (fun k_ hk_ => by first | exact ⟨hk_.1.1, hk_.1.2.1, hk_.1.2.2⟩ | grind)); have n3_ := Aside0.mk (Kd.R_mono (ok' := fun k_ => (P0_ k_ ∨ w.heap.size ≤ k_)) (Kd.R_keptB ((Kd.R_apart' HO_11.out (Kd.R_typed HO_0.out) (by decide))) hkp (fun k_ hk_ hs_ => (hk_.2) hs_)) (fun k_ hk_ => hk_.1.1)); have n4_ := Aside0.mk (Kd.N_lower (Kd.N_mono (ok' := fun k_ => (P0_ k_ ∨ w.heap.size ≤ k_) ∧ some k_ ≠ (v205 : Value).ownBlock ∧ some k_ ≠ (.slice Ao24 x10_1.length co24 : Value).ownBlock ∧ some k_ ≠ (u11 : Value).ownBlock ∧ some k_ ≠ (.slice Ao25 x0_1.length co25 : Value).ownBlock) ho0 (fun k_ hk_ => ⟨Or.elim hk_.1 (fun hs_ => (HO_0.out.1 k_ (hs_).symm).1) (fun hn_ => (.inr (Nat.le_trans (by first | exact HK.out.1 | exact (show Kept w _ (fun k_ => P0_ k_) from by repeat (first | (with_reducible first | exact HK.out | apply Kept.alloc | apply Kept.drewN | apply Kept.drew) | exact HK.out)).1) hn_))), Or.elim hk_.1 (fun hs_ => fun e_ => (((HO_9.out).1 k_ e_.symm).2.1) hs_) (fun hn_ => (Kd.fresh' (Kd.R_lt (by (with_reducible repeat (first | apply Kd.R_alloc | apply Kd.R_drewN | apply Kd.R_drew)); exact HO_9.out)) k_ hn_)), Or.elim hk_.1 (fun hs_ => fun e_ => (((HO_10.out).1 k_ e_.symm).2.1) hs_) (fun hn_ => (Kd.fresh' (Kd.R_lt (by (with_reducible repeat (first | apply Kd.R_alloc | apply Kd.R_drewN | apply Kd.R_drew)); exact HO_10.out)) k_ hn_)), Or.elim hk_.1 (fun hs_ => fun e_ => ((((Kd.R_apart' HO_11.out (Kd.R_typed HO_0.out) (by decide))).1 k_ e_.symm).2) hs_) (fun hn_ => (Kd.fresh' (Kd.R_lt (by (with_reducible repeat (first | apply Kd.R_alloc | apply Kd.R_drewN | apply Kd.R_drew)); exact HO_11.out)) k_ hn_)), hk_.2⟩)) (by first | exact HK.out.1 | exact (show Kept w _ (fun k_ => P0_ k_) from by repeat (first | (with_reducible first | exact HK.out | apply Kept.alloc | apply Kept.drewN | apply Kept.drew) | exact HK.out)).1)); have n5_ := Aside0.mk (Kept.then_ (S := (fun k_ => P0_ k_)) (by repeat (first | (with_reducible first | exact HK.out | apply Kept.alloc | apply Kept.drewN | apply Kept.drew) | exact HK.out)) hkp (fun k_ hs_ => (fun e_ => (HO_0.out.1 k_ e_.symm).1) hs_)); have n6_ := Aside0.mk (hb); clear HO_0; clear HO_9; clear HO_10; clear HO_11; clear HK; clear HB; have HO_0 := n0_; have HO_9 := n1_; have HO_10 := n2_; have HO_11 := n3_; have HO213 := n4_; have HK := n5_; have HB := n6_; clear n0_ n1_ n2_ n3_ n4_ n5_ n6_; (try clear hb); (try clear hkp); (try clear ho0); (try clear hy0); obtain ⟨Ao27, co27, eo27⟩ := Kd.N_slice HO213.out; subst eo27; have p215 : 0 ≤ (0 : Int) := (by omega); have q215 : 0 < (t211.length : Int) := of_decide_eq_true (by first | (with_reducible assumption) | assumption); obtain ⟨ad215, A215_0, c215_0, e215, hx215_0, hl215_0, hi215_0⟩ := at_L1 (Kd.N_reads' HO213.out).2.2 0 p215 q215; cases e215; obtain ⟨ce215, hce215, hMe215, hcc215⟩ := Kd.N_get HO213.out [] 0 p215 (by first | exact q215 | exact of_decide_eq_true (by first | (with_reducible assumption) | assumption) | (have e_ := (Kd.N_reads' HO213.out).1; omega)); obtain ⟨ua215_0, uc215_0, rfl, ul215_0, ge215_0⟩ := Kd.FK_slice_open hMe215; have hv215_0 := hcc215 0 _ rfl; rw [Nat.add_zero, show ((Kd.slice 3 (Kd.int .i64))).sz = 1 from rfl, Nat.mul_one] at hv215_0; replace hv215_0 := Option.some.inj (hv215_0.symm.trans hx215_0); injection hv215_0 with hva_ hvn_ hvc_; rw [hva_] at ge215_0; rw [hvc_] at ul215_0; have HL215_0 := Aside0.mk (show Kd.V (Kd.int .i64) 3 _ w0.heap.size _ _ (rd_L1 t211 0) from Kd.V_mk ul215_0 ge215_0); clear hva_ hvn_ hvc_ ge215_0 ul215_0; clear hcc215 hce215; have qi215 : (0 < t211.length) = True := eq_true (by omega); (try rw [show ((0 : Int)).toNat = 0 from rfl] at hx215_0); (try rw [Addr.add_zero'] at hx215_0); have HR215_0 := Aside0.mk hi215_0; have HC215_0 := Aside0.mk hl215_0; clear hi215_0 hl215_0; replace p215 := eq_true p215; replace q215 := eq_true q215))
                              have n0_ := Aside0.mk (Kd.R_drew HO_0.out)
                              have n1_ := Aside0.mk (Kd.R_drew HO_9.out)
                              have n2_ := Aside0.mk (Kd.R_drew HO_10.out)
                              have n3_ := Aside0.mk (Kd.R_drew HO_11.out)
                              have n4_ := Aside0.mk (Kd.N_drew HO213.out)
                              have n5_ := Aside0.mk (Kd.V_drew HL215_0.out)
                              have n6_ := Aside0.mk (Kd.C_drew HR215_0.out)
                              have n7_ := Aside0.mk (Kept.drew HK.out)
                              have n8_ := Aside0.mk (below_drew1 HB.out)
                              clear HO_0
                              clear HO_9
                              clear HO_10
                              clear HO_11
                              clear HO213
                              clear HL215_0
                              clear HR215_0
                              clear HK
                              clear HB
                              have HO_0 := n0_
                              have HO_9 := n1_
                              have HO_10 := n2_
                              have HO_11 := n3_
                              have HO213 := n4_
                              have HL215_0 := n5_
                              have HR215_0 := n6_
                              have HK := n7_
                              have HB := n8_
                              clear n0_ n1_ n2_ n3_ n4_ n5_ n6_ n7_ n8_
                              have p216 : 0 ≤ (0 : Int) := (by omega)
                              have q216 : 0 < ((rd_L1 t211 0).length : Int) := of_decide_eq_true (by first | (with_reducible assumption) | assumption)
                              obtain ⟨ad216, e216, hx216_0⟩ := Kd.at_int (by repeat (first | (with_reducible exact HR215_0.out) | (with_reducible refine Kd.C_alloc ?_ _) | (with_reducible refine Kd.C_drewN ?_ _) | (with_reducible refine Kd.C_drew ?_) | exact HR215_0.out)) 0 p216 q216
                              cases e216
                              have qi216 : (0 < (rd_L1 t211 0).length) = True := eq_true (by omega)
                              (try rw [show ((0 : Int)).toNat = 0 from rfl] at hx216_0)
                              (try rw [Addr.add_zero'] at hx216_0)
                              replace p216 := eq_true p216
                              replace q216 := eq_true q216
                              have p217 : 0 ≤ (0 : Int) := (by omega)
                              have q217 : 0 < ((rd_L1 t211 0).length : Int) := of_decide_eq_true (by first | (with_reducible assumption) | assumption)
                              obtain ⟨ad217, e217, hx217_0⟩ := Kd.at_int (by repeat (first | (with_reducible exact HR215_0.out) | (with_reducible refine Kd.C_alloc ?_ _) | (with_reducible refine Kd.C_drewN ?_ _) | (with_reducible refine Kd.C_drew ?_) | exact HR215_0.out)) 0 p217 q217
                              obtain rfl : ad216 = ad217 := (by injection e217)
                              have qi217 : (0 < (rd_L1 t211 0).length) = True := eq_true (by omega)
                              (try rw [show ((0 : Int)).toNat = 0 from rfl] at hx217_0)
                              (try rw [Addr.add_zero'] at hx217_0)
                              replace p217 := eq_true p217
                              replace q217 := eq_true q217
                              obtain ⟨Ao29, co29, eo29⟩ := Kd.R_slice HO_9.out
                              (first | subst eo29 | (injection eo29 with f1_ f2_ f3_; have f4_ := f1_.symm; have f5_ := f3_.symm; clear f1_ f2_ f3_; subst f4_; subst f5_))
                              have p218 : 0 ≤ ((rd (rd_L1 t211 0) 0) : Int) := of_decide_eq_true (by first | (with_reducible assumption) | assumption)
                              have q218 : (rd (rd_L1 t211 0) 0) < (x9_1.length : Int) := of_decide_eq_true (by first | (with_reducible assumption) | assumption)
                              obtain ⟨ad218, e218, hx218_0⟩ := Kd.at_int (Kd.R_reads' HO_9.out).2.2 (rd (rd_L1 t211 0) 0) p218 q218
                              cases e218
                              replace p218 := eq_true p218
                              replace q218 := eq_true q218
                              have p219 : 0 ≤ (1 : Int) := (by omega)
                              have q219 : 1 < ((rd_L1 t211 0).length : Int) := of_decide_eq_true (by first | (with_reducible assumption) | assumption)
                              obtain ⟨ad219, e219, hx219_0⟩ := Kd.at_int (by repeat (first | (with_reducible exact HR215_0.out) | (with_reducible refine Kd.C_alloc ?_ _) | (with_reducible refine Kd.C_drewN ?_ _) | (with_reducible refine Kd.C_drew ?_) | exact HR215_0.out)) 1 p219 q219
                              obtain rfl : ad216 = ad219 := (by injection e219)
                              (try simp only [show (1 : Int).toNat = 1 from rfl, Nat.reduceMul, Nat.reduceEqDiff, Go.Addr.add, ↓reduceIte] at hx219_0)
                              have qi219 : (1 < (rd_L1 t211 0).length) = True := eq_true (by omega)
                              (try rw [show ((1 : Int)).toNat = 1 from rfl] at hx219_0)
                              replace p219 := eq_true p219
                              replace q219 := eq_true q219
                              refine start_ (n := 15) (S := fun w' => w'.cell? ad216 = some (.int .i64 (rd (rd_L1 t211 0) 0)) ∧ w'.cell? ad216 = some (.int .i64 (rd (rd_L1 t211 0) 0)) ∧ w'.cell? (ad218.add ((rd (rd_L1 t211 0) 0)).toNat) = some (.int .i64 (rd x9_1 (rd (rd_L1 t211 0) 0))) ∧ w'.cell? ⟨ad216.block, ad216.off + 1, none⟩ = some (.int .i64 (rd (rd_L1 t211 0) 1))) (ds := []) #[false, false, false, false, false, false, false, false, false, false, false, false, false, false, false] (by kernel_rfl) rfl rfl ⟨hx216_0, hx217_0, hx218_0, hx219_0⟩ (fun hHeld => ?_); refine with_tabW spec_hoPlay.tab6 spec_hoPlay.bits6 (fun HT_ HW_ => ?_)
                              generalize w26.drew = w28 at HO_0 HO_9 HO_10 HO_11 HO213 HL215_0 HR215_0 HK HB hx216_0 hx217_0 hx218_0 hx219_0 hHeld ⊢
                              refine pure_ (i := 0) (N := some 30) (v := ?_) (a' := ?_) #[true, false, false, false, false, false, false, false, false, false, false, false, false, false, false] rfl rfl (any_of HT_.out (by kernel_rfl)) (fun _ _ _ h => h) (Or.inl ⟨by rfl, ?_⟩) ?_ ?_
                              rotate_left
                              · intro w'
                                go_simp
                                with_reducible rfl
                              rotate_left
                              · simp only [Act.put, List.setIfInBounds_toArray, List.set_cons_zero, List.set_cons_succ, i64_w, i32_w]
                                rfl
                              refine pure_ (i := 1) (N := some 31) (v := ?_) (a' := ?_) #[true, true, false, false, false, false, false, false, false, false, false, false, false, false, false] rfl rfl (any_of HT_.out (by kernel_rfl)) (fun _ _ _ h => h) (Or.inl ⟨by rfl, ?_⟩) ?_ ?_
                              rotate_left
                              · intro w'
                                go_simp
                                with_reducible rfl
                              rotate_left
                              · simp only [Act.put, List.setIfInBounds_toArray, List.set_cons_zero, List.set_cons_succ, i64_w, i32_w]
                                rfl
                              refine pure_ (i := 3) (N := some 33) (v := ?_) (a' := ?_) #[true, true, false, true, false, false, false, false, false, false, false, false, false, false, false] rfl rfl (any_of HT_.out (by kernel_rfl)) (fun _ _ _ h => h) (Or.inl ⟨by rfl, ?_⟩) ?_ ?_
                              rotate_left
                              · intro w'
                                go_simp
                                with_reducible rfl
                              rotate_left
                              · simp only [Act.put, List.setIfInBounds_toArray, List.set_cons_zero, List.set_cons_succ, i64_w, i32_w]
                                rfl
                              refine pure_ (i := 4) (N := some 34) (v := ?_) (a' := ?_) #[true, true, false, true, true, false, false, false, false, false, false, false, false, false, false] rfl rfl (any_of HT_.out (by kernel_rfl)) (fun _ _ _ h => h) (Or.inl ⟨by rfl, ?_⟩) ?_ ?_
                              rotate_left
                              · intro w'
                                go_simp
                                with_reducible rfl
                              rotate_left
                              · simp only [Act.put, List.setIfInBounds_toArray, List.set_cons_zero, List.set_cons_succ, i64_w, i32_w]
                                rfl
                              refine pure_ (i := 5) (N := some 35) (v := ?_) (a' := ?_) #[true, true, false, true, true, true, false, false, false, false, false, false, false, false, false] rfl rfl (any_of HT_.out (by kernel_rfl)) (fun _ _ _ h => h) (Or.inl ⟨by rfl, ?_⟩) ?_ ?_
                              rotate_left
                              · intro w'
                                go_simp
                                with_reducible rfl
                              rotate_left
                              · simp only [Act.put, List.setIfInBounds_toArray, List.set_cons_zero, List.set_cons_succ, i64_w, i32_w]
                                rfl
                              refine pure_ (i := 9) (N := some 39) (v := ?_) (a' := ?_) #[true, true, false, true, true, true, false, false, false, true, false, false, false, false, false] rfl rfl (any_of HT_.out (by kernel_rfl)) (fun _ _ _ h => h) (Or.inl ⟨by rfl, ?_⟩) ?_ ?_
                              rotate_left
                              · intro w'
                                go_simp
                                with_reducible rfl
                              rotate_left
                              · simp only [Act.put, List.setIfInBounds_toArray, List.set_cons_zero, List.set_cons_succ, i64_w, i32_w]
                                rfl
                              refine pure_ (i := 10) (N := some 40) (v := ?_) (a' := ?_) #[true, true, false, true, true, true, false, false, false, true, true, false, false, false, false] rfl rfl (any_of HT_.out (by kernel_rfl)) (fun _ _ _ h => h) (Or.inl ⟨by rfl, ?_⟩) ?_ ?_
                              rotate_left
                              · intro w'
                                go_simp
                                with_reducible rfl
                              rotate_left
                              · simp only [Act.put, List.setIfInBounds_toArray, List.set_cons_zero, List.set_cons_succ, i64_w, i32_w]
                                rfl
                              refine take_ (i := 2) (N := some 32) (v := ?_) (a' := ?_) #[true, true, true, true, true, true, false, false, false, true, true, false, false, false, false] rfl rfl (take_ofW HT_.out HW_.out (by kernel_rfl)) (fun _ _ _ h => h) (Or.inl ⟨by rfl, ?_⟩) hHeld ?_ ?_
                              rotate_left
                              · rintro w' ⟨s0, s1, s2, s3⟩
                                go_simp
                                with_reducible rfl
                              rotate_left
                              · simp only [Act.put, List.setIfInBounds_toArray, List.set_cons_zero, List.set_cons_succ, i64_w, i32_w]
                                rfl
                              refine pure_ (i := 13) (N := some 13) (v := ?_) (a' := ?_) #[true, true, true, true, true, true, false, false, false, true, true, false, false, true, false] rfl rfl (any_of HT_.out (by kernel_rfl)) (fun _ _ _ h => h) (Or.inl ⟨by rfl, ?_⟩) ?_ ?_
                              rotate_left
                              · intro w'
                                go_simp
                                with_reducible rfl
                              rotate_left
                              · simp only [Act.put, List.setIfInBounds_toArray, List.set_cons_zero, List.set_cons_succ, i64_w, i32_w]
                                rfl
                              refine take_ (i := 6) (N := some 36) (v := ?_) (a' := ?_) #[true, true, true, true, true, true, true, false, false, true, true, false, false, true, false] rfl rfl (take_ofW HT_.out HW_.out (by kernel_rfl)) (fun _ _ _ h => h) (Or.inl ⟨by rfl, ?_⟩) hHeld ?_ ?_
                              rotate_left
                              · rintro w' ⟨s0, s1, s2, s3⟩
                                go_simp
                                with_reducible rfl
                              rotate_left
                              · simp only [Act.put, List.setIfInBounds_toArray, List.set_cons_zero, List.set_cons_succ, i64_w, i32_w]
                                rfl
                              refine pure_ (i := 7) (N := some 37) (v := ?_) (a' := ?_) #[true, true, true, true, true, true, true, true, false, true, true, false, false, true, false] rfl rfl (any_of HT_.out (by kernel_rfl)) (fun _ _ _ h => h) (Or.inl ⟨by rfl, ?_⟩) ?_ ?_
                              rotate_left
                              · intro w'
                                go_simp
                                with_reducible rfl
                              rotate_left
                              · simp only [Act.put, List.setIfInBounds_toArray, List.set_cons_zero, List.set_cons_succ, i64_w, i32_w]
                                rfl
                              refine take_ (i := 8) (N := some 38) (v := ?_) (a' := ?_) #[true, true, true, true, true, true, true, true, true, true, true, false, false, true, false] rfl rfl (take_ofW HT_.out HW_.out (by kernel_rfl)) (fun _ _ _ h => h) (Or.inl ⟨by rfl, ?_⟩) hHeld ?_ ?_
                              rotate_left
                              · rintro w' ⟨s0, s1, s2, s3⟩
                                go_simp
                                with_reducible rfl
                              rotate_left
                              · simp only [Act.put, List.setIfInBounds_toArray, List.set_cons_zero, List.set_cons_succ, i64_w, i32_w]
                                rfl
                              refine take_ (i := 11) (N := some 41) (v := ?_) (a' := ?_) #[true, true, true, true, true, true, true, true, true, true, true, true, false, true, false] rfl rfl (take_ofW HT_.out HW_.out (by kernel_rfl)) (fun _ _ _ h => h) (Or.inl ⟨by rfl, ?_⟩) hHeld ?_ ?_
                              rotate_left
                              · rintro w' ⟨s0, s1, s2, s3⟩
                                go_simp
                                with_reducible rfl
                              rotate_left
                              · simp only [Act.put, List.setIfInBounds_toArray, List.set_cons_zero, List.set_cons_succ, i64_w, i32_w]
                                rfl
                              refine pure_ (i := 12) (N := some 42) (v := ?_) (a' := ?_) #[true, true, true, true, true, true, true, true, true, true, true, true, true, true, false] rfl rfl (any_of HT_.out (by kernel_rfl)) (fun _ _ _ h => h) (Or.inl ⟨by rfl, ?_⟩) ?_ ?_
                              rotate_left
                              · intro w'
                                go_simp
                                with_reducible rfl
                              rotate_left
                              · simp only [Act.put, List.setIfInBounds_toArray, List.set_cons_zero, List.set_cons_succ, i64_w, i32_w]
                                rfl
                              refine pure_ (i := 14) (N := some 14) (v := ?_) (a' := ?_) #[true, true, true, true, true, true, true, true, true, true, true, true, true, true, true] rfl rfl (any_of HT_.out (by kernel_rfl)) (fun _ _ _ h => h) (Or.inl ⟨by rfl, ?_⟩) ?_ ?_
                              rotate_left
                              · intro w'
                                go_simp
                                with_reducible rfl
                              rotate_left
                              · simp only [Act.put, List.setIfInBounds_toArray, List.set_cons_zero, List.set_cons_succ, i64_w, i32_w]
                                rfl
                              refine done_ (done_of HT_.out (by kernel_rfl)) ?_
                              have p220 : 0 ≤ ((rd (rd_L1 t211 0) 0) : Int) := of_decide_eq_true (by first | (with_reducible assumption) | assumption)
                              have q220 : (rd (rd_L1 t211 0) 0) < (l3.length : Int) := of_decide_eq_true (by first | (with_reducible assumption) | assumption)
                              obtain ⟨ad220, e220, hx220_0⟩ := Kd.at_int (Kd.C_kept_now HR3.out HK.out) (rd (rd_L1 t211 0) 0) p220 q220
                              cases e220
                              replace p220 := eq_true p220
                              replace q220 := eq_true q220
                              try go_wp2_with (first | ((with_reducible refine gate_builtin (b := .append) (xs := #[.tmp 49, .tmp 54]) rfl ?_); at_builtin; refine Kd.R_append k51 (w0 := w0) w0.heap.size rfl (.tmp 49) (.tmp 54) 28 51 (.agg #[(.int .i64 0), (.int .i64 0), (.bool false)]) 24 rfl Try.underlying28 info51 rfl (by decide) (by omega) u11 x11_1 (⟨rd (rd_L1 t211 0) 0, wrap64 ((rd x9_1 (rd (rd_L1 t211 0) 0)) + (rd (rd_L1 t211 0) 1)), true⟩ : S51) [.int .i64 (rd (rd_L1 t211 0) 0), .int .i64 (wrap64 ((rd x9_1 (rd (rd_L1 t211 0) 0)) + (rd (rd_L1 t211 0) 1))), .bool true] (fun k_ => (P0_ k_ ∨ w.heap.size ≤ k_)) (fun _ => False) rfl rfl ?aP (fun _ hk => hk.elim) ?aF ?aO ?aB ?aS ?aL ?_; (case aP => exact k51_mkM _ _ _ (⟨rd (rd_L1 t211 0) 0, wrap64 ((rd x9_1 (rd (rd_L1 t211 0) 0)) + (rd (rd_L1 t211 0) 1)), true⟩ : S51)); (case aB => exact (by repeat (first | (with_reducible first | exact HB.out | apply below_alloc | apply pw_below_drewN | apply below_drew1) | exact HB.out))); (case aF => exact (fun k_ hk => (.inr (Nat.le_trans (by first | exact HK.out.1 | exact (show Kept w _ (fun k_ => P0_ k_) from by repeat (first | (with_reducible first | exact HK.out | apply Kept.alloc | apply Kept.drewN | apply Kept.drew) | exact HK.out)).1) hk)))); (case aO => exact (by (with_reducible repeat (first | apply Kd.R_alloc | apply Kd.R_drewN | apply Kd.R_drew)); exact HO_11.out)); (case aS => exact (below_size (by repeat (first | (with_reducible first | exact HB.out | apply below_alloc | apply pw_below_drewN | apply below_drew1) | exact HB.out)))); (case aL => have := LMc20.out; omega); intro v222 w30 ho hb hg hat; rw [← Ny221.out] at ho; have n0_ := Aside0.mk (Kd.R_over' (by (with_reducible repeat (first | apply Kd.R_alloc | apply Kd.R_drewN | apply Kd.R_drew)); exact HO_0.out) (Kd.R_typed (by (with_reducible repeat (first | apply Kd.R_alloc | apply Kd.R_drewN | apply Kd.R_drew)); exact HO_11.out)) (by decide) hg); have n1_ := Aside0.mk (Kd.R_over' (by (with_reducible repeat (first | apply Kd.R_alloc | apply Kd.R_drewN | apply Kd.R_drew)); exact HO_9.out) (Kd.R_typed (by (with_reducible repeat (first | apply Kd.R_alloc | apply Kd.R_drewN | apply Kd.R_drew)); exact HO_11.out)) (by decide) hg); have n2_ := Aside0.mk (Kd.R_over' (by (with_reducible repeat (first | apply Kd.R_alloc | apply Kd.R_drewN | apply Kd.R_drew)); exact HO_10.out) (Kd.R_typed (by (with_reducible repeat (first | apply Kd.R_alloc | apply Kd.R_drewN | apply Kd.R_drew)); exact HO_11.out)) (by decide) hg); have n3_ := Aside0.mk (Kd.N_afterv (ok := (fun k_ => (P0_ k_ ∨ w.heap.size ≤ k_) ∧ some k_ ≠ (.slice Ao25 x0_1.length co25 : Value).ownBlock ∧ some k_ ≠ (.slice (some ad218) x9_1.length co29 : Value).ownBlock ∧ some k_ ≠ (.slice Ao24 x10_1.length co24 : Value).ownBlock)) (by (with_reducible repeat (first | apply Kd.N_alloc | apply Kd.N_drewN | apply Kd.N_drew)); exact Kd.N_mono HO213.out (fun _ hk => by first | exact ⟨⟨hk.1, ⟨hk.2.2.2.2, ⟨hk.2.1, hk.2.2.1⟩⟩⟩, hk.2.2.2.1⟩ | grind)) hg hat); have n4_ := Aside0.mk (Kd.V_afterv (ok := (fun k_ => (P0_ k_ ∨ w.heap.size ≤ k_) ∧ some k_ ≠ (.slice Ao25 x0_1.length co25 : Value).ownBlock ∧ some k_ ≠ (.slice (some ad218) x9_1.length co29 : Value).ownBlock ∧ some k_ ≠ (.slice Ao24 x10_1.length co24 : Value).ownBlock ∧ some k_ ≠ (.slice (some ad215) t211.length co27 : Value).ownBlock)) (by (with_reducible repeat (first | apply Kd.V_alloc | apply Kd.V_drewN | apply Kd.V_drew)); exact Kd.V_mono HL215_0.out (fun _ hk => by first | exact ⟨⟨hk.1.1, ⟨hk.1.2.2.2.2, ⟨hk.1.2.1, ⟨hk.1.2.2.1, hk.2⟩⟩⟩⟩, hk.1.2.2.2.1⟩ | grind)) hg hat); have n5_ := Aside0.mk (hb); have n6_ := Aside0.mk (Kept.of_grown (S := (fun k_ => P0_ k_)) hg (by repeat (first | (with_reducible first | exact HK.out | apply Kept.alloc | apply Kept.drewN | apply Kept.drew) | exact HK.out)) (fun k_ e_ => (HO_11.out.1 k_ e_))); have n7_ := Aside0.mk (ho); clear HO_0; clear HO_9; clear HO_10; clear HO213; clear HL215_0; clear HB; clear HK; clear HO_11; have HO_0 := n0_; have HO_9 := n1_; have HO_10 := n2_; have HO213 := n3_; have HL215_0 := n4_; have HB := n5_; have HK := n6_; have HO223 := n7_; clear n0_ n1_ n2_ n3_ n4_ n5_ n6_ n7_; clear ho hb hg hat; have p224 : 0 ≤ (1 : Int) := (by omega); have q224 : 1 < ((rd_L1 t211 0).length : Int) := of_decide_eq_true (by first | (with_reducible assumption) | assumption); obtain ⟨ad224, e224, hx224_0⟩ := Kd.at_int ((Kd.V_reads' (by first | (with_reducible exact HL215_0.out) | ((with_reducible repeat (first | apply Kd.V_alloc | apply Kd.V_drewN | apply Kd.V_drew)); exact HL215_0.out))).2.2) 1 p224 q224; obtain rfl : ad216 = ad224 := (by injection e224); (try simp only [show (1 : Int).toNat = 1 from rfl, Nat.reduceMul, Nat.reduceEqDiff, Go.Addr.add, ↓reduceIte] at hx224_0); have qi224 : (1 < (rd_L1 t211 0).length) = True := eq_true (by omega); (try rw [show ((1 : Int)).toNat = 1 from rfl] at hx224_0); replace p224 := eq_true p224; replace q224 := eq_true q224; have p23 : 0 ≤ ((rd (rd_L1 t211 0) 0) : Int) := of_decide_eq_true (by first | (with_reducible assumption) | assumption); have q23 : ((rd (rd_L1 t211 0) 0) : Int) < ((x10_1.length : Int) : Int) := of_decide_eq_true (by first | (with_reducible assumption) | assumption); obtain ⟨go23, co23, eo23, gb23, gl23, cl23, HG23⟩ := Kd.R_form HO_10.out (by omega); (first | cases eo23 | (injection eo23 with ea_ en_ ec_; (first | subst ea_ | (injection ea_ with ea_; subst ea_)); subst ec_; clear en_)); have GB23 := Aside0.mk gb23; have GG23 := Aside0.mk HG23; clear gb23 gl23 HG23; have HMgo23 := Aside0.mk (show (P0_ go23 ∨ w.heap.size ≤ go23) from (HO_10.out.1 _ rfl).1); obtain ⟨hx23_0, hf23_0⟩ := Kd.R_celln 0 HO_10.out ((rd (rd_L1 t211 0) 0) : Int) p23 q23; replace p23 := eq_true p23; replace q23 := eq_true q23; obtain ⟨hy31_, hz31_⟩ := Kd.R_celln 0 HO_10.out ((rd (rd_L1 t211 0) 0) : Int) (of_decide_eq_true (by first | (with_reducible assumption) | assumption)) (of_decide_eq_true (by first | (with_reducible assumption) | assumption)); have HP31 := Kd.R_putg HO_10.out ((rd (rd_L1 t211 0) 0) : Int) (wrap64 ((rd (rd_L1 t211 0) 1) - 1))) | ((with_reducible refine gate_store (t := 3) (p := 65) rfl ?_); refine store_event (t := 3) (p := 65) (v := ?vo_w32) (w1 := (w30.setCell ⟨go23, ((rd (rd_L1 t211 0) 0) : Int).toNat, none⟩ (.int .i64 (wrap64 ((rd (rd_L1 t211 0) 1) - 1))))) ?hg ?ho ?hn ?hr ?_; (case ho => rfl); (case hg => rfl); (case hn => rfl); (case hr => first | (go_simp; done) | (go_simp; rfl)); intro w32 hw; have hg : w30.grownBy w32 (some go23) := (by rw [hw]; exact HP31.2); have hp_ : Kd.R (Kd.int .i64) 3 w32 w0.heap.size (fun k_ => (P0_ k_ ∨ w.heap.size ≤ k_) ∧ some k_ ≠ (.slice Ao25 x0_1.length co25 : Value).ownBlock ∧ some k_ ≠ (.slice (some ad218) x9_1.length co29 : Value).ownBlock) (.slice (some ⟨go23, 0, none⟩) x10_1.length co24) y225 := (by rw [hw, Ny225.out]; exact HP31.1); clear HP31; have n0_ := Aside0.mk (Kd.R_after (v := (.slice (some ⟨go23, 0, none⟩) x10_1.length co24)) (v1 := (.slice (some ⟨go23, 0, none⟩) x10_1.length co24)) (ok := (fun k_ => (P0_ k_ ∨ w.heap.size ≤ k_) ∧ some k_ ≠ (.slice (some ad218) x9_1.length co29 : Value).ownBlock)) (by (with_reducible repeat (first | apply Kd.R_alloc | apply Kd.R_drewN | apply Kd.R_drew)); exact Kd.R_mono HO_0.out (fun _ hk => by first | exact ⟨⟨hk.1, hk.2.1⟩, hk.2.2⟩ | grind)) hg (.inl rfl)); have n1_ := Aside0.mk (Kd.R_after (v := (.slice (some ⟨go23, 0, none⟩) x10_1.length co24)) (v1 := (.slice (some ⟨go23, 0, none⟩) x10_1.length co24)) (ok := (fun k_ => (P0_ k_ ∨ w.heap.size ≤ k_) ∧ some k_ ≠ (.slice Ao25 x0_1.length co25 : Value).ownBlock)) (by (with_reducible repeat (first | apply Kd.R_alloc | apply Kd.R_drewN | apply Kd.R_drew)); exact Kd.R_mono HO_9.out (fun _ hk => by first | exact ⟨⟨hk.1, hk.2.1⟩, hk.2.2⟩ | grind)) hg (.inl rfl)); have n2_ := Aside0.mk (hp_); have n3_ := Aside0.mk (Kd.N_afterv (v := (.slice (some ⟨go23, 0, none⟩) x10_1.length co24)) (v1 := (.slice (some ⟨go23, 0, none⟩) x10_1.length co24)) (ok := (fun k_ => (P0_ k_ ∨ w.heap.size ≤ k_) ∧ some k_ ≠ (.slice Ao25 x0_1.length co25 : Value).ownBlock ∧ some k_ ≠ (.slice (some ad218) x9_1.length co29 : Value).ownBlock ∧ some k_ ≠ (v222 : Value).ownBlock)) (by (with_reducible repeat (first | apply Kd.N_alloc | apply Kd.N_drewN | apply Kd.N_drew)); exact Kd.N_mono HO213.out (fun _ hk => by first | exact ⟨⟨hk.1.1, ⟨hk.1.2.1, ⟨hk.1.2.2.1, hk.2⟩⟩⟩, hk.1.2.2.2⟩ | grind)) hg (.inl rfl)); have n4_ := Aside0.mk (Kd.V_afterv (v := (.slice (some ⟨go23, 0, none⟩) x10_1.length co24)) (v1 := (.slice (some ⟨go23, 0, none⟩) x10_1.length co24)) (ok := (fun k_ => (P0_ k_ ∨ w.heap.size ≤ k_) ∧ some k_ ≠ (.slice Ao25 x0_1.length co25 : Value).ownBlock ∧ some k_ ≠ (.slice (some ad218) x9_1.length co29 : Value).ownBlock ∧ some k_ ≠ (.slice (some ad215) t211.length co27 : Value).ownBlock ∧ some k_ ≠ (v222 : Value).ownBlock)) (by (with_reducible repeat (first | apply Kd.V_alloc | apply Kd.V_drewN | apply Kd.V_drew)); exact Kd.V_mono HL215_0.out (fun _ hk => by first | exact ⟨⟨hk.1.1, ⟨hk.1.2.1, ⟨hk.1.2.2.1, ⟨hk.1.2.2.2.2, hk.2⟩⟩⟩⟩, hk.1.2.2.2.1⟩ | grind)) hg (.inl rfl)); have n5_ := Aside0.mk (Kd.R_over' (v := (.slice (some ⟨go23, 0, none⟩) x10_1.length co24)) (by (with_reducible repeat (first | apply Kd.R_alloc | apply Kd.R_drewN | apply Kd.R_drew)); exact HO223.out) (Kd.R_typed HO_10.out) (by decide) hg); have n6_ := Aside0.mk ((by rw [hw]; exact below_set (HB.out) GB23.out : Below w0.heap.size w0 w32)); have n7_ := Aside0.mk (Kept.of_grown (S := (fun k_ => P0_ k_)) hg (by repeat (first | (with_reducible first | exact HK.out | apply Kept.alloc | apply Kept.drewN | apply Kept.drew) | exact HK.out)) (fun k_ e_ => (HO_10.out.1 k_ e_).1)); clear HO_0; clear HO_9; clear HO_10; clear HO213; clear HL215_0; clear HO223; clear HB; clear HK; have HO_0 := n0_; have HO_9 := n1_; have HO_10 := n2_; have HO213 := n3_; have HL215_0 := n4_; have HO223 := n5_; have HB := n6_; have HK := n7_; clear n0_ n1_ n2_ n3_ n4_ n5_ n6_ n7_; clear hg hw hp_))
                              go_roundg k1
                              case measure => have := HK1.out; omega
                              case rel => exact ⟨(t214), (wrap64 (x1_1 - 1)), (x9_1), (y225), (y221), (by first | rfl | (simp; done) | (simp [*]; done)), H', ⟨by have := HK1.out; omega⟩, ⟨by (with_reducible repeat (first | apply Kd.R_alloc | apply Kd.R_drewN | apply Kd.R_drew)); exact Kd.R_mono HO_0.out (fun _ hk => by first | exact ⟨hk.1.1, ⟨hk.1.2, hk.2⟩⟩ | grind)⟩, ⟨by (with_reducible repeat (first | apply Kd.R_alloc | apply Kd.R_drewN | apply Kd.R_drew)); exact Kd.R_mono HO_9.out (fun _ hk => by first | exact ⟨hk.1.1, ⟨hk.1.2, hk.2⟩⟩ | grind)⟩, ⟨by (with_reducible repeat (first | apply Kd.R_alloc | apply Kd.R_drewN | apply Kd.R_drew)); exact HO_10.out⟩, ⟨by (with_reducible repeat (first | apply Kd.R_alloc | apply Kd.R_drewN | apply Kd.R_drew)); exact HO223.out⟩, ⟨by repeat (first | (with_reducible first | exact HK.out | apply Kept.alloc | apply Kept.drewN | apply Kept.drew) | exact HK.out)⟩, ⟨by repeat (first | (with_reducible first | exact HB.out | apply below_alloc | apply pw_below_drewN | apply below_drew1) | exact HB.out)⟩⟩
                            · rw [if_neg c22] at H
                              exact absurd H (by simp)
                          · rw [if_neg c21] at H
                            have c21D : (decide ((wrap64 ((rd x9_1 (rd (rd_L1 t211 0) 0)) + (rd (rd_L1 t211 0) 1))) > (rd l3 (rd (rd_L1 t211 0) 0)))) = false := decide_eq_false c21
                            have c21b0 : decide ((rd l3 (rd (rd_L1 t211 0) 0)) < (wrap64 ((rd x9_1 (rd (rd_L1 t211 0) 0)) + (rd (rd_L1 t211 0) 1)))) = false := decide_eq_false c21
                            clear c21
                            (try rw [c21D] at A11)
                            (try rw [c21D] at A13)
                            (try rw [c21D] at Ny221)
                            (try rw [c21D] at H)
                            clear c21D
                            by_cases c33 : (rd (rd_L1 t211 0) 0) < (x10_1.length : Int)
                            · rw [if_pos c33] at H
                              have c33b0 : decide ((rd (rd_L1 t211 0) 0) < (x10_1.length : Int)) = true := decide_eq_true c33
                              clear c33
                              obtain ⟨y228, hy228⟩ : ∃ y_ : List Int, y_ = (x10_1.set ((rd (rd_L1 t211 0) 0) : Int).toNat (wrap64 ((rd x10_1 (rd (rd_L1 t211 0) 0)) - (rd (rd_L1 t211 0) 1)))) := ⟨_, rfl⟩
                              replace H : (spec_hoPlay.l0 k1 t214 x1_1 l3 (x9_1.set ((rd (rd_L1 t211 0) 0) : Int).toNat (wrap64 ((rd x9_1 (rd (rd_L1 t211 0) 0)) + (rd (rd_L1 t211 0) 1)))) y228 y221) = some (r1, r2) := by first | (rw [hy228]; with_reducible exact H) | (have H2_ := (Option.bind_some _ _).symm.trans H; rw [hy228]; with_reducible exact H2_) | (have H2_ := (Option.bind_some _ _).symm.trans H; with_reducible exact H2_) | with_reducible exact H | (rw [hy228]; exact H) | exact H
                              have Ny228 := Aside0.mk hy228
                              clear hy228
                              obtain ⟨y229, hy229⟩ : ∃ y_ : List Int, y_ = (x9_1.set ((rd (rd_L1 t211 0) 0) : Int).toNat (wrap64 ((rd x9_1 (rd (rd_L1 t211 0) 0)) + (rd (rd_L1 t211 0) 1)))) := ⟨_, rfl⟩
                              replace H : (spec_hoPlay.l0 k1 t214 x1_1 l3 y229 y228 y221) = some (r1, r2) := by first | (rw [hy229]; with_reducible exact H) | (have H2_ := (Option.bind_some _ _).symm.trans H; rw [hy229]; with_reducible exact H2_) | (have H2_ := (Option.bind_some _ _).symm.trans H; with_reducible exact H2_) | with_reducible exact H | (rw [hy229]; exact H) | exact H
                              have Ny229 := Aside0.mk hy229
                              clear hy229
                              have H' := Aside0.mk H
                              clear H
                              obtain ⟨Ao36, co36, eo36⟩ := Kd.R_slice HO_10.out
                              subst eo36
                              try go_wp2_with (first | ((with_reducible refine gate_callee (f := 58) rfl ?_); refine goesL_ (some 22) rfl rfl Try.func58 (by kernel_rfl) rfl #[.slice Ao36 x10_1.length co36] rfl (by (try simp only [List.map_toArray, List.map_cons, List.map_nil]); first | done | rfl | (simp only [List.length_drop, List.length_take]; rfl)) ?_; (with_reducible refine (spec_hoNeeded.calls k1 _ _ x10_1 t210 _ ?side1 ?side2 A11.out).mono ?_); (case side1 => repeat (first | exact (Kd.R_reads' HO_10.out).2.2 | (with_reducible refine Kd.C_alloc ?_ _) | (with_reducible refine Kd.C_drewN ?_ _) | (with_reducible refine Kd.C_drew ?_))); (case side2 => exact (Kd.R_reads' HO_10.out).2.1); rintro e w' ⟨rfl, ⟨nd, rfl⟩⟩; refine ⟨_, rfl, ?_⟩; (try (rw [drewN_self wr]; generalize hq_ : World.drewN wr _ = wr; have n0_ : Aside0 (Kd.R (Kd.int .i64) 3 wr w0.heap.size (fun k_ => (P0_ k_ ∨ w.heap.size ≤ k_) ∧ some k_ ≠ (.slice Ao36 x10_1.length co36 : Value).ownBlock ∧ some k_ ≠ (v205 : Value).ownBlock) u9000_ x0_1) := ⟨by rw [← hq_]; exact (by (with_reducible repeat (first | apply Kd.R_alloc | apply Kd.R_drewN | apply Kd.R_drew)); exact Kd.R_mono HO_0.out (fun _ hk => by first | exact ⟨hk.1, ⟨hk.2.2, hk.2.1⟩⟩ | grind))⟩; have n1_ : Aside0 (Kd.R (Kd.int .i64) 3 wr w0.heap.size (fun k_ => (P0_ k_ ∨ w.heap.size ≤ k_) ∧ some k_ ≠ (u9000_ : Value).ownBlock ∧ some k_ ≠ (v205 : Value).ownBlock) (.slice Ao36 x10_1.length co36) x10_1) := ⟨by rw [← hq_]; exact (by (with_reducible repeat (first | apply Kd.R_alloc | apply Kd.R_drewN | apply Kd.R_drew)); exact HO_10.out)⟩; have n2_ : Aside0 (Kd.R k51 51 wr w0.heap.size (fun k_ => (P0_ k_ ∨ w.heap.size ≤ k_)) u11 x11_1) := ⟨by rw [← hq_]; exact (by (with_reducible repeat (first | apply Kd.R_alloc | apply Kd.R_drewN | apply Kd.R_drew)); exact HO_11.out)⟩; have n3_ : Aside0 (Kd.R (Kd.int .i64) 3 wr w0.heap.size (fun k_ => (P0_ k_ ∨ w.heap.size ≤ k_) ∧ some k_ ≠ (u9000_ : Value).ownBlock ∧ some k_ ≠ (.slice Ao36 x10_1.length co36 : Value).ownBlock) v205 x9_1) := ⟨by rw [← hq_]; exact (by (with_reducible repeat (first | apply Kd.R_alloc | apply Kd.R_drewN | apply Kd.R_drew)); exact HO_9.out)⟩; have n4_ : Aside0 (Kept w wr (fun k_ => P0_ k_)) := ⟨by rw [← hq_]; exact (by repeat (first | (with_reducible first | exact HK.out | apply Kept.alloc | apply Kept.drewN | apply Kept.drew) | exact HK.out))⟩; have n5_ : Aside0 (Below w0.heap.size w0 wr) := ⟨by rw [← hq_]; exact (by repeat (first | (with_reducible first | exact HB.out | apply below_alloc | apply pw_below_drewN | apply below_drew1) | exact HB.out))⟩; clear HO_0 HO_10 HO_11 HO_9 HK HB hq_; have HO_0 := n0_; have HO_10 := n1_; have HO_11 := n2_; have HO_9 := n3_; have HK := n4_; have HB := n5_; clear n0_ n1_ n2_ n3_ n4_ n5_)); obtain ⟨Ao37, co37, eo37⟩ := Kd.R_slice HO_0.out; subst eo37) | ((with_reducible refine gate_callee (f := 59) rfl ?_); refine goesL_ (some 27) rfl rfl Try.func59 (by kernel_rfl) rfl #[.slice Ao37 x0_1.length co37, .int .i64 x1_1, .slice Ao36 x10_1.length co36] rfl (by (try simp only [List.map_toArray, List.map_cons, List.map_nil]); first | done | rfl | (simp only [List.length_drop, List.length_take]; rfl)) ?_; (with_reducible refine (spec_hoDrops.calls k1 (fun k_ => some k_ = (.slice Ao37 x0_1.length co37 : Value).ownBlock) (.slice Ao37 x0_1.length co37) x0_1 x1_1 _ _ x10_1 t211 t214 w0 _ ?side1 ?side2 ?side3 ?side4 A13.out).mono ?_); (case side1 => repeat (first | (with_reducible first | exact HB.out | apply below_alloc | apply pw_below_drewN | apply below_drew1) | exact HB.out)); (case side2 => exact Kd.R_tight rfl HO_0.out); (case side3 => exact Kd.C_kept_own (HO_10.out) (fun k_ hk_ hs_ => (hk_.2.1) hs_)); (case side4 => exact (Kd.R_reads' HO_10.out).2.1); rintro e w38 ⟨v212, rfl, ho0, hy0, hb, hkp⟩; refine ⟨_, rfl, ?_⟩; have n0_ := Aside0.mk (Kd.R_reok rfl hy0 (fun k_ e_ => HO_0.out.1 k_ e_)); have n1_ := Aside0.mk (Kd.R_mono (ok' := fun k_ => (P0_ k_ ∨ w.heap.size ≤ k_) ∧ some k_ ≠ (.slice Ao37 x0_1.length co37 : Value).ownBlock ∧ some k_ ≠ (.slice Ao36 x10_1.length co36 : Value).ownBlock) (Kd.R_keptB (HO_9.out) hkp (fun k_ hk_ hs_ => (hk_.2.1) hs_)) (fun k_ hk_ => by first | exact ⟨hk_.1.1, hk_.1.2.1, hk_.1.2.2⟩ | grind)); have n2_ := Aside0.mk (Kd.R_mono (ok' := fun k_ => (P0_ k_ ∨ w.heap.size ≤ k_) ∧ some k_ ≠ (.slice Ao37 x0_1.length co37 : Value).ownBlock ∧ some k_ ≠ (v205 : Value).ownBlock) (Kd.R_keptB (HO_10.out) hkp (fun k_ hk_ hs_ => (hk_.2.1) hs_)) (fun k_ hk_ => by first | exact ⟨hk_.1.1, hk_.1.2.1, hk_.1.2.2⟩ | grind)); have n3_ := Aside0.mk (Kd.R_mono (ok' := fun k_ => (P0_ k_ ∨ w.heap.size ≤ k_)) (Kd.R_keptB ((Kd.R_apart' HO_11.out (Kd.R_typed HO_0.out) (by decide))) hkp (fun k_ hk_ hs_ => (hk_.2) hs_)) (fun k_ hk_ => hk_.1.1)); have n4_ := Aside0.mk (Kd.N_lower (Kd.N_mono (ok' := fun k_ => (P0_ k_ ∨ w.heap.size ≤ k_) ∧ some k_ ≠ (v205 : Value).ownBlock ∧ some k_ ≠ (.slice Ao36 x10_1.length co36 : Value).ownBlock ∧ some k_ ≠ (u11 : Value).ownBlock ∧ some k_ ≠ (.slice Ao37 x0_1.length co37 : Value).ownBlock) ho0 (fun k_ hk_ => ⟨Or.elim hk_.1 (fun hs_ => (HO_0.out.1 k_ (hs_).symm).1) (fun hn_ => (.inr (Nat.le_trans (by first | exact HK.out.1 | exact (show Kept w _ (fun k_ => P0_ k_) from by repeat (first | (with_reducible first | exact HK.out | apply Kept.alloc | apply Kept.drewN | apply Kept.drew) | exact HK.out)).1) hn_))), Or.elim hk_.1 (fun hs_ => fun e_ => (((HO_9.out).1 k_ e_.symm).2.1) hs_) (fun hn_ => (Kd.fresh' (Kd.R_lt (by (with_reducible repeat (first | apply Kd.R_alloc | apply Kd.R_drewN | apply Kd.R_drew)); exact HO_9.out)) k_ hn_)), Or.elim hk_.1 (fun hs_ => fun e_ => (((HO_10.out).1 k_ e_.symm).2.1) hs_) (fun hn_ => (Kd.fresh' (Kd.R_lt (by (with_reducible repeat (first | apply Kd.R_alloc | apply Kd.R_drewN | apply Kd.R_drew)); exact HO_10.out)) k_ hn_)), Or.elim hk_.1 (fun hs_ => fun e_ => ((((Kd.R_apart' HO_11.out (Kd.R_typed HO_0.out) (by decide))).1 k_ e_.symm).2) hs_) (fun hn_ => (Kd.fresh' (Kd.R_lt (by (with_reducible repeat (first | apply Kd.R_alloc | apply Kd.R_drewN | apply Kd.R_drew)); exact HO_11.out)) k_ hn_)), hk_.2⟩)) (by first | exact HK.out.1 | exact (show Kept w _ (fun k_ => P0_ k_) from by repeat (first | (with_reducible first | exact HK.out | apply Kept.alloc | apply Kept.drewN | apply Kept.drew) | exact HK.out)).1)); have n5_ := Aside0.mk (Kept.then_ (S := (fun k_ => P0_ k_)) (by repeat (first | (with_reducible first | exact HK.out | apply Kept.alloc | apply Kept.drewN | apply Kept.drew) | exact HK.out)) hkp (fun k_ hs_ => (fun e_ => (HO_0.out.1 k_ e_.symm).1) hs_)); have n6_ := Aside0.mk (hb); clear HO_0; clear HO_9; clear HO_10; clear HO_11; clear HK; clear HB; have HO_0 := n0_; have HO_9 := n1_; have HO_10 := n2_; have HO_11 := n3_; have HO213 := n4_; have HK := n5_; have HB := n6_; clear n0_ n1_ n2_ n3_ n4_ n5_ n6_; (try clear hb); (try clear hkp); (try clear ho0); (try clear hy0); obtain ⟨Ao39, co39, eo39⟩ := Kd.N_slice HO213.out; subst eo39; have p215 : 0 ≤ (0 : Int) := (by omega); have q215 : 0 < (t211.length : Int) := of_decide_eq_true (by first | (with_reducible assumption) | assumption); obtain ⟨ad215, A215_0, c215_0, e215, hx215_0, hl215_0, hi215_0⟩ := at_L1 (Kd.N_reads' HO213.out).2.2 0 p215 q215; cases e215; obtain ⟨ce215, hce215, hMe215, hcc215⟩ := Kd.N_get HO213.out [] 0 p215 (by first | exact q215 | exact of_decide_eq_true (by first | (with_reducible assumption) | assumption) | (have e_ := (Kd.N_reads' HO213.out).1; omega)); obtain ⟨ua215_0, uc215_0, rfl, ul215_0, ge215_0⟩ := Kd.FK_slice_open hMe215; have hv215_0 := hcc215 0 _ rfl; rw [Nat.add_zero, show ((Kd.slice 3 (Kd.int .i64))).sz = 1 from rfl, Nat.mul_one] at hv215_0; replace hv215_0 := Option.some.inj (hv215_0.symm.trans hx215_0); injection hv215_0 with hva_ hvn_ hvc_; rw [hva_] at ge215_0; rw [hvc_] at ul215_0; have HL215_0 := Aside0.mk (show Kd.V (Kd.int .i64) 3 _ w0.heap.size _ _ (rd_L1 t211 0) from Kd.V_mk ul215_0 ge215_0); clear hva_ hvn_ hvc_ ge215_0 ul215_0; clear hcc215 hce215; have qi215 : (0 < t211.length) = True := eq_true (by omega); (try rw [show ((0 : Int)).toNat = 0 from rfl] at hx215_0); (try rw [Addr.add_zero'] at hx215_0); have HR215_0 := Aside0.mk hi215_0; have HC215_0 := Aside0.mk hl215_0; clear hi215_0 hl215_0; replace p215 := eq_true p215; replace q215 := eq_true q215))
                              have n0_ := Aside0.mk (Kd.R_drew HO_0.out)
                              have n1_ := Aside0.mk (Kd.R_drew HO_9.out)
                              have n2_ := Aside0.mk (Kd.R_drew HO_10.out)
                              have n3_ := Aside0.mk (Kd.R_drew HO_11.out)
                              have n4_ := Aside0.mk (Kd.N_drew HO213.out)
                              have n5_ := Aside0.mk (Kd.V_drew HL215_0.out)
                              have n6_ := Aside0.mk (Kd.C_drew HR215_0.out)
                              have n7_ := Aside0.mk (Kept.drew HK.out)
                              have n8_ := Aside0.mk (below_drew1 HB.out)
                              clear HO_0
                              clear HO_9
                              clear HO_10
                              clear HO_11
                              clear HO213
                              clear HL215_0
                              clear HR215_0
                              clear HK
                              clear HB
                              have HO_0 := n0_
                              have HO_9 := n1_
                              have HO_10 := n2_
                              have HO_11 := n3_
                              have HO213 := n4_
                              have HL215_0 := n5_
                              have HR215_0 := n6_
                              have HK := n7_
                              have HB := n8_
                              clear n0_ n1_ n2_ n3_ n4_ n5_ n6_ n7_ n8_
                              have p216 : 0 ≤ (0 : Int) := (by omega)
                              have q216 : 0 < ((rd_L1 t211 0).length : Int) := of_decide_eq_true (by first | (with_reducible assumption) | assumption)
                              obtain ⟨ad216, e216, hx216_0⟩ := Kd.at_int (by repeat (first | (with_reducible exact HR215_0.out) | (with_reducible refine Kd.C_alloc ?_ _) | (with_reducible refine Kd.C_drewN ?_ _) | (with_reducible refine Kd.C_drew ?_) | exact HR215_0.out)) 0 p216 q216
                              cases e216
                              have qi216 : (0 < (rd_L1 t211 0).length) = True := eq_true (by omega)
                              (try rw [show ((0 : Int)).toNat = 0 from rfl] at hx216_0)
                              (try rw [Addr.add_zero'] at hx216_0)
                              replace p216 := eq_true p216
                              replace q216 := eq_true q216
                              have p217 : 0 ≤ (0 : Int) := (by omega)
                              have q217 : 0 < ((rd_L1 t211 0).length : Int) := of_decide_eq_true (by first | (with_reducible assumption) | assumption)
                              obtain ⟨ad217, e217, hx217_0⟩ := Kd.at_int (by repeat (first | (with_reducible exact HR215_0.out) | (with_reducible refine Kd.C_alloc ?_ _) | (with_reducible refine Kd.C_drewN ?_ _) | (with_reducible refine Kd.C_drew ?_) | exact HR215_0.out)) 0 p217 q217
                              obtain rfl : ad216 = ad217 := (by injection e217)
                              have qi217 : (0 < (rd_L1 t211 0).length) = True := eq_true (by omega)
                              (try rw [show ((0 : Int)).toNat = 0 from rfl] at hx217_0)
                              (try rw [Addr.add_zero'] at hx217_0)
                              replace p217 := eq_true p217
                              replace q217 := eq_true q217
                              obtain ⟨Ao41, co41, eo41⟩ := Kd.R_slice HO_9.out
                              (first | subst eo41 | (injection eo41 with f1_ f2_ f3_; have f4_ := f1_.symm; have f5_ := f3_.symm; clear f1_ f2_ f3_; subst f4_; subst f5_))
                              have p218 : 0 ≤ ((rd (rd_L1 t211 0) 0) : Int) := of_decide_eq_true (by first | (with_reducible assumption) | assumption)
                              have q218 : (rd (rd_L1 t211 0) 0) < (x9_1.length : Int) := of_decide_eq_true (by first | (with_reducible assumption) | assumption)
                              obtain ⟨ad218, e218, hx218_0⟩ := Kd.at_int (Kd.R_reads' HO_9.out).2.2 (rd (rd_L1 t211 0) 0) p218 q218
                              cases e218
                              replace p218 := eq_true p218
                              replace q218 := eq_true q218
                              have p219 : 0 ≤ (1 : Int) := (by omega)
                              have q219 : 1 < ((rd_L1 t211 0).length : Int) := of_decide_eq_true (by first | (with_reducible assumption) | assumption)
                              obtain ⟨ad219, e219, hx219_0⟩ := Kd.at_int (by repeat (first | (with_reducible exact HR215_0.out) | (with_reducible refine Kd.C_alloc ?_ _) | (with_reducible refine Kd.C_drewN ?_ _) | (with_reducible refine Kd.C_drew ?_) | exact HR215_0.out)) 1 p219 q219
                              obtain rfl : ad216 = ad219 := (by injection e219)
                              (try simp only [show (1 : Int).toNat = 1 from rfl, Nat.reduceMul, Nat.reduceEqDiff, Go.Addr.add, ↓reduceIte] at hx219_0)
                              have qi219 : (1 < (rd_L1 t211 0).length) = True := eq_true (by omega)
                              (try rw [show ((1 : Int)).toNat = 1 from rfl] at hx219_0)
                              replace p219 := eq_true p219
                              replace q219 := eq_true q219
                              refine start_ (n := 15) (S := fun w' => w'.cell? ad216 = some (.int .i64 (rd (rd_L1 t211 0) 0)) ∧ w'.cell? ad216 = some (.int .i64 (rd (rd_L1 t211 0) 0)) ∧ w'.cell? (ad218.add ((rd (rd_L1 t211 0) 0)).toNat) = some (.int .i64 (rd x9_1 (rd (rd_L1 t211 0) 0))) ∧ w'.cell? ⟨ad216.block, ad216.off + 1, none⟩ = some (.int .i64 (rd (rd_L1 t211 0) 1))) (ds := []) #[false, false, false, false, false, false, false, false, false, false, false, false, false, false, false] (by kernel_rfl) rfl rfl ⟨hx216_0, hx217_0, hx218_0, hx219_0⟩ (fun hHeld => ?_); refine with_tabW spec_hoPlay.tab6 spec_hoPlay.bits6 (fun HT_ HW_ => ?_)
                              generalize w38.drew = w40 at HO_0 HO_9 HO_10 HO_11 HO213 HL215_0 HR215_0 HK HB hx216_0 hx217_0 hx218_0 hx219_0 hHeld ⊢
                              refine pure_ (i := 0) (N := some 30) (v := ?_) (a' := ?_) #[true, false, false, false, false, false, false, false, false, false, false, false, false, false, false] rfl rfl (any_of HT_.out (by kernel_rfl)) (fun _ _ _ h => h) (Or.inl ⟨by rfl, ?_⟩) ?_ ?_
                              rotate_left
                              · intro w'
                                go_simp
                                with_reducible rfl
                              rotate_left
                              · simp only [Act.put, List.setIfInBounds_toArray, List.set_cons_zero, List.set_cons_succ, i64_w, i32_w]
                                rfl
                              refine pure_ (i := 1) (N := some 31) (v := ?_) (a' := ?_) #[true, true, false, false, false, false, false, false, false, false, false, false, false, false, false] rfl rfl (any_of HT_.out (by kernel_rfl)) (fun _ _ _ h => h) (Or.inl ⟨by rfl, ?_⟩) ?_ ?_
                              rotate_left
                              · intro w'
                                go_simp
                                with_reducible rfl
                              rotate_left
                              · simp only [Act.put, List.setIfInBounds_toArray, List.set_cons_zero, List.set_cons_succ, i64_w, i32_w]
                                rfl
                              refine pure_ (i := 3) (N := some 33) (v := ?_) (a' := ?_) #[true, true, false, true, false, false, false, false, false, false, false, false, false, false, false] rfl rfl (any_of HT_.out (by kernel_rfl)) (fun _ _ _ h => h) (Or.inl ⟨by rfl, ?_⟩) ?_ ?_
                              rotate_left
                              · intro w'
                                go_simp
                                with_reducible rfl
                              rotate_left
                              · simp only [Act.put, List.setIfInBounds_toArray, List.set_cons_zero, List.set_cons_succ, i64_w, i32_w]
                                rfl
                              refine pure_ (i := 4) (N := some 34) (v := ?_) (a' := ?_) #[true, true, false, true, true, false, false, false, false, false, false, false, false, false, false] rfl rfl (any_of HT_.out (by kernel_rfl)) (fun _ _ _ h => h) (Or.inl ⟨by rfl, ?_⟩) ?_ ?_
                              rotate_left
                              · intro w'
                                go_simp
                                with_reducible rfl
                              rotate_left
                              · simp only [Act.put, List.setIfInBounds_toArray, List.set_cons_zero, List.set_cons_succ, i64_w, i32_w]
                                rfl
                              refine pure_ (i := 5) (N := some 35) (v := ?_) (a' := ?_) #[true, true, false, true, true, true, false, false, false, false, false, false, false, false, false] rfl rfl (any_of HT_.out (by kernel_rfl)) (fun _ _ _ h => h) (Or.inl ⟨by rfl, ?_⟩) ?_ ?_
                              rotate_left
                              · intro w'
                                go_simp
                                with_reducible rfl
                              rotate_left
                              · simp only [Act.put, List.setIfInBounds_toArray, List.set_cons_zero, List.set_cons_succ, i64_w, i32_w]
                                rfl
                              refine pure_ (i := 9) (N := some 39) (v := ?_) (a' := ?_) #[true, true, false, true, true, true, false, false, false, true, false, false, false, false, false] rfl rfl (any_of HT_.out (by kernel_rfl)) (fun _ _ _ h => h) (Or.inl ⟨by rfl, ?_⟩) ?_ ?_
                              rotate_left
                              · intro w'
                                go_simp
                                with_reducible rfl
                              rotate_left
                              · simp only [Act.put, List.setIfInBounds_toArray, List.set_cons_zero, List.set_cons_succ, i64_w, i32_w]
                                rfl
                              refine pure_ (i := 10) (N := some 40) (v := ?_) (a' := ?_) #[true, true, false, true, true, true, false, false, false, true, true, false, false, false, false] rfl rfl (any_of HT_.out (by kernel_rfl)) (fun _ _ _ h => h) (Or.inl ⟨by rfl, ?_⟩) ?_ ?_
                              rotate_left
                              · intro w'
                                go_simp
                                with_reducible rfl
                              rotate_left
                              · simp only [Act.put, List.setIfInBounds_toArray, List.set_cons_zero, List.set_cons_succ, i64_w, i32_w]
                                rfl
                              refine take_ (i := 2) (N := some 32) (v := ?_) (a' := ?_) #[true, true, true, true, true, true, false, false, false, true, true, false, false, false, false] rfl rfl (take_ofW HT_.out HW_.out (by kernel_rfl)) (fun _ _ _ h => h) (Or.inl ⟨by rfl, ?_⟩) hHeld ?_ ?_
                              rotate_left
                              · rintro w' ⟨s0, s1, s2, s3⟩
                                go_simp
                                with_reducible rfl
                              rotate_left
                              · simp only [Act.put, List.setIfInBounds_toArray, List.set_cons_zero, List.set_cons_succ, i64_w, i32_w]
                                rfl
                              refine pure_ (i := 13) (N := some 13) (v := ?_) (a' := ?_) #[true, true, true, true, true, true, false, false, false, true, true, false, false, true, false] rfl rfl (any_of HT_.out (by kernel_rfl)) (fun _ _ _ h => h) (Or.inl ⟨by rfl, ?_⟩) ?_ ?_
                              rotate_left
                              · intro w'
                                go_simp
                                with_reducible rfl
                              rotate_left
                              · simp only [Act.put, List.setIfInBounds_toArray, List.set_cons_zero, List.set_cons_succ, i64_w, i32_w]
                                rfl
                              refine take_ (i := 6) (N := some 36) (v := ?_) (a' := ?_) #[true, true, true, true, true, true, true, false, false, true, true, false, false, true, false] rfl rfl (take_ofW HT_.out HW_.out (by kernel_rfl)) (fun _ _ _ h => h) (Or.inl ⟨by rfl, ?_⟩) hHeld ?_ ?_
                              rotate_left
                              · rintro w' ⟨s0, s1, s2, s3⟩
                                go_simp
                                with_reducible rfl
                              rotate_left
                              · simp only [Act.put, List.setIfInBounds_toArray, List.set_cons_zero, List.set_cons_succ, i64_w, i32_w]
                                rfl
                              refine pure_ (i := 7) (N := some 37) (v := ?_) (a' := ?_) #[true, true, true, true, true, true, true, true, false, true, true, false, false, true, false] rfl rfl (any_of HT_.out (by kernel_rfl)) (fun _ _ _ h => h) (Or.inl ⟨by rfl, ?_⟩) ?_ ?_
                              rotate_left
                              · intro w'
                                go_simp
                                with_reducible rfl
                              rotate_left
                              · simp only [Act.put, List.setIfInBounds_toArray, List.set_cons_zero, List.set_cons_succ, i64_w, i32_w]
                                rfl
                              refine take_ (i := 8) (N := some 38) (v := ?_) (a' := ?_) #[true, true, true, true, true, true, true, true, true, true, true, false, false, true, false] rfl rfl (take_ofW HT_.out HW_.out (by kernel_rfl)) (fun _ _ _ h => h) (Or.inl ⟨by rfl, ?_⟩) hHeld ?_ ?_
                              rotate_left
                              · rintro w' ⟨s0, s1, s2, s3⟩
                                go_simp
                                with_reducible rfl
                              rotate_left
                              · simp only [Act.put, List.setIfInBounds_toArray, List.set_cons_zero, List.set_cons_succ, i64_w, i32_w]
                                rfl
                              refine take_ (i := 11) (N := some 41) (v := ?_) (a' := ?_) #[true, true, true, true, true, true, true, true, true, true, true, true, false, true, false] rfl rfl (take_ofW HT_.out HW_.out (by kernel_rfl)) (fun _ _ _ h => h) (Or.inl ⟨by rfl, ?_⟩) hHeld ?_ ?_
                              rotate_left
                              · rintro w' ⟨s0, s1, s2, s3⟩
                                go_simp
                                with_reducible rfl
                              rotate_left
                              · simp only [Act.put, List.setIfInBounds_toArray, List.set_cons_zero, List.set_cons_succ, i64_w, i32_w]
                                rfl
                              refine pure_ (i := 12) (N := some 42) (v := ?_) (a' := ?_) #[true, true, true, true, true, true, true, true, true, true, true, true, true, true, false] rfl rfl (any_of HT_.out (by kernel_rfl)) (fun _ _ _ h => h) (Or.inl ⟨by rfl, ?_⟩) ?_ ?_
                              rotate_left
                              · intro w'
                                go_simp
                                with_reducible rfl
                              rotate_left
                              · simp only [Act.put, List.setIfInBounds_toArray, List.set_cons_zero, List.set_cons_succ, i64_w, i32_w]
                                rfl
                              refine pure_ (i := 14) (N := some 14) (v := ?_) (a' := ?_) #[true, true, true, true, true, true, true, true, true, true, true, true, true, true, true] rfl rfl (any_of HT_.out (by kernel_rfl)) (fun _ _ _ h => h) (Or.inl ⟨by rfl, ?_⟩) ?_ ?_
                              rotate_left
                              · intro w'
                                go_simp
                                with_reducible rfl
                              rotate_left
                              · simp only [Act.put, List.setIfInBounds_toArray, List.set_cons_zero, List.set_cons_succ, i64_w, i32_w]
                                rfl
                              refine done_ (done_of HT_.out (by kernel_rfl)) ?_
                              have p220 : 0 ≤ ((rd (rd_L1 t211 0) 0) : Int) := of_decide_eq_true (by first | (with_reducible assumption) | assumption)
                              have q220 : (rd (rd_L1 t211 0) 0) < (l3.length : Int) := of_decide_eq_true (by first | (with_reducible assumption) | assumption)
                              obtain ⟨ad220, e220, hx220_0⟩ := Kd.at_int (Kd.C_kept_now HR3.out HK.out) (rd (rd_L1 t211 0) 0) p220 q220
                              cases e220
                              replace p220 := eq_true p220
                              replace q220 := eq_true q220
                              try go_wp2_with (first | ((with_reducible refine gate_builtin (b := .append) (xs := #[.tmp 49, .tmp 54]) rfl ?_); at_builtin; refine Kd.R_append k51 (w0 := w0) w0.heap.size rfl (.tmp 49) (.tmp 54) 28 51 (.agg #[(.int .i64 0), (.int .i64 0), (.bool false)]) 24 rfl Try.underlying28 info51 rfl (by decide) (by omega) u11 x11_1 (⟨rd (rd_L1 t211 0) 0, wrap64 ((rd x9_1 (rd (rd_L1 t211 0) 0)) + (rd (rd_L1 t211 0) 1)), false⟩ : S51) [.int .i64 (rd (rd_L1 t211 0) 0), .int .i64 (wrap64 ((rd x9_1 (rd (rd_L1 t211 0) 0)) + (rd (rd_L1 t211 0) 1))), .bool false] (fun k_ => (P0_ k_ ∨ w.heap.size ≤ k_)) (fun _ => False) rfl rfl ?aP (fun _ hk => hk.elim) ?aF ?aO ?aB ?aS ?aL ?_; (case aP => exact k51_mkM _ _ _ (⟨rd (rd_L1 t211 0) 0, wrap64 ((rd x9_1 (rd (rd_L1 t211 0) 0)) + (rd (rd_L1 t211 0) 1)), false⟩ : S51)); (case aB => exact (by repeat (first | (with_reducible first | exact HB.out | apply below_alloc | apply pw_below_drewN | apply below_drew1) | exact HB.out))); (case aF => exact (fun k_ hk => (.inr (Nat.le_trans (by first | exact HK.out.1 | exact (show Kept w _ (fun k_ => P0_ k_) from by repeat (first | (with_reducible first | exact HK.out | apply Kept.alloc | apply Kept.drewN | apply Kept.drew) | exact HK.out)).1) hk)))); (case aO => exact (by (with_reducible repeat (first | apply Kd.R_alloc | apply Kd.R_drewN | apply Kd.R_drew)); exact HO_11.out)); (case aS => exact (below_size (by repeat (first | (with_reducible first | exact HB.out | apply below_alloc | apply pw_below_drewN | apply below_drew1) | exact HB.out)))); (case aL => have := LMc20.out; omega); intro v222 w42 ho hb hg hat; rw [← Ny221.out] at ho; have n0_ := Aside0.mk (Kd.R_over' (by (with_reducible repeat (first | apply Kd.R_alloc | apply Kd.R_drewN | apply Kd.R_drew)); exact HO_0.out) (Kd.R_typed (by (with_reducible repeat (first | apply Kd.R_alloc | apply Kd.R_drewN | apply Kd.R_drew)); exact HO_11.out)) (by decide) hg); have n1_ := Aside0.mk (Kd.R_over' (by (with_reducible repeat (first | apply Kd.R_alloc | apply Kd.R_drewN | apply Kd.R_drew)); exact HO_9.out) (Kd.R_typed (by (with_reducible repeat (first | apply Kd.R_alloc | apply Kd.R_drewN | apply Kd.R_drew)); exact HO_11.out)) (by decide) hg); have n2_ := Aside0.mk (Kd.R_over' (by (with_reducible repeat (first | apply Kd.R_alloc | apply Kd.R_drewN | apply Kd.R_drew)); exact HO_10.out) (Kd.R_typed (by (with_reducible repeat (first | apply Kd.R_alloc | apply Kd.R_drewN | apply Kd.R_drew)); exact HO_11.out)) (by decide) hg); have n3_ := Aside0.mk (Kd.N_afterv (ok := (fun k_ => (P0_ k_ ∨ w.heap.size ≤ k_) ∧ some k_ ≠ (.slice Ao37 x0_1.length co37 : Value).ownBlock ∧ some k_ ≠ (.slice (some ad218) x9_1.length co41 : Value).ownBlock ∧ some k_ ≠ (.slice Ao36 x10_1.length co36 : Value).ownBlock)) (by (with_reducible repeat (first | apply Kd.N_alloc | apply Kd.N_drewN | apply Kd.N_drew)); exact Kd.N_mono HO213.out (fun _ hk => by first | exact ⟨⟨hk.1, ⟨hk.2.2.2.2, ⟨hk.2.1, hk.2.2.1⟩⟩⟩, hk.2.2.2.1⟩ | grind)) hg hat); have n4_ := Aside0.mk (Kd.V_afterv (ok := (fun k_ => (P0_ k_ ∨ w.heap.size ≤ k_) ∧ some k_ ≠ (.slice Ao37 x0_1.length co37 : Value).ownBlock ∧ some k_ ≠ (.slice (some ad218) x9_1.length co41 : Value).ownBlock ∧ some k_ ≠ (.slice Ao36 x10_1.length co36 : Value).ownBlock ∧ some k_ ≠ (.slice (some ad215) t211.length co39 : Value).ownBlock)) (by (with_reducible repeat (first | apply Kd.V_alloc | apply Kd.V_drewN | apply Kd.V_drew)); exact Kd.V_mono HL215_0.out (fun _ hk => by first | exact ⟨⟨hk.1.1, ⟨hk.1.2.2.2.2, ⟨hk.1.2.1, ⟨hk.1.2.2.1, hk.2⟩⟩⟩⟩, hk.1.2.2.2.1⟩ | grind)) hg hat); have n5_ := Aside0.mk (hb); have n6_ := Aside0.mk (Kept.of_grown (S := (fun k_ => P0_ k_)) hg (by repeat (first | (with_reducible first | exact HK.out | apply Kept.alloc | apply Kept.drewN | apply Kept.drew) | exact HK.out)) (fun k_ e_ => (HO_11.out.1 k_ e_))); have n7_ := Aside0.mk (ho); clear HO_0; clear HO_9; clear HO_10; clear HO213; clear HL215_0; clear HB; clear HK; clear HO_11; have HO_0 := n0_; have HO_9 := n1_; have HO_10 := n2_; have HO213 := n3_; have HL215_0 := n4_; have HB := n5_; have HK := n6_; have HO223 := n7_; clear n0_ n1_ n2_ n3_ n4_ n5_ n6_ n7_; clear ho hb hg hat))
                              have n0_ := Aside0.mk (Kd.R_drew HO_0.out)
                              have n1_ := Aside0.mk (Kd.R_drew HO_9.out)
                              have n2_ := Aside0.mk (Kd.R_drew HO_10.out)
                              have n3_ := Aside0.mk (Kd.N_drew HO213.out)
                              have n4_ := Aside0.mk (Kd.V_drew HL215_0.out)
                              have n5_ := Aside0.mk (Kd.R_drew HO223.out)
                              have n6_ := Aside0.mk (Kept.drew HK.out)
                              have n7_ := Aside0.mk (below_drew1 HB.out)
                              clear HO_0
                              clear HO_9
                              clear HO_10
                              clear HO213
                              clear HL215_0
                              clear HO223
                              clear HK
                              clear HB
                              have HO_0 := n0_
                              have HO_9 := n1_
                              have HO_10 := n2_
                              have HO213 := n3_
                              have HL215_0 := n4_
                              have HO223 := n5_
                              have HK := n6_
                              have HB := n7_
                              clear n0_ n1_ n2_ n3_ n4_ n5_ n6_ n7_
                              have p226 : 0 ≤ ((rd (rd_L1 t211 0) 0) : Int) := of_decide_eq_true (by first | (with_reducible assumption) | assumption)
                              have q226 : (rd (rd_L1 t211 0) 0) < (x10_1.length : Int) := of_decide_eq_true (by first | (with_reducible assumption) | assumption)
                              obtain ⟨ad226, e226, hx226_0⟩ := Kd.at_int (Kd.R_reads' HO_10.out).2.2 (rd (rd_L1 t211 0) 0) p226 q226
                              cases e226
                              replace p226 := eq_true p226
                              replace q226 := eq_true q226
                              have p227 : 0 ≤ (1 : Int) := (by omega)
                              have q227 : 1 < ((rd_L1 t211 0).length : Int) := of_decide_eq_true (by first | (with_reducible assumption) | assumption)
                              obtain ⟨ad227, e227, hx227_0⟩ := Kd.at_int ((Kd.V_reads' (by first | (with_reducible exact HL215_0.out) | ((with_reducible repeat (first | apply Kd.V_alloc | apply Kd.V_drewN | apply Kd.V_drew)); exact HL215_0.out))).2.2) 1 p227 q227
                              obtain rfl : ad216 = ad227 := (by injection e227)
                              (try simp only [show (1 : Int).toNat = 1 from rfl, Nat.reduceMul, Nat.reduceEqDiff, Go.Addr.add, ↓reduceIte] at hx227_0)
                              have qi227 : (1 < (rd_L1 t211 0).length) = True := eq_true (by omega)
                              (try rw [show ((1 : Int)).toNat = 1 from rfl] at hx227_0)
                              replace p227 := eq_true p227
                              replace q227 := eq_true q227
                              have p34 : 0 ≤ ((rd (rd_L1 t211 0) 0) : Int) := of_decide_eq_true (by first | (with_reducible assumption) | assumption)
                              have q34 : ((rd (rd_L1 t211 0) 0) : Int) < ((x10_1.length : Int) : Int) := of_decide_eq_true (by first | (with_reducible assumption) | assumption)
                              obtain ⟨go34, co34, eo34, gb34, gl34, cl34, HG34⟩ := Kd.R_form HO_10.out (by omega)
                              (first | cases eo34 | (injection eo34 with ea_ en_ ec_; (first | subst ea_ | (injection ea_ with ea_; subst ea_)); subst ec_; clear en_))
                              have GB34 := Aside0.mk gb34
                              have GG34 := Aside0.mk HG34
                              clear gb34 gl34 HG34
                              have HMgo34 := Aside0.mk (show (P0_ go34 ∨ w.heap.size ≤ go34) from (HO_10.out.1 _ rfl).1)
                              (first | simp only [add_plain] at hx226_0 | skip)
                              obtain ⟨hx34_0, hf34_0⟩ := Kd.R_celln 0 HO_10.out ((rd (rd_L1 t211 0) 0) : Int) p34 q34
                              replace p34 := eq_true p34
                              replace q34 := eq_true q34
                              have HP44 := Kd.R_putn HO_10.out ((rd (rd_L1 t211 0) 0) : Int) (wrap64 ((rd x10_1 (rd (rd_L1 t211 0) 0)) - (rd (rd_L1 t211 0) 1)))
                              rw [← Ny228.out] at HP44
                              have HQ44 := Aside0.mk HP44
                              clear HP44
                              refine start_ (n := 10) (S := fun w' => w'.cell? ⟨go34, ((rd (rd_L1 t211 0) 0)).toNat, none⟩ = some (.int .i64 (rd x10_1 (rd (rd_L1 t211 0) 0))) ∧ w'.cell? ⟨ad216.block, ad216.off + 1, none⟩ = some (.int .i64 (rd (rd_L1 t211 0) 1))) (ds := [9]) #[false, false, false, false, false, false, false, false, false, false] (by kernel_rfl) rfl rfl ⟨hx226_0, hx227_0⟩ (fun hHeld => ?_); refine with_tabW spec_hoPlay.tab12 spec_hoPlay.bits12 (fun HT_ HW_ => ?_)
                              generalize w42.drew = w43 at HO_0 HO_9 HO_10 HO213 HL215_0 HO223 HK HB GG34 HQ44 hf34_0 hx226_0 hx227_0 hx34_0 hHeld ⊢
                              refine pure_ (i := 0) (N := some 66) (v := ?_) (a' := ?_) #[true, false, false, false, false, false, false, false, false, false] rfl rfl (any_of HT_.out (by kernel_rfl)) (fun _ _ _ h => h) (Or.inl ⟨by rfl, ?_⟩) ?_ ?_
                              rotate_left
                              · intro w'
                                go_simp
                                with_reducible rfl
                              rotate_left
                              · simp only [Act.put, List.setIfInBounds_toArray, List.set_cons_zero, List.set_cons_succ, i64_w, i32_w]
                                rfl
                              refine pure_ (i := 1) (N := some 67) (v := ?_) (a' := ?_) #[true, true, false, false, false, false, false, false, false, false] rfl rfl (any_of HT_.out (by kernel_rfl)) (fun _ _ _ h => h) (Or.inl ⟨by rfl, ?_⟩) ?_ ?_
                              rotate_left
                              · intro w'
                                go_simp
                                with_reducible rfl
                              rotate_left
                              · simp only [Act.put, List.setIfInBounds_toArray, List.set_cons_zero, List.set_cons_succ, i64_w, i32_w]
                                rfl
                              refine pure_ (i := 2) (N := some 68) (v := ?_) (a' := ?_) #[true, true, true, false, false, false, false, false, false, false] rfl rfl (any_of HT_.out (by kernel_rfl)) (fun _ _ _ h => h) (Or.inl ⟨by rfl, ?_⟩) ?_ ?_
                              rotate_left
                              · intro w'
                                go_simp
                                with_reducible rfl
                              rotate_left
                              · simp only [Act.put, List.setIfInBounds_toArray, List.set_cons_zero, List.set_cons_succ, i64_w, i32_w]
                                rfl
                              refine pure_ (i := 4) (N := some 70) (v := ?_) (a' := ?_) #[true, true, true, false, true, false, false, false, false, false] rfl rfl (any_of HT_.out (by kernel_rfl)) (fun _ _ _ h => h) (Or.inl ⟨by rfl, ?_⟩) ?_ ?_
                              rotate_left
                              · intro w'
                                go_simp
                                with_reducible rfl
                              rotate_left
                              · simp only [Act.put, List.setIfInBounds_toArray, List.set_cons_zero, List.set_cons_succ, i64_w, i32_w]
                                rfl
                              refine pure_ (i := 5) (N := some 71) (v := ?_) (a' := ?_) #[true, true, true, false, true, true, false, false, false, false] rfl rfl (any_of HT_.out (by kernel_rfl)) (fun _ _ _ h => h) (Or.inl ⟨by rfl, ?_⟩) ?_ ?_
                              rotate_left
                              · intro w'
                                go_simp
                                with_reducible rfl
                              rotate_left
                              · simp only [Act.put, List.setIfInBounds_toArray, List.set_cons_zero, List.set_cons_succ, i64_w, i32_w]
                                rfl
                              refine take_ (i := 3) (N := some 69) (v := ?_) (a' := ?_) #[true, true, true, true, true, true, false, false, false, false] rfl rfl (take_ofW HT_.out HW_.out (by kernel_rfl)) (fun _ _ _ h => h) (Or.inl ⟨by rfl, ?_⟩) hHeld ?_ ?_
                              rotate_left
                              · rintro w' ⟨s0, s1⟩
                                go_simp
                                with_reducible rfl
                              rotate_left
                              · simp only [Act.put, List.setIfInBounds_toArray, List.set_cons_zero, List.set_cons_succ, i64_w, i32_w]
                                rfl
                              refine take_ (i := 6) (N := some 72) (v := ?_) (a' := ?_) #[true, true, true, true, true, true, true, false, false, false] rfl rfl (take_ofW HT_.out HW_.out (by kernel_rfl)) (fun _ _ _ h => h) (Or.inl ⟨by rfl, ?_⟩) hHeld ?_ ?_
                              rotate_left
                              · rintro w' ⟨s0, s1⟩
                                go_simp
                                with_reducible rfl
                              rotate_left
                              · simp only [Act.put, List.setIfInBounds_toArray, List.set_cons_zero, List.set_cons_succ, i64_w, i32_w]
                                rfl
                              refine pure_ (i := 7) (N := some 73) (v := ?_) (a' := ?_) #[true, true, true, true, true, true, true, true, false, false] rfl rfl (any_of HT_.out (by kernel_rfl)) (fun _ _ _ h => h) (Or.inl ⟨by rfl, ?_⟩) ?_ ?_
                              rotate_left
                              · intro w'
                                go_simp
                                with_reducible rfl
                              rotate_left
                              · simp only [Act.put, List.setIfInBounds_toArray, List.set_cons_zero, List.set_cons_succ, i64_w, i32_w]
                                rfl
                              refine pure_ (i := 8) (N := some 74) (v := ?_) (a' := ?_) #[true, true, true, true, true, true, true, true, true, false] rfl rfl (any_of HT_.out (by kernel_rfl)) (fun _ _ _ h => h) (Or.inl ⟨by rfl, ?_⟩) ?_ ?_
                              rotate_left
                              · intro w'
                                go_simp
                                with_reducible rfl
                              rotate_left
                              · simp only [Act.put, List.setIfInBounds_toArray, List.set_cons_zero, List.set_cons_succ, i64_w, i32_w]
                                rfl
                              refine last_ (i := 9) (N := none) #[true, true, true, true, true, true, true, true, true, true] rfl rfl (one_of HT_.out (by kernel_rfl)) (by decide) (fun K hK => ?_)
                              refine skip_ (w1 := ?_) (by rfl) rfl ?_ ?_
                              rotate_left
                              · go_simp
                                rfl
                              refine hK.out _ _ ?_
                              clear hK K
                              refine done_ (done_of HT_.out (by kernel_rfl)) ?_
                              have n0_ : Aside0 (Kd.R (Kd.int .i64) 3 (w43.setCell ⟨go34, ((rd (rd_L1 t211 0) 0) : Int).toNat, none⟩ (.int .i64 (wrap64 ((rd x10_1 (rd (rd_L1 t211 0) 0)) - (rd (rd_L1 t211 0) 1))))) w0.heap.size (fun k_ => (P0_ k_ ∨ w.heap.size ≤ k_) ∧ some k_ ≠ (.slice (some ad218) x9_1.length co41 : Value).ownBlock ∧ some k_ ≠ (.slice (some ⟨go34, 0, none⟩) x10_1.length co36 : Value).ownBlock) (.slice Ao37 x0_1.length co37) t214) := ⟨by (with_reducible repeat (first | apply Kd.R_alloc | apply Kd.R_drewN | apply Kd.R_drew)); exact Kd.R_mono (Kd.R_far (p := ⟨go34, ((rd (rd_L1 t211 0) 0) : Int).toNat, none⟩) (Kd.R_mono HO_0.out (fun k_ hk => (⟨hk, fun e_ => by first | exact hk.2.2 (by rw [e_]; rfl) | exact hk.2.1 (by rw [e_]; rfl) | exact hk.2.2.1 (by rw [e_]; rfl) | exact hk.2.2.2 (by rw [e_]; rfl) | exact hk.2.2.2.1 (by rw [e_]; rfl) | exact hk.2.2.2.2 (by rw [e_]; rfl) | exact hk.1.2.1 (by rw [e_]; rfl) | exact hk.1.2.2 (by rw [e_]; rfl) | exact hk.1.2 (by rw [e_]; rfl) | exact hk.2 (by rw [e_]; rfl)⟩ : _ ∧ k_ ≠ go34))) (fun _ hk => hk.2) (.int .i64 (wrap64 ((rd x10_1 (rd (rd_L1 t211 0) 0)) - (rd (rd_L1 t211 0) 1))))) (fun _ hk => by first | exact ⟨hk.1.1, ⟨hk.1.2.1, hk.1.2.2⟩⟩ | grind)⟩
                              have n1_ : Aside0 (Kd.R (Kd.int .i64) 3 (w43.setCell ⟨go34, ((rd (rd_L1 t211 0) 0) : Int).toNat, none⟩ (.int .i64 (wrap64 ((rd x10_1 (rd (rd_L1 t211 0) 0)) - (rd (rd_L1 t211 0) 1))))) w0.heap.size (fun k_ => (P0_ k_ ∨ w.heap.size ≤ k_) ∧ some k_ ≠ (.slice Ao37 x0_1.length co37 : Value).ownBlock ∧ some k_ ≠ (.slice (some ⟨go34, 0, none⟩) x10_1.length co36 : Value).ownBlock) (.slice (some ad218) x9_1.length co41) x9_1) := ⟨by (with_reducible repeat (first | apply Kd.R_alloc | apply Kd.R_drewN | apply Kd.R_drew)); exact Kd.R_mono (Kd.R_far (p := ⟨go34, ((rd (rd_L1 t211 0) 0) : Int).toNat, none⟩) (Kd.R_mono HO_9.out (fun k_ hk => (⟨hk, fun e_ => by first | exact hk.2.2 (by rw [e_]; rfl) | exact hk.2.1 (by rw [e_]; rfl) | exact hk.2.2.1 (by rw [e_]; rfl) | exact hk.2.2.2 (by rw [e_]; rfl) | exact hk.2.2.2.1 (by rw [e_]; rfl) | exact hk.2.2.2.2 (by rw [e_]; rfl) | exact hk.1.2.1 (by rw [e_]; rfl) | exact hk.1.2.2 (by rw [e_]; rfl) | exact hk.1.2 (by rw [e_]; rfl) | exact hk.2 (by rw [e_]; rfl)⟩ : _ ∧ k_ ≠ go34))) (fun _ hk => hk.2) (.int .i64 (wrap64 ((rd x10_1 (rd (rd_L1 t211 0) 0)) - (rd (rd_L1 t211 0) 1))))) (fun _ hk => by first | exact ⟨hk.1.1, ⟨hk.1.2.1, hk.1.2.2⟩⟩ | grind)⟩
                              have n2_ : Aside0 (Kd.R (Kd.int .i64) 3 (w43.setCell ⟨go34, ((rd (rd_L1 t211 0) 0) : Int).toNat, none⟩ (.int .i64 (wrap64 ((rd x10_1 (rd (rd_L1 t211 0) 0)) - (rd (rd_L1 t211 0) 1))))) w0.heap.size (fun k_ => (P0_ k_ ∨ w.heap.size ≤ k_) ∧ some k_ ≠ (.slice Ao37 x0_1.length co37 : Value).ownBlock ∧ some k_ ≠ (.slice (some ad218) x9_1.length co41 : Value).ownBlock) (.slice (some ⟨go34, 0, none⟩) x10_1.length co36) y228) := ⟨by (with_reducible repeat (first | apply Kd.R_alloc | apply Kd.R_drewN | apply Kd.R_drew)); exact HQ44.out⟩
                              have n3_ : Aside0 (Kd.N (Kd.slice 3 (Kd.int .i64)) 22 (w43.setCell ⟨go34, ((rd (rd_L1 t211 0) 0) : Int).toNat, none⟩ (.int .i64 (wrap64 ((rd x10_1 (rd (rd_L1 t211 0) 0)) - (rd (rd_L1 t211 0) 1))))) w.heap.size (fun k_ => (P0_ k_ ∨ w.heap.size ≤ k_) ∧ some k_ ≠ (.slice Ao37 x0_1.length co37 : Value).ownBlock ∧ some k_ ≠ (.slice (some ad218) x9_1.length co41 : Value).ownBlock ∧ some k_ ≠ (.slice (some ⟨go34, 0, none⟩) x10_1.length co36 : Value).ownBlock ∧ some k_ ≠ (v222 : Value).ownBlock) (.slice (some ad215) t211.length co39) t211) := ⟨by (with_reducible repeat (first | apply Kd.N_alloc | apply Kd.N_drewN | apply Kd.N_drew)); exact Kd.N_mono (Kd.N_far (p := ⟨go34, ((rd (rd_L1 t211 0) 0) : Int).toNat, none⟩) (Kd.N_mono HO213.out (fun k_ hk => (⟨hk, fun e_ => by first | exact hk.1.2.2.2 (by rw [e_]; rfl) | exact hk.2.1 (by rw [e_]; rfl) | exact hk.2.2 (by rw [e_]; rfl) | exact hk.2.2.1 (by rw [e_]; rfl) | exact hk.2.2.2 (by rw [e_]; rfl) | exact hk.2.2.2.1 (by rw [e_]; rfl) | exact hk.2.2.2.2 (by rw [e_]; rfl) | exact hk.1.2.1 (by rw [e_]; rfl) | exact hk.1.2.2 (by rw [e_]; rfl) | exact hk.1.2 (by rw [e_]; rfl) | exact hk.2 (by rw [e_]; rfl)⟩ : _ ∧ k_ ≠ go34))) (fun _ hk => hk.2) (.int .i64 (wrap64 ((rd x10_1 (rd (rd_L1 t211 0) 0)) - (rd (rd_L1 t211 0) 1))))) (fun _ hk => by first | exact ⟨hk.1.1.1, ⟨hk.1.1.2.1, ⟨hk.1.1.2.2.1, ⟨hk.1.1.2.2.2, hk.1.2⟩⟩⟩⟩ | grind)⟩
                              have n4_ : Aside0 (Kd.V (Kd.int .i64) 3 (w43.setCell ⟨go34, ((rd (rd_L1 t211 0) 0) : Int).toNat, none⟩ (.int .i64 (wrap64 ((rd x10_1 (rd (rd_L1 t211 0) 0)) - (rd (rd_L1 t211 0) 1))))) w0.heap.size (fun k_ => (P0_ k_ ∨ w.heap.size ≤ k_) ∧ some k_ ≠ (.slice Ao37 x0_1.length co37 : Value).ownBlock ∧ some k_ ≠ (.slice (some ad218) x9_1.length co41 : Value).ownBlock ∧ some k_ ≠ (.slice (some ⟨go34, 0, none⟩) x10_1.length co36 : Value).ownBlock ∧ some k_ ≠ (.slice (some ad215) t211.length co39 : Value).ownBlock ∧ some k_ ≠ (v222 : Value).ownBlock) (.slice (some ad216) (rd_L1 t211 0).length c215_0) (rd_L1 t211 0)) := ⟨by (with_reducible repeat (first | apply Kd.V_alloc | apply Kd.V_drewN | apply Kd.V_drew)); exact Kd.V_mono (Kd.V_far (p := ⟨go34, ((rd (rd_L1 t211 0) 0) : Int).toNat, none⟩) (Kd.V_mono HL215_0.out (fun k_ hk => (⟨hk, fun e_ => by first | exact hk.1.2.2.2.1 (by rw [e_]; rfl) | exact hk.2.1 (by rw [e_]; rfl) | exact hk.2.2 (by rw [e_]; rfl) | exact hk.2.2.1 (by rw [e_]; rfl) | exact hk.2.2.2 (by rw [e_]; rfl) | exact hk.2.2.2.1 (by rw [e_]; rfl) | exact hk.2.2.2.2 (by rw [e_]; rfl) | exact hk.1.2.1 (by rw [e_]; rfl) | exact hk.1.2.2 (by rw [e_]; rfl) | exact hk.1.2 (by rw [e_]; rfl) | exact hk.2 (by rw [e_]; rfl)⟩ : _ ∧ k_ ≠ go34))) (fun _ hk => hk.2) (.int .i64 (wrap64 ((rd x10_1 (rd (rd_L1 t211 0) 0)) - (rd (rd_L1 t211 0) 1))))) (fun _ hk => by first | exact ⟨hk.1.1.1, ⟨hk.1.1.2.1, ⟨hk.1.1.2.2.1, ⟨hk.1.1.2.2.2.1, ⟨hk.1.1.2.2.2.2, hk.1.2⟩⟩⟩⟩⟩ | grind)⟩
                              have n5_ : Aside0 (Kd.R k51 51 (w43.setCell ⟨go34, ((rd (rd_L1 t211 0) 0) : Int).toNat, none⟩ (.int .i64 (wrap64 ((rd x10_1 (rd (rd_L1 t211 0) 0)) - (rd (rd_L1 t211 0) 1))))) w0.heap.size (fun k_ => (P0_ k_ ∨ w.heap.size ≤ k_)) v222 y221) := ⟨by (with_reducible repeat (first | apply Kd.R_alloc | apply Kd.R_drewN | apply Kd.R_drew)); exact Kd.R_mono (Kd.R_far (p := ⟨go34, ((rd (rd_L1 t211 0) 0) : Int).toNat, none⟩) (Kd.R_types HO223.out GG34.out (by decide)) (fun _ hk => hk.2) (.int .i64 (wrap64 ((rd x10_1 (rd (rd_L1 t211 0) 0)) - (rd (rd_L1 t211 0) 1))))) (fun _ hk => hk.1)⟩
                              have n6_ : Aside0 (Kept w (w43.setCell ⟨go34, ((rd (rd_L1 t211 0) 0) : Int).toNat, none⟩ (.int .i64 (wrap64 ((rd x10_1 (rd (rd_L1 t211 0) 0)) - (rd (rd_L1 t211 0) 1))))) (fun k_ => P0_ k_)) := ⟨by repeat (first | (with_reducible first | exact HK.out | apply Kept.alloc | apply Kept.drewN | apply Kept.drew | refine Kept.setCell ?_ HMgo34.out _) | exact HK.out)⟩
                              have n7_ : Aside0 (Below w0.heap.size w0 (w43.setCell ⟨go34, ((rd (rd_L1 t211 0) 0) : Int).toNat, none⟩ (.int .i64 (wrap64 ((rd x10_1 (rd (rd_L1 t211 0) 0)) - (rd (rd_L1 t211 0) 1)))))) := ⟨by repeat (first | (with_reducible first | exact HB.out | apply below_alloc | apply pw_below_drewN | apply below_drew1 | refine below_set ?_ GB34.out) | exact HB.out)⟩
                              (try clear HO_0)
                              (try clear HO_9)
                              (try clear HO_10)
                              (try clear HO213)
                              (try clear HL215_0)
                              (try clear HO223)
                              (try clear HK)
                              (try clear HB)
                              generalize (w43.setCell ⟨go34, ((rd (rd_L1 t211 0) 0) : Int).toNat, none⟩ (.int .i64 (wrap64 ((rd x10_1 (rd (rd_L1 t211 0) 0)) - (rd (rd_L1 t211 0) 1))))) = w45 at n0_ n1_ n2_ n3_ n4_ n5_ n6_ n7_ ⊢
                              have HO_0 := n0_
                              have HO_9 := n1_
                              have HO_10 := n2_
                              have HO213 := n3_
                              have HL215_0 := n4_
                              have HO223 := n5_
                              have HK := n6_
                              have HB := n7_
                              clear n0_ n1_ n2_ n3_ n4_ n5_ n6_ n7_
                              have p35 : 0 ≤ ((rd (rd_L1 t211 0) 0) : Int) := of_decide_eq_true (by first | (with_reducible assumption) | assumption)
                              have q35 : ((rd (rd_L1 t211 0) 0) : Int) < ((x9_1.length : Int) : Int) := of_decide_eq_true (by first | (with_reducible assumption) | assumption)
                              obtain ⟨go35, co35, eo35, gb35, gl35, cl35, HG35⟩ := Kd.R_form HO_9.out (by omega)
                              (first | cases eo35 | (injection eo35 with ea_ en_ ec_; (first | subst ea_ | (injection ea_ with ea_; subst ea_)); subst ec_; clear en_))
                              have GB35 := Aside0.mk gb35
                              have GG35 := Aside0.mk HG35
                              clear gb35 gl35 HG35
                              have HMgo35 := Aside0.mk (show (P0_ go35 ∨ w.heap.size ≤ go35) from (HO_9.out.1 _ rfl).1)
                              (first | simp only [add_plain] at hx218_0 | skip)
                              obtain ⟨hx35_0, hf35_0⟩ := Kd.R_celln 0 HO_9.out ((rd (rd_L1 t211 0) 0) : Int) p35 q35
                              replace p35 := eq_true p35
                              replace q35 := eq_true q35
                              obtain ⟨hy46_, hz46_⟩ := Kd.R_celln 0 HO_9.out ((rd (rd_L1 t211 0) 0) : Int) (of_decide_eq_true (by first | (with_reducible assumption) | assumption)) (of_decide_eq_true (by first | (with_reducible assumption) | assumption))
                              have HP46 := Kd.R_putg HO_9.out ((rd (rd_L1 t211 0) 0) : Int) (wrap64 ((rd x9_1 (rd (rd_L1 t211 0) 0)) + (rd (rd_L1 t211 0) 1)))
                              try go_wp2_with (first | ((with_reducible refine gate_store (t := 3) (p := 78) rfl ?_); refine store_event (t := 3) (p := 78) (v := ?vo_w47) (w1 := (w45.setCell ⟨go35, ((rd (rd_L1 t211 0) 0) : Int).toNat, none⟩ (.int .i64 (wrap64 ((rd x9_1 (rd (rd_L1 t211 0) 0)) + (rd (rd_L1 t211 0) 1)))))) ?hg ?ho ?hn ?hr ?_; (case ho => rfl); (case hg => rfl); (case hn => rfl); (case hr => first | (go_simp; done) | (go_simp; rfl)); intro w47 hw; have hg : w45.grownBy w47 (some go35) := (by rw [hw]; exact HP46.2); have hp_ : Kd.R (Kd.int .i64) 3 w47 w0.heap.size (fun k_ => (P0_ k_ ∨ w.heap.size ≤ k_) ∧ some k_ ≠ (.slice Ao37 x0_1.length co37 : Value).ownBlock ∧ some k_ ≠ (.slice (some ⟨go34, 0, none⟩) x10_1.length co36 : Value).ownBlock) (.slice (some ⟨go35, 0, none⟩) x9_1.length co41) y229 := (by rw [hw, Ny229.out]; exact HP46.1); clear HP46; have n0_ := Aside0.mk (Kd.R_after (v := (.slice (some ⟨go35, 0, none⟩) x9_1.length co41)) (v1 := (.slice (some ⟨go35, 0, none⟩) x9_1.length co41)) (ok := (fun k_ => (P0_ k_ ∨ w.heap.size ≤ k_) ∧ some k_ ≠ (.slice (some ⟨go34, 0, none⟩) x10_1.length co36 : Value).ownBlock)) (by (with_reducible repeat (first | apply Kd.R_alloc | apply Kd.R_drewN | apply Kd.R_drew)); exact Kd.R_mono HO_0.out (fun _ hk => by first | exact ⟨⟨hk.1, hk.2.2⟩, hk.2.1⟩ | grind)) hg (.inl rfl)); have n1_ := Aside0.mk (hp_); have n2_ := Aside0.mk (Kd.R_after (v := (.slice (some ⟨go35, 0, none⟩) x9_1.length co41)) (v1 := (.slice (some ⟨go35, 0, none⟩) x9_1.length co41)) (ok := (fun k_ => (P0_ k_ ∨ w.heap.size ≤ k_) ∧ some k_ ≠ (.slice Ao37 x0_1.length co37 : Value).ownBlock)) (by (with_reducible repeat (first | apply Kd.R_alloc | apply Kd.R_drewN | apply Kd.R_drew)); exact Kd.R_mono HO_10.out (fun _ hk => by first | exact ⟨⟨hk.1, hk.2.1⟩, hk.2.2⟩ | grind)) hg (.inl rfl)); have n3_ := Aside0.mk (Kd.N_afterv (v := (.slice (some ⟨go35, 0, none⟩) x9_1.length co41)) (v1 := (.slice (some ⟨go35, 0, none⟩) x9_1.length co41)) (ok := (fun k_ => (P0_ k_ ∨ w.heap.size ≤ k_) ∧ some k_ ≠ (.slice Ao37 x0_1.length co37 : Value).ownBlock ∧ some k_ ≠ (.slice (some ⟨go34, 0, none⟩) x10_1.length co36 : Value).ownBlock ∧ some k_ ≠ (v222 : Value).ownBlock)) (by (with_reducible repeat (first | apply Kd.N_alloc | apply Kd.N_drewN | apply Kd.N_drew)); exact Kd.N_mono HO213.out (fun _ hk => by first | exact ⟨⟨hk.1, ⟨hk.2.1, ⟨hk.2.2.2.1, hk.2.2.2.2⟩⟩⟩, hk.2.2.1⟩ | grind)) hg (.inl rfl)); have n4_ := Aside0.mk (Kd.V_afterv (v := (.slice (some ⟨go35, 0, none⟩) x9_1.length co41)) (v1 := (.slice (some ⟨go35, 0, none⟩) x9_1.length co41)) (ok := (fun k_ => (P0_ k_ ∨ w.heap.size ≤ k_) ∧ some k_ ≠ (.slice Ao37 x0_1.length co37 : Value).ownBlock ∧ some k_ ≠ (.slice (some ⟨go34, 0, none⟩) x10_1.length co36 : Value).ownBlock ∧ some k_ ≠ (.slice (some ad215) t211.length co39 : Value).ownBlock ∧ some k_ ≠ (v222 : Value).ownBlock)) (by (with_reducible repeat (first | apply Kd.V_alloc | apply Kd.V_drewN | apply Kd.V_drew)); exact Kd.V_mono HL215_0.out (fun _ hk => by first | exact ⟨⟨hk.1, ⟨hk.2.1, ⟨hk.2.2.2.1, ⟨hk.2.2.2.2.1, hk.2.2.2.2.2⟩⟩⟩⟩, hk.2.2.1⟩ | grind)) hg (.inl rfl)); have n5_ := Aside0.mk (Kd.R_over' (v := (.slice (some ⟨go35, 0, none⟩) x9_1.length co41)) (by (with_reducible repeat (first | apply Kd.R_alloc | apply Kd.R_drewN | apply Kd.R_drew)); exact HO223.out) (Kd.R_typed HO_9.out) (by decide) hg); have n6_ := Aside0.mk ((by rw [hw]; exact below_set (HB.out) GB35.out : Below w0.heap.size w0 w47)); have n7_ := Aside0.mk (Kept.of_grown (S := (fun k_ => P0_ k_)) hg (by repeat (first | (with_reducible first | exact HK.out | apply Kept.alloc | apply Kept.drewN | apply Kept.drew) | exact HK.out)) (fun k_ e_ => (HO_9.out.1 k_ e_).1)); clear HO_0; clear HO_9; clear HO_10; clear HO213; clear HL215_0; clear HO223; clear HB; clear HK; have HO_0 := n0_; have HO_9 := n1_; have HO_10 := n2_; have HO213 := n3_; have HL215_0 := n4_; have HO223 := n5_; have HB := n6_; have HK := n7_; clear n0_ n1_ n2_ n3_ n4_ n5_ n6_ n7_; clear hg hw hp_))
                              go_roundg k1
                              case measure => have := HK1.out; omega
                              case rel => exact ⟨(t214), (x1_1), (y229), (y228), (y221), (by first | rfl | (simp; done) | (simp [*]; done)), H', ⟨by have := HK1.out; omega⟩, ⟨by (with_reducible repeat (first | apply Kd.R_alloc | apply Kd.R_drewN | apply Kd.R_drew)); exact Kd.R_mono HO_0.out (fun _ hk => by first | exact ⟨hk.1.1, ⟨hk.2, hk.1.2⟩⟩ | grind)⟩, ⟨by (with_reducible repeat (first | apply Kd.R_alloc | apply Kd.R_drewN | apply Kd.R_drew)); exact HO_9.out⟩, ⟨by (with_reducible repeat (first | apply Kd.R_alloc | apply Kd.R_drewN | apply Kd.R_drew)); exact Kd.R_mono HO_10.out (fun _ hk => by first | exact ⟨hk.1.1, ⟨hk.1.2, hk.2⟩⟩ | grind)⟩, ⟨by (with_reducible repeat (first | apply Kd.R_alloc | apply Kd.R_drewN | apply Kd.R_drew)); exact HO223.out⟩, ⟨by repeat (first | (with_reducible first | exact HK.out | apply Kept.alloc | apply Kept.drewN | apply Kept.drew) | exact HK.out)⟩, ⟨by repeat (first | (with_reducible first | exact HB.out | apply below_alloc | apply pw_below_drewN | apply below_drew1) | exact HB.out)⟩⟩
                            · rw [if_neg c33] at H
                              exact absurd H (by simp)
                        · rw [if_neg c20] at H
                          exact absurd H (by simp)
                      · rw [if_neg c19] at H
                        exact absurd H (by simp)
                    · rw [if_neg c18] at H
                      exact absurd H (by simp)
                  · rw [if_neg c17] at H
                    exact absurd H (by simp)
                · rw [if_neg c16] at H
                  exact absurd H (by simp)
              · rw [if_neg c15] at H
                exact absurd H (by simp)
            · rw [if_neg c14] at H
              exact absurd H (by simp)
          · rw [if_neg c12] at H
            have c12b0 : decide (0 < t210) = false := decide_eq_false c12
            clear c12
            simp only [Option.some.injEq, Prod.mk.injEq] at H
            obtain ⟨rfl, rfl⟩ := H
            obtain ⟨Ao48, co48, eo48⟩ := Kd.R_slice HO_10.out
            subst eo48
            go_wp2_with (first | ((with_reducible refine gate_callee (f := 58) rfl ?_); refine goesL_ (some 22) rfl rfl Try.func58 (by kernel_rfl) rfl #[.slice Ao48 x10_1.length co48] rfl (by (try simp only [List.map_toArray, List.map_cons, List.map_nil]); first | done | rfl | (simp only [List.length_drop, List.length_take]; rfl)) ?_; (with_reducible refine (spec_hoNeeded.calls k1 _ _ x10_1 t210 _ ?side1 ?side2 A11.out).mono ?_); (case side1 => repeat (first | exact (Kd.R_reads' HO_10.out).2.2 | (with_reducible refine Kd.C_alloc ?_ _) | (with_reducible refine Kd.C_drewN ?_ _) | (with_reducible refine Kd.C_drew ?_))); (case side2 => exact (Kd.R_reads' HO_10.out).2.1); rintro e w' ⟨rfl, ⟨nd, rfl⟩⟩; refine ⟨_, rfl, ?_⟩))
            go_ret
            exact ⟨_, by first | rfl | (simp [errW_none, errW_some] <;> rfl) | (simp [*, errW_none, errW_some] <;> rfl), by (with_reducible repeat (first | apply Kd.R_alloc | apply Kd.R_drewN | apply Kd.R_drew)); exact HO_11.out, by (with_reducible repeat (first | apply Kd.R_alloc | apply Kd.R_drewN | apply Kd.R_drew)); exact Kd.R_mono HO_0.out (fun _ hk => hk.1), by repeat (first | (with_reducible first | exact HB.out | apply below_alloc | apply pw_below_drewN | apply below_drew1) | exact HB.out), by repeat (first | (with_reducible first | exact HK.out | apply Kept.alloc | apply Kept.drewN | apply Kept.drew) | exact HK.out)⟩
    · rw [if_neg c6] at H
      exact absurd H (by simp)
  · rw [if_neg c5] at H
    exact absurd H (by simp)

end Go.Proofs.Ytfemdpdnnifehaa.PH
