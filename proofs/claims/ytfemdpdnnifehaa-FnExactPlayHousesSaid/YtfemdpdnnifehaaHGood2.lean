/- The good first drops of impl (houser.good). -/
import Derived.Test.YtfemdpdnnifehaaPHx0
import Derived.Test.YtfemdpdnnifehaaHLeast
import Derived.Test.YtfemdpdnnifehaaHPur
-- NEEDS HLeast
-- NEEDS HPur
set_option linter.unusedVariables false
set_option linter.unusedSimpArgs false
namespace Go.Proofs.Ytfemdpdnnifehaa.PH
open Go.RowKit Go.Proofs.YtfemdpdnnifehaaW.PrintWords Go.Proofs.YtfemdpdnnifehaaW.PrintLast

/-- What good answers with. -/
structure GoodAt (w w' : World) (B : Nat) (a b c e : Int) (v : Value) (xs : List (List Int)) : Prop where
  rows : Kd.N (Kd.slice 3 (Kd.int .i64)) 22 w' w.heap.size (fun k => w.heap.size + 1 ≤ k) v xs
  map : MapOk LI w' B
  grown : w.grownBy w' (some B)

theorem grown_then_below {w W1 W2 : World} {r : Option Nat} (hg : w.grownBy W1 r) (hb : Below W1.heap.size W1 W2) : w.grownBy W2 r :=
  ⟨hb.os.trans hg.os, hb.tape.trans hg.tape, hb.output.trans hg.output, Nat.le_trans hg.size hb.size, fun k hk hn => (hb.block k (Nat.lt_of_lt_of_le hk hg.size)).trans (hg.block k hk hn)⟩
theorem grown_then_base {w W1 W2 : World} {r : Option Nat} (hg : w.grownBy W1 r) (hb : Below w.heap.size W1 W2) : w.grownBy W2 r :=
  ⟨hb.os.trans hg.os, hb.tape.trans hg.tape, hb.output.trans hg.output, Nat.le_trans hg.size hb.size, fun k hk hn => (hb.block k hk).trans (hg.block k hk hn)⟩

theorem idx3 (a b c h : Int) (h0 : 0 ≤ h) (h1 : h < 3) : ∀ W, (Instr.index 60 (.agg #[.int .i64 a, .int .i64 b, .int .i64 c]) (.int .i64 h)).run Try.prog W = .ok (.int .i64 (cnt a b c h)) W := by
  have : h = 0 ∨ h = 1 ∨ h = 2 := by omega
  intro W
  rcases this with rfl | rfl | rfl <;> kernel_rfl

theorem LeastC.all (B : Nat) (a b c e : Int) (ha1 : 0 ≤ a) (ha2 : a ≤ 8) (hb1 : 0 ≤ b) (hb2 : b ≤ 8) (hc1 : 0 ≤ c) (hc2 : c ≤ 8) (he1 : 0 ≤ e) (he2 : e ≤ 6) : LeastC LI B a b c e :=
  least_all B ((a + b + c).toNat + 1) a b c e ha1 ha2 hb1 hb2 hc1 hc2 he1 he2 (by omega)

set_option maxHeartbeats 8000000 in
set_option maxRecDepth 100000 in
theorem good_all (B : Nat) (a b c e : Int) (w : World) (ha1 : 0 ≤ a) (ha2 : a ≤ 8) (hb1 : 0 ≤ b) (hb2 : b ≤ 8) (hc1 : 0 ≤ c) (hc2 : c ≤ 8) (he1 : 1 ≤ e) (he2 : e ≤ 6) (hm : MapOk LI w B) :
    Calls Try.prog 60 #[.map (some B), Vl a b c e] w fun r w' => ∃ v, r = .returned v ∧ GoodAt w w' B a b c e v (goods 1125899906842624 a b c e 3) := by
  have HM := Aside0.mk hm
  have hlt := hm.lt
  clear hm
  have hLC := Aside0.mk (LeastC.all B a b c e ha1 ha2 hb1 hb2 hc1 hc2 (by omega) he2)
  have hWC := Aside0.mk (fun h f hf hh => with_all B a b c e h f ha1 ha2 hb1 hb2 hc1 hc2 he1 he2 hf hh)
  have hCR := Aside0.mk (fun h => cnt_range (h := h) ha1 ha2 hb1 hb2 hc1 hc2)
  have hGL := Aside0.mk (fun q (f : Nat) (hf : (f : Int) ≤ 9) (h0 : 0 ≤ q) (h1 : q < 3) => (by
    have h2 := goods_length 1125899906842624 a b c e ha2 hb2 hc2 q.toNat
    have h3 := goodsH_length 1125899906842624 a b c e q (f - 1)
    simp only [List.length_append]; omega : (goods 1125899906842624 a b c e q.toNat ++ goodsH 1125899906842624 a b c e q (f - 1)).length ≤ 40))
  have hu := Try.underlying62
  go_enter Try.func60, Try.ntmps60
  go_wp2_with (first | ((with_reducible refine gate_dst (N := 9) rfl ?_); refine Kd.R_lit (Kd.slice 3 (Kd.int .i64)) w.heap.size 22 ?hg (w0 := w) (N := 9) ?hd (xs := ([] : List (List Int))) (inner := []) (ok := fun k => w.heap.size + 1 ≤ k) (okp := fun _ => False) ?hr ?hp (fun _ hk => hk.elim) (by simp) (below_alloc (Below.refl _ _) _) (by simp) (by simp) ?_; (case hd => rfl); (case hg => rfl); (case hr => first | (go_simp; done) | (go_simp; rfl)); (case hp => exact Reps.none _ _); intro v9 w9 ho9 hb9 hg9 hnew9; have HBX := Aside0.mk (show w9.heap[w.heap.size]? = some (.cells #[.int .i64 a, .int .i64 b, .int .i64 c, .int .i64 e] 62 (0, 0)) from (hg9.block w.heap.size (by simp) (by simp)).trans (heap_alloc_new w _)); have HO := Aside0.mk (Kd.R_N ho9); have HM9 := Aside0.mk (HM.out.below hb9); have HG := Aside0.mk (show w.grownBy w9 (some B) from ⟨hb9.os, hb9.tape, hb9.output, hb9.size, fun k hk _ => hb9.block k hk⟩); obtain ⟨c0, c1, c2, c3⟩ := VilAt.of_heap HBX.out; have f0 := blk_frozen HBX.out 0; clear hnew9 hg9 hb9 ho9))
  clear HM
  clear c0 c1 c2 c3 f0
  go_loopw [5, 12] (fun o i wr => ∃ (q : Int) (xs : List (List Int)), (0 ≤ q ∧ q ≤ 3) ∧ i = .int .i64 q ∧ Aside0 (xs = goods 1125899906842624 a b c e q.toNat) ∧ Aside0 (Kd.N (Kd.slice 3 (Kd.int .i64)) 22 wr w.heap.size (fun k => w.heap.size + 1 ≤ k) o xs) ∧ Aside0 (MapOk LI wr B) ∧ Aside0 (w.grownBy wr (some B)) ∧ Aside0 (wr.heap[w.heap.size]? = some (.cells #[.int .i64 a, .int .i64 b, .int .i64 c, .int .i64 e] 62 (0, 0))))
    (fun _ i _ => (3 - intOf i).toNat)
  case atStart => exact ⟨0, [], by omega, rfl, ⟨rfl⟩, HO, HM9, HG, HBX⟩
  case round =>
    clear HM9 HG HBX HO
    obtain ⟨q, xs, ⟨hh0, hh3⟩, rfl, HX, HO, HM9, HG, HBX⟩ := hrel
    by_cases hl : q < 3
    · have hd : decide (q < 3) = true := decide_eq_true hl
      have hi := idx3 a b c q hh0 hl
      obtain ⟨hk1, hk2⟩ := hCR.out q
      obtain ⟨n, hn⟩ : ∃ n, cnt a b c q = n := ⟨_, rfl⟩
      rw [hn] at hi hk1 hk2
      go_wp2
      go_loopw [5, 8] (fun o i wr => ∃ (f : Nat) (xs : List (List Int)), 1 ≤ f ∧ (f : Int) ≤ n + 1 ∧ i = .int .i64 f ∧ Aside0 (xs = goods 1125899906842624 a b c e q.toNat ++ goodsH 1125899906842624 a b c e q (f - 1)) ∧ Aside0 (Kd.N (Kd.slice 3 (Kd.int .i64)) 22 wr w.heap.size (fun k => w.heap.size + 1 ≤ k) o xs) ∧ Aside0 (MapOk LI wr B) ∧ Aside0 (w.grownBy wr (some B)) ∧ Aside0 (wr.heap[w.heap.size]? = some (.cells #[.int .i64 a, .int .i64 b, .int .i64 c, .int .i64 e] 62 (0, 0))))
        (fun _ i _ => (9 - intOf i).toNat)
      case atStart => exact ⟨1, xs, by omega, by omega, rfl, ⟨by rw [HX.out]; simp [goodsH]⟩, HO, HM9, HG, HBX⟩
      case round =>
        clear HM9 HG HBX HX HO
        obtain ⟨f, xs, hf1, hf2, rfl, HX, HO, HM2, HG, HBX⟩ := hrel
        by_cases hle : (f : Int) ≤ n
        · have hd2 : decide ((f : Int) ≤ n) = true := decide_eq_true hle
          have hbx := HBX.out
          have HW := Aside0.mk (hWC.out q (f : Int) (by omega) (cnt_cases hh0 hl (by omega)))
          obtain ⟨y, hy⟩ : ∃ y, gOf LI a b c e q (f : Int) = y := ⟨_, rfl⟩
          obtain ⟨z, hz⟩ : ∃ z, LI a b c e = z := ⟨_, rfl⟩
          rw [hy] at HW
          have HY := Aside0.mk hy
          have HZ := Aside0.mk hz
          have HLX : Aside0 (xs.length ≤ 40) := ⟨by rw [HX.out]; exact hGL.out q f (by omega) hh0 hl⟩
          have hne : w.heap.size ≠ B := by omega
          have hnN : ∀ k, w.heap.size + 1 ≤ k → some k ≠ some B := fun k hk hkk => by injection hkk; omega
          have V1 := Aside0.mk (VilAt.of_heap HBX.out)
          have HLZ : Aside0 (∀ w, MapOk LI w B → Calls Try.prog 56 #[.map (some B), Vl a b c e] w fun r w' => r = .returned (.int .i64 z) ∧ MapOk LI w' B ∧ w.grownBy w' (some B)) := ⟨fun W hW => by rw [← hz]; exact LeastC.use hLC.out W hW⟩
          clear hbx
          clear hy hz
          by_cases hyz : y = z
          · have hb1 : (y == z) = true := beq_iff_eq.mpr hyz
            go_wp2
            go_region_held3 (fun w' => w'.cell? ⟨w.heap.size, 0, none⟩ = some (.int .i64 a) ∧ w'.cell? ⟨w.heap.size, 1, none⟩ = some (.int .i64 b) ∧ w'.cell? ⟨w.heap.size, 2, none⟩ = some (.int .i64 c) ∧ w'.cell? ⟨w.heap.size, 3, none⟩ = some (.int .i64 e))
              (first
                | exact ⟨V1.out.c0, V1.out.c1, V1.out.c2, V1.out.c3⟩)
              (first
                | (go_at_call 82; (with_reducible refine (HW.out.use _ ?hm).mono ?_); (case hm => exact HM2.out.drew); rintro r w2 ⟨rfl, hm2, hg2⟩; have HM3 := Aside0.mk hm2; have HG2 := Aside0.mk (HG.out.trans (grown_undrew hg2)); have V3 := Aside0.mk (V1.out.grown (grown_undrew hg2) hne); have HB3 := Aside0.mk (show w2.heap[w.heap.size]? = some (.cells #[.int .i64 a, .int .i64 b, .int .i64 c, .int .i64 e] 62 (0, 0)) from ((grown_undrew hg2).block _ (lt_of_some HBX.out) (by simp; omega)).trans HBX.out); have HO3 := Aside0.mk (Kd.N_grown HO.out (grown_undrew hg2) hnN); clear hm2 hg2 HM2 V1 HG HBX HO; have HM2 := HM3; have V1 := V3; have HG := HG2; have HBX := HB3; have HO := HO3; clear HM3 V3 HG2 HB3 HO3)
                | (go_at_call 56; (with_reducible refine (HLZ.out _ ?hm).mono ?_); (case hm => exact HM2.out); rintro r w3 ⟨rfl, hm2, hg2⟩; have HM3 := Aside0.mk hm2; have HG2 := Aside0.mk (HG.out.trans hg2); have V3 := Aside0.mk (V1.out.grown hg2 hne); have HB3 := Aside0.mk (show w3.heap[w.heap.size]? = some (.cells #[.int .i64 a, .int .i64 b, .int .i64 c, .int .i64 e] 62 (0, 0)) from (hg2.block _ (lt_of_some HBX.out) (by simp; omega)).trans HBX.out); have HO3 := Aside0.mk (Kd.N_grown HO.out hg2 hnN); clear hm2 hg2 HM2 V1 HG HBX HO; have HM2 := HM3; have V1 := V3; have HG := HG2; have HBX := HB3; have HO := HO3; clear HM3 V3 HG2 HB3 HO3))
            have HSZ : Aside0 (w.heap.size + 1 ≤ w3.heap.size) := ⟨lt_of_some HBX.out⟩
            go_wp2_with (first
              | ((with_reducible refine gate_dst (N := 33) rfl ?_); refine Kd.R_lit (Kd.int .i64) _ 3 ?hg (N := 33) ?hd (xs := ([q, (f : Int)] : List Int)) (inner := [.int .i64 q, .int .i64 (f : Int)]) (ok := fun _ => True) (okp := fun _ => True) ?hr ?hp (fun _ hk => hk) trivial (Below.refl _ _) (Nat.le_refl _) (by simp) ?_; (case hd => rfl); (case hg => rfl); (case hr => first | (go_simp; done) | (go_simp; rfl)); (case hp => exact (Reps.one (show Kd.M (Kd.int .i64) _ _ _ q [.int .i64 q] from rfl) (Reps.one (show Kd.M (Kd.int .i64) _ _ _ (f : Int) [.int .i64 (f : Int)] from rfl) (Reps.none _ _)))); intro v33 w33 ho33 hb33 hg33 hnew33; clear hnew33; have HO4 := Aside0.mk (Kd.N_mono (Kd.N_elder' HO.out (Kd.R_base ho33) hb33) (ok' := fun k => w.heap.size + 1 ≤ k) (fun k hk => hk.1)); have HM4 := Aside0.mk (HM2.out.below hb33); have HR := Aside0.mk (Kd.R_new' (Kd.R_newM (w := w3) (M := fun k => w.heap.size + 1 ≤ k) ho33 (Nat.le_refl _) (fun k hk => Nat.le_trans HSZ.out hk)) (Kd.N_lt HO.out)); have HS4 := Aside0.mk (Nat.le_trans HSZ.out hb33.size); have HG4 := Aside0.mk (grown_then_below HG.out hb33); have HB4 := Aside0.mk (show w33.heap[w.heap.size]? = some (.cells #[.int .i64 a, .int .i64 b, .int .i64 c, .int .i64 e] 62 (0, 0)) from (hb33.block _ (lt_of_some HBX.out)).trans HBX.out); clear hb33 hg33 ho33 HO HM2 HG HBX HSZ; obtain ⟨Ao, co, eo⟩ := Kd.R_slice HR.out; subst eo)
              | ((with_reducible refine gate_builtin (b := .append) (xs := #[.tmp 30, .tmp 34]) rfl ?_); at_builtin; refine Kd.N_append (Kd.slice 3 (Kd.int .i64)) w.heap.size rfl (.tmp 30) (.tmp 34) 34 22 (.slice none 0 0) 24 rfl Try.underlying34 info22 rfl (by decide) (by omega) u5 xs [q, (f : Int)] [.slice Ao ([q, (f : Int)] : List Int).length co] (fun k => w.heap.size + 1 ≤ k) (fun k => (w.heap.size + 1 ≤ k ∧ True) ∧ some k ≠ (u5 : Value).ownBlock) rfl rfl ?aP (fun _ hk => ⟨hk.1.1, hk.2⟩) (fun k hk => Nat.le_trans HS4.out hk) HO4.out (Below.refl _ _) (Nat.le_trans (by omega) HS4.out) ?aL ?_; (case aP => exact Kd.FK_slice_mk (Kd.R_reads' HR.out).2.1 (Kd.R_F HR.out)); (case aL => have := HLX.out; omega); intro v5 w35 ho hb hg hat; have HO5 := Aside0.mk ho; have HM5 := Aside0.mk (HM4.out.step (hb.block B hlt)); have HG5 := Aside0.mk (grown_then_base HG4.out hb); have HB5 := Aside0.mk (show w35.heap[w.heap.size]? = some (.cells #[.int .i64 a, .int .i64 b, .int .i64 c, .int .i64 e] 62 (0, 0)) from (hg.block _ (lt_of_some HB4.out) (fun he => by have := HO4.out.1 _ he.symm; omega)).trans HB4.out); clear ho hb hg hat HO4 HM4 HG4 HB4 HS4 HR))
            all_goals
              go_roundw
              case rel => exact ⟨f + 1, _, by omega, by omega, by go_num, ⟨by rw [HX.out, ← goodsH_hit 1125899906842624 a b c e q f hf1 (HY.out.trans (hyz.trans HZ.out.symm)), List.append_assoc]⟩, HO5, HM5, HG5, HB5⟩
              case measure => simp [intOf]; omega
          · have hb1 : (y == z) = false := beq_eq_false_iff_ne.mpr hyz
            go_wp2
            go_region_held3 (fun w' => w'.cell? ⟨w.heap.size, 0, none⟩ = some (.int .i64 a) ∧ w'.cell? ⟨w.heap.size, 1, none⟩ = some (.int .i64 b) ∧ w'.cell? ⟨w.heap.size, 2, none⟩ = some (.int .i64 c) ∧ w'.cell? ⟨w.heap.size, 3, none⟩ = some (.int .i64 e))
              (first
                | exact ⟨V1.out.c0, V1.out.c1, V1.out.c2, V1.out.c3⟩)
              (first
                | (go_at_call 82; (with_reducible refine (HW.out.use _ ?hm).mono ?_); (case hm => exact HM2.out.drew); rintro r w2 ⟨rfl, hm2, hg2⟩; have HM3 := Aside0.mk hm2; have HG2 := Aside0.mk (HG.out.trans (grown_undrew hg2)); have V3 := Aside0.mk (V1.out.grown (grown_undrew hg2) hne); have HB3 := Aside0.mk (show w2.heap[w.heap.size]? = some (.cells #[.int .i64 a, .int .i64 b, .int .i64 c, .int .i64 e] 62 (0, 0)) from ((grown_undrew hg2).block _ (lt_of_some HBX.out) (by simp; omega)).trans HBX.out); have HO3 := Aside0.mk (Kd.N_grown HO.out (grown_undrew hg2) hnN); clear hm2 hg2 HM2 V1 HG HBX HO; have HM2 := HM3; have V1 := V3; have HG := HG2; have HBX := HB3; have HO := HO3; clear HM3 V3 HG2 HB3 HO3)
                | (go_at_call 56; (with_reducible refine (HLZ.out _ ?hm).mono ?_); (case hm => exact HM2.out); rintro r w3 ⟨rfl, hm2, hg2⟩; have HM3 := Aside0.mk hm2; have HG2 := Aside0.mk (HG.out.trans hg2); have V3 := Aside0.mk (V1.out.grown hg2 hne); have HB3 := Aside0.mk (show w3.heap[w.heap.size]? = some (.cells #[.int .i64 a, .int .i64 b, .int .i64 c, .int .i64 e] 62 (0, 0)) from (hg2.block _ (lt_of_some HBX.out) (by simp; omega)).trans HBX.out); have HO3 := Aside0.mk (Kd.N_grown HO.out hg2 hnN); clear hm2 hg2 HM2 V1 HG HBX HO; have HM2 := HM3; have V1 := V3; have HG := HG2; have HBX := HB3; have HO := HO3; clear HM3 V3 HG2 HB3 HO3))
            all_goals
              go_wp2
              all_goals
                go_roundw
                case rel => exact ⟨f + 1, xs, by omega, by omega, by go_num, ⟨by rw [HX.out, goodsH_miss 1125899906842624 a b c e q f hf1 (fun hh => hyz (HY.out.symm.trans (hh.trans HZ.out)))]⟩, HO, HM2, HG, HBX⟩
                case measure => simp [intOf]; omega
        · have hd2 : decide ((f : Int) ≤ n) = false := decide_eq_false hle
          go_wp2
          go_roundw
          case rel => exact ⟨q + 1, xs, by omega, by go_num, ⟨by rw [HX.out, show (q + 1).toNat = q.toNat + 1 by omega, goods, show ((q.toNat : Nat) : Int) = q by omega, hn, show f - 1 = n.toNat by omega]⟩, HO, HM2, HG, HBX⟩
          case measure => simp [intOf]; omega
    · have hd : decide (q < 3) = false := decide_eq_false hl
      go_wp2
      go_ret
      exact ⟨_, rfl, ⟨by rw [HX.out, show q.toNat = 3 by omega] at HO; exact HO.out, HM9.out, HG.out⟩⟩

end Go.Proofs.Ytfemdpdnnifehaa.PH
