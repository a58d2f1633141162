/- A play of impl (houser.play). -/
import Derived.Test.YtfemdpdnnifehaaPHx0
import Derived.Test.YtfemdpdnnifehaaHGood
import Derived.Test.YtfemdpdnnifehaaHGood2
import Derived.Test.YtfemdpdnnifehaaHPur
import Derived.Test.YtfemdpdnnifehaaHPlay8
-- NEEDS HGood
-- NEEDS HGood2
-- NEEDS HPur
-- NEEDS HPlay8
import Derived.Deep.DeepCutAuto
import Derived.Deep.DrawnRows
import Derived.Laws.Rows
set_option linter.unusedVariables false
set_option linter.unusedSimpArgs false
namespace Go.Proofs.Ytfemdpdnnifehaa.PH
open Go.RowKit Go.Proofs.YtfemdpdnnifehaaW.PrintWords Go.Proofs.YtfemdpdnnifehaaW.PrintLast
attribute [local go_sem ↓] Go.wp_at_zero Go.wp_at_succ

/-- What play answers with. -/
structure PlayAt (w w' : World) (B : Nat) (v : Value) (xs : List S51) : Prop where
  rows : Kd.R k51 51 w' w.heap.size (fun k => w.heap.size + 1 ≤ k) v xs
  map : MapOk LI w' B
  grown : w.grownBy w' (some B)

theorem GoodAt.first {w w' : World} {B : Nat} {a b c e h f : Int} {v : Value} {rest : List (List Int)} (hg : GoodAt w w' B a b c e v ([h, f] :: rest)) :
    ∃ (g n cp : Nat) (A1 : Addr) (c1 : Nat), v = .slice (some ⟨g, 0, none⟩) (n + 1) cp ∧ w'.cell? ⟨g, 0, none⟩ = some (.slice (some A1) 2 c1) ∧ w'.cell? A1 = some (.int .i64 h) ∧ w'.cell? (A1.add 1) = some (.int .i64 f) ∧ w.heap.size + 1 ≤ A1.block := by
  obtain ⟨g, cp, rfl, _⟩ := Kd.N_form hg.rows (by simp)
  obtain ⟨ce, hce, hK, hcc⟩ := Kd.N_get hg.rows [] 0 (by omega) (by simp)
  obtain ⟨A0, c0, rfl, hl, hF⟩ := Kd.FK_slice_open hK
  have hx := hcc 0 _ rfl
  rw [Nat.add_zero, show (0 : Int).toNat * (Kd.slice 3 (Kd.int .i64)).sz = 0 from by simp, Addr.add_zero'] at hx
  obtain ⟨A1, cs, rfl, _, _, _, hok⟩ := Kd.F_get hF 0 0 (by omega) (by simp)
  have hi := Kd.F_now hF
  obtain ⟨A2, e2, h0⟩ := Kd.at_int hi 0 (by omega) (by simp)
  obtain ⟨A3, e3, h1⟩ := Kd.at_int hi 1 (by omega) (by simp)
  cases e2
  cases e3
  rw [show (0 : Int).toNat = 0 from rfl, Addr.add_zero'] at h0
  exact ⟨g, rest.length, cp, A1, c0, rfl, hx, h0, h1, (hok Nat.one_pos).1⟩

theorem C_grown {L : Int → Int → Int → Int → Int} {w w' : World} {B : Nat} {A : Option Addr} {l : List Int} (hr : Kd.C (Kd.int .i64) w A l.length l) (hm : MapOk L w B) (hg : w.grownBy w' (some B)) : Kd.C (Kd.int .i64) w' A l.length l := by
  obtain ⟨h1, h2, hc⟩ := Kd.reads_of_C (d := (0 : Int)) hr
  refine Kd.C_of_reads (d := (0 : Int)) (h1 := fun _ => rfl) ⟨h1, h2, fun hp => ?_⟩
  obtain ⟨ad, e, hcell⟩ := hc hp
  refine ⟨ad, e, fun j hj => hg.cell (hcell j hj) (fun he => ?_)⟩
  obtain ⟨es, ck, hb, _⟩ := hm
  have h3 := hcell j hj
  injection he with he
  rw [World.cell?, he, hb] at h3
  simp at h3

theorem keep5 {W W' : World} {g : Nat} {a b c e f : Int} {A : Addr} (h : Below W.heap.size W W') (v : VilAt W g a b c e) (hf : W.cell? A = some (.int .i64 f)) :
    (W'.cell? ⟨g, 0, none⟩ = some (.int .i64 a) ∧ W'.cell? ⟨g, 1, none⟩ = some (.int .i64 b) ∧ W'.cell? ⟨g, 2, none⟩ = some (.int .i64 c) ∧ W'.cell? ⟨g, 3, none⟩ = some (.int .i64 e)) ∧ W'.cell? A = some (.int .i64 f) :=
  ⟨⟨pw_cell_below h v.c0, pw_cell_below h v.c1, pw_cell_below h v.c2, pw_cell_below h v.c3⟩, pw_cell_below h hf⟩

/-- What holds at a round. -/
structure PlayRel (w wr : World) (B sl : Nat) (a b c e x y z : Int) (u : Value) (xs : List S51) (Ab : Option Addr) (br : List Int) : Prop where
  rows : Kd.R k51 51 wr w.heap.size (fun k => w.heap.size + 1 ≤ k ∧ k ≠ sl) u xs
  map : MapOk LI wr B
  grown : w.grownBy wr (some B)
  box : wr.heap[w.heap.size]? = some (.cells #[.int .i64 a, .int .i64 b, .int .i64 c, .int .i64 e] 62 (0, 0))
  low : wr.heap[sl]? = some (.cells #[.int .i64 x, .int .i64 y, .int .i64 z] 60 (0, 0))
  reads : Kd.C (Kd.int .i64) wr Ab br.length br


theorem parts_any (a b c e q f : Int) (w : World) (hq0 : 0 ≤ q) (hq3 : q < 3) (hf1 : 1 ≤ f) (hf2 : f ≤ cnt a b c q) (ha1 : 0 ≤ a) (ha2 : a ≤ 8) (hb1 : 0 ≤ b) (hb2 : b ≤ 8) (hc1 : 0 ≤ c) (hc2 : c ≤ 8) (he1 : 1 ≤ e) (he2 : e ≤ 6) :
    Calls Try.prog 74 #[Vl a b c e, .int .i64 q, .int .i64 f] w fun r w' => r = .returned (.tuple #[Vl (set3 a b c q (f - 1) 0) (set3 a b c q (f - 1) 1) (set3 a b c q (f - 1) 2) (e - 1), Vl (set3 a b c q (cnt a b c q - f) 0) (set3 a b c q (cnt a b c q - f) 1) (set3 a b c q (cnt a b c q - f) 2) e]) ∧ Below w.heap.size w w' := by
  have hqc : q = 0 ∨ q = 1 ∨ q = 2 := by omega
  rcases hqc with rfl | rfl | rfl <;> simp [cnt] at hf2 <;> simp [set3, cnt]
  · exact parts0 a b c e f w hf1 (by omega) he1 he2 ha1 ha2
  · exact parts1 a b c e f w hf1 (by omega) he1 he2 hb1 hb2
  · exact parts2 a b c e f w hf1 (by omega) he1 he2 hc1 hc2

theorem cnt_cell {W : World} {sl : Nat} {x y z q : Int} {t : TypeId} {fr : Nat × Nat} (hl : W.heap[sl]? = some (.cells #[.int .i64 x, .int .i64 y, .int .i64 z] t fr)) (hq0 : 0 ≤ q) (hq3 : q < 3) :
    W.cell? ⟨sl, q.toNat, none⟩ = some (.int .i64 (cnt x y z q)) := by
  rw [cell_of_row W sl _ _ _ _ hl]
  have hqc : q = 0 ∨ q = 1 ∨ q = 2 := by omega
  rcases hqc with rfl | rfl | rfl <;> rfl

theorem set4_spec {W : World} {g : Nat} {x0 x1 x2 x3 : Value} {t : TypeId} (h : W.heap[g]? = some (.cells #[x0, x1, x2, x3] t (0, 0))) (v0 v1 v2 v3 : Value) :
    ((((W.setCell ⟨g, 0, none⟩ v0).setCell ⟨g, 1, none⟩ v1).setCell ⟨g, 2, none⟩ v2).setCell ⟨g, 3, none⟩ v3).heap[g]? = some (.cells #[v0, v1, v2, v3] t (0, 0)) ∧
    W.grownBy ((((W.setCell ⟨g, 0, none⟩ v0).setCell ⟨g, 1, none⟩ v1).setCell ⟨g, 2, none⟩ v2).setCell ⟨g, 3, none⟩ v3) (some g) :=
  setCells_row W g #[x0, x1, x2, x3] #[v0, v1, v2, v3] t h rfl

theorem box_grown {w W W' : World} {r : Option Nat} {g : Nat} (hI : w.grownBy W r) (hg : W.grownBy W' (some g)) (hN : w.heap.size ≤ g) : w.grownBy W' r :=
  ⟨hg.os.trans hI.os, hg.tape.trans hI.tape, hg.output.trans hI.output, Nat.le_trans hI.size hg.size, fun k hk hne => (hg.block k (Nat.lt_of_lt_of_le hk hI.size) (fun e => by injection e with e; omega)).trans (hI.block k hk hne)⟩
theorem low_set {W : World} {g : Nat} {x y z q : Int} {t : TypeId} (h : W.heap[g]? = some (.cells #[.int .i64 x, .int .i64 y, .int .i64 z] t (0, 0))) (hq0 : 0 ≤ q) (hq3 : q < 3) (v : Int) :
    (W.setCell ⟨g, q.toNat, none⟩ (.int .i64 v)).heap[g]? = some (.cells #[.int .i64 (set3 x y z q v 0), .int .i64 (set3 x y z q v 1), .int .i64 (set3 x y z q v 2)] t (0, 0)) ∧ W.grownBy (W.setCell ⟨g, q.toNat, none⟩ (.int .i64 v)) (some g) := by
  refine ⟨?_, ⟨rfl, rfl, rfl, by simp [World.setCell], fun k hk hne => heap_setCell_other W _ k _ (fun e => hne (by rw [e]))⟩⟩
  rw [heap_setCell_same W g q.toNat _ t _ h]
  have hqc : q = 0 ∨ q = 1 ∨ q = 2 := by omega
  rcases hqc with rfl | rfl | rfl <;> rfl

set_option maxHeartbeats 8000000 in
set_option maxRecDepth 100000 in
theorem play_all (B : Nat) (a0 b0 c0 e0 : Int) (Ab : Option Addr) (cb : Nat) (br : List Int) (K : Nat) (w : World) (ha1 : 0 ≤ a0) (ha2 : a0 ≤ 8) (hb1 : 0 ≤ b0) (hb2 : b0 ≤ 8) (hc1 : 0 ≤ c0) (hc2 : c0 ≤ 8) (hn : need3 a0 b0 c0 ≤ e0) (he2 : e0 ≤ 6) (hm : MapOk LI w B)
    (hr : Kd.C (Kd.int .i64) w Ab br.length br) (hcb : br.length ≤ cb) (hbr : (br.length : Int) ≤ 0 → a0 = 0) (hbr1 : (br.length : Int) ≤ 1 → b0 = 0) (hbr2 : (br.length : Int) ≤ 2 → c0 = 0) (hK : a0 + b0 + c0 < K) :
    Calls Try.prog 48 #[.map (some B), Vl a0 b0 c0 e0, .slice Ab br.length cb] w fun r w' => ∃ v, r = .returned v ∧ PlayAt w w' B v (plays 1125899906842624 K a0 b0 c0 e0 0 0 0 br) := by
  have HM := Aside0.mk hm
  have hlt := hm.lt
  have HRD := Aside0.mk hr
  have HRW : Aside0 (∀ W, w.grownBy W (some B) → Kd.C (Kd.int .i64) W Ab br.length br) := ⟨fun W hW => C_grown hr hm hW⟩
  have hu := Try.underlying62
  clear hm hr
  obtain ⟨PL, hPL⟩ : ∃ p, plays 1125899906842624 K a0 b0 c0 e0 0 0 0 br = p := ⟨_, rfl⟩
  rw [hPL]
  have HPL := Aside0.mk hPL
  clear hPL
  go_enter Try.func48, Try.ntmps48
  go_wp2_with (first | ((with_reducible refine gate_dst (N := 15) rfl ?_); refine Kd.R_lit k51 w.heap.size 51 ?hg (w0 := w) (N := 15) ?hd (xs := ([] : List S51)) (inner := []) (ok := fun k => w.heap.size + 1 ≤ k) (okp := fun _ => False) ?hr ?hp (fun _ hk => hk.elim) (by simp) (below_alloc (Below.refl _ _) _) (by simp) (by simp) ?_; (case hd => rfl); (case hg => rfl); (case hr => first | (go_simp; done) | (go_simp; rfl)); (case hp => exact Reps.none _ _); intro v9 w9 ho9 hb9 hg9 hnew9; have HBX := Aside0.mk (show w9.heap[w.heap.size]? = some (.cells #[.int .i64 a0, .int .i64 b0, .int .i64 c0, .int .i64 e0] 62 (0, 0)) from (hg9.block w.heap.size (by simp) (by simp)).trans (heap_alloc_new w _)); have HO := Aside0.mk ho9; have HM9 := Aside0.mk (HM.out.below hb9); have HG := Aside0.mk (show w.grownBy w9 (some B) from ⟨hb9.os, hb9.tape, hb9.output, hb9.size, fun k hk _ => hb9.block k hk⟩); have HRD9 := Aside0.mk (C_grown HRD.out HM.out HG.out); clear hnew9 hg9 hb9 ho9))
  clear HM HRD
  have HSL : Aside0 (w.heap.size + 1 ≤ w9.heap.size) := ⟨lt_of_some HBX.out⟩
  go_loopg [7] K (fun kq v7 wr => ∃ (a b c e x y z : Int) (xs : List S51), (0 ≤ a ∧ 0 ≤ x ∧ x + a ≤ 8) ∧ (0 ≤ b ∧ 0 ≤ y ∧ y + b ≤ 8) ∧ (0 ≤ c ∧ 0 ≤ z ∧ z + c ≤ 8) ∧ need3 a b c ≤ e ∧ e ≤ 6 ∧ ((br.length : Int) ≤ 0 → a = 0) ∧ ((br.length : Int) ≤ 1 → b = 0) ∧ ((br.length : Int) ≤ 2 → c = 0) ∧ a + b + c < kq ∧ (xs.length : Int) + a + b + c ≤ 24 ∧ Aside0 (xs ++ plays 1125899906842624 kq a b c e x y z br = PL) ∧ Aside0 (PlayRel w wr B w9.heap.size a b c e x y z v7 xs Ab br))
  case atStart =>
    exact ⟨a0, b0, c0, e0, 0, 0, 0, [], by omega, by omega, by omega, hn, he2, hbr, hbr1, hbr2, hK, by simp; omega, ⟨HPL.out⟩, ⟨⟨Kd.R_alloc (Kd.R_elderB HO.out _ (Nat.le_refl _)) _, HM9.out.alloc _, grown_then_below HG.out (below_alloc (Below.refl _ _) _), (Below.heap_alloc _ _ _ (lt_of_some HBX.out)).trans HBX.out, heap_alloc_new w9 _, Kd.C_alloc HRD9.out _⟩⟩⟩
  case round =>
    clear HBX HO HM9 HG HRD9 HPL hn he2 hbr hbr1 hbr2 hK ha1 ha2 hb1 hb2 hc1 hc2
    obtain ⟨a, b, c, e, x, y, z, xs, ⟨ha1, hx1, hxa⟩, ⟨hb1, hy1, hyb⟩, ⟨hc1, hz1, hzc⟩, hn, he2, hbr, hbr1, hbr2, hK, hxs, HPL, HR⟩ := hrel
    cases gk with
    | zero => omega
    | succ k1 =>
      obtain ⟨n, hnn⟩ : ∃ n, need3 a b c = n := ⟨_, rfl⟩
      have HC : Aside0 (∀ W, W.heap[w.heap.size]? = some (.cells #[.int .i64 a, .int .i64 b, .int .i64 c, .int .i64 e] 62 (0, 0)) → Calls Try.prog 72 #[.slice (some ⟨w.heap.size, 0, none⟩) 3 3] W fun r w' => r = .returned (.int .i64 n) ∧ Drawn0 W w') := ⟨fun W h => by rw [← hnn]; exact needed3 _ a b c e W h⟩
      have hbx := HR.out.box
      obtain ⟨c0, c1, c2, c3⟩ := VilAt.of_heap hbx
      by_cases h0 : n = 0
      · have hd : decide (0 < n) = false := decide_eq_false (by omega)
        have hd2 : decide (n > 0) = false := hd
        go_wp2_with fail
        refine (HC.out _ hbx).mono ?_
        rintro r w' ⟨rfl, ⟨nd, rfl⟩⟩
        go_wp2
        go_ret
        have hp := HPL.out
        simp only [plays, hnn, h0, if_true, List.append_nil] at hp
        subst hp
        exact ⟨_, rfl, ⟨Kd.R_drewN (Kd.R_mono HR.out.rows (fun k hk => hk.1)) _, HR.out.map.drewN _, grown_then_below HR.out.grown (pw_below_drewN (Below.refl _ _) _)⟩⟩
      · have hr0 := need3_range a b c
        have hd : decide (0 < n) = true := decide_eq_true (by omega)
        have hd2 : decide (n > 0) = true := hd
        obtain ⟨q, f, rest, hgs, hq0, hq3, hf1, hf2, hgg⟩ := goods_first (N := 1125899906842624) (by omega) ha1 (by omega) hb1 (by omega) hc1 (by omega) (by rw [hnn]; exact h0) hn
        have HGG := Aside0.mk hgg
        have HGS := Aside0.mk hgs
        clear hgg hgs
        go_wp2_with fail
        refine (HC.out _ hbx).mono ?_
        rintro r w' ⟨rfl, ⟨nd, rfl⟩⟩
        clear HC
        generalize hW1 : wr.drewN nd = w1
        have HR1 : Aside0 (PlayRel w w1 B w9.heap.size a b c e x y z u7 xs Ab br) := ⟨by rw [← hW1]; exact ⟨Kd.R_drewN HR.out.rows _, HR.out.map.drewN _, grown_then_below HR.out.grown (pw_below_drewN (Below.refl _ _) _), HR.out.box, HR.out.low, Kd.C_drewN HR.out.reads _⟩⟩
        clear hW1 hbx c0 c1 c2 c3 HR
        have hbx := HR1.out.box
        obtain ⟨c0, c1, c2, c3⟩ := VilAt.of_heap hbx
        go_wp2_with fail
        refine (good_all B a b c e _ ha1 (by omega) hb1 (by omega) hc1 (by omega) (by omega) he2 HR1.out.map).mono ?_
        rintro r w2 ⟨vg, rfl, hga⟩
        rw [HGS.out] at hga
        have HGR := hga.grown
        have hne : w9.heap.size ≠ B := by have := HSL.out; omega
        have HR2 : Aside0 (PlayRel w w2 B w9.heap.size a b c e x y z u7 xs Ab br) := ⟨⟨Kd.R_grown HR1.out.rows HGR (fun k hk he => by injection he; omega), hga.map, HR1.out.grown.trans HGR, (HGR.block _ (lt_of_some HR1.out.box) (by simp; omega)).trans HR1.out.box, (HGR.block _ (lt_of_some HR1.out.low) (by simp; exact hne)).trans HR1.out.low, C_grown HR1.out.reads HR1.out.map HGR⟩⟩
        obtain ⟨g, ng, cp, A1, c1g, rfl, hg0, hg1, hg2, hgb⟩ := hga.first
        have hA1 : some A1.block ≠ u7.ownBlock := fun he => by have := Kd.R_lt HR1.out.rows _ he.symm; omega
        clear hbx c0 c1 c2 c3 HR1 HGR hga hgb
        have hlen : q < (br.length : Int) := by
          rcases cnt_cases hq0 hq3 hf2 with ⟨rfl, h⟩ | ⟨rfl, h⟩ | ⟨rfl, h⟩
          · by_cases hh : (br.length : Int) ≤ 0
            · have := hbr hh; omega
            · omega
          · by_cases hh : (br.length : Int) ≤ 1
            · have := hbr1 hh; omega
            · omega
          · by_cases hh : (br.length : Int) ≤ 2
            · have := hbr2 hh; omega
            · omega
        have hcr := cnt_range (h := q) ha1 (by omega) hb1 (by omega) hc1 (by omega)
        have hxr := cnt_range (h := q) hx1 (show x ≤ 8 by omega) hy1 (show y ≤ 8 by omega) hz1 (show z ≤ 8 by omega)
        have hPA := Aside0.mk (fun W => parts_any a b c e q f W hq0 hq3 hf1 hf2 ha1 (by omega) hb1 (by omega) hc1 (by omega) (by omega) he2)
        obtain ⟨ab, hab, hxb⟩ := Kd.at_int HR2.out.reads q hq0 hlen
        subst hab
        obtain ⟨bk, hbk⟩ : ∃ bk, rd br q = bk := ⟨_, rfl⟩
        rw [hbk] at hxb
        have lq := cnt_cell HR2.out.low hq0 hq3
        obtain ⟨xq, hxq⟩ : ∃ xq, cnt x y z q = xq := ⟨_, rfl⟩
        obtain ⟨nq, hnq⟩ : ∃ nq, cnt a b c q = nq := ⟨_, rfl⟩
        rw [hxq] at lq hxr
        rw [hnq] at hf2 hcr
        obtain ⟨bb, hbb⟩ : ∃ bb : Bool, decide (bk < xq + f) = bb := ⟨_, rfl⟩
        have hbb2 : decide (xq + f > bk) = bb := hbb
        have HBB := Aside0.mk hbb
        have HBK := Aside0.mk hbk
        have HXQ := Aside0.mk hxq
        have HNQ := Aside0.mk hnq
        clear hbk hxq hnq
        have hbq := eq_true hlen
        have hu51 := Try.underlying51
        have hg3 : w2.cell? ⟨A1.block, A1.off + 1, none⟩ = some (.int .i64 f) := by simpa [Addr.add] using hg2
        obtain ⟨c0, c1, c2, c3⟩ := VilAt.of_heap HR2.out.box
        have HZ0 : Aside0 (w.heap.size < w2.heap.size) := ⟨lt_of_some HR2.out.box⟩
        have HZ2 : Aside0 (w9.heap.size < w2.heap.size) := ⟨lt_of_some HR2.out.low⟩
        have HZ1 : Aside0 (w.heap.size + 1 ≤ w9.heap.size) := HSL
        go_wp2
        go_region
        all_goals
          generalize hw3 : w2.drew = w3
          have HR3 : Aside0 (PlayRel w w3 B w9.heap.size a b c e x y z u7 xs (some ab) br) := ⟨by rw [← hw3]; exact ⟨Kd.R_drew HR2.out.rows, HR2.out.map.drew, grown_then_below HR2.out.grown (below_drew (Below.refl _ _)), HR2.out.box, HR2.out.low, Kd.C_drew HR2.out.reads⟩⟩
          have hg4 : w3.cell? ⟨A1.block, A1.off + 1, none⟩ = some (.int .i64 f) := by rw [← hw3]; exact hg3
          have hxb3 := hxb
          change w2.drew.cell? _ = _ at hxb3
          rw [hw3] at hxb3
          have hsz : w2.heap.size = w3.heap.size := by rw [← hw3]; rfl
          have HZ0 : Aside0 (w.heap.size < w3.heap.size) := ⟨lt_of_some HR3.out.box⟩
          have HZ2 : Aside0 (w9.heap.size < w3.heap.size) := ⟨lt_of_some HR3.out.low⟩
          clear hw3 hxb hg3 HR2 c0 c1 c2 c3 lq hg0 hg1 hg2
          obtain ⟨c0, c1, c2, c3⟩ := VilAt.of_heap HR3.out.box
          go_upto_region 8 with (first
            | ((with_reducible refine gate_builtin (b := .append) (xs := #[.tmp 45, .tmp 47]) rfl ?_); at_builtin; refine Kd.R_append k51 w.heap.size rfl (.tmp 45) (.tmp 47) 28 51 (.agg #[(.int .i64 0), (.int .i64 0), (.bool false)]) 24 rfl Try.underlying28 info51 rfl (by decide) (by omega) u7 xs (⟨q, xq + f, bb⟩ : S51) [.int .i64 q, .int .i64 (xq + f), .bool bb] (fun k => w.heap.size + 1 ≤ k ∧ k ≠ w9.heap.size) (fun _ => False) ?s1 ?s2 ?aP (fun _ hk => hk.elim) ?aF ?aO (Below.refl _ _) ?aS ?aL ?_; (case s1 => rfl); (case s2 => first | rfl | (go_simp; done) | (simp; done) | (simp [go_sem]; done)); (case aP => exact k51_mkM _ _ _ (⟨q, xq + f, bb⟩ : S51)); (case aF => (intro k hk; simp at hk; have h1 := HZ1.out; have h2 := HZ2.out; exact ⟨by omega, by omega⟩)); (case aO => exact (by (with_reducible repeat (first | apply Kd.R_alloc | apply Kd.R_drewN | apply Kd.R_drew)); exact HR3.out.rows)); (case aS => (simp; have h1 := HZ0.out; omega)); (case aL => omega); intro v7 w5 ho hb hg hat; have HO5 := Aside0.mk ho; have HM5 := Aside0.mk ((HR3.out.map.alloc _).step (hb.block B (by omega))); have HG5 := Aside0.mk (grown_then_base (grown_then_below HR3.out.grown (below_alloc (Below.refl _ _) _)) hb); have HB5 := Aside0.mk (show w5.heap[w.heap.size]? = some (.cells #[.int .i64 a, .int .i64 b, .int .i64 c, .int .i64 e] 62 (0, 0)) from (hg.block _ (by simp; have h1 := HZ0.out; omega) (fun he => by have := HR3.out.rows.1 _ he.symm; omega)).trans ((Below.heap_alloc _ _ _ HZ0.out).trans HR3.out.box)); have HL5 := Aside0.mk (show w5.heap[w9.heap.size]? = some (.cells #[.int .i64 x, .int .i64 y, .int .i64 z] 60 (0, 0)) from (hg.block _ (by simp; have h1 := HZ2.out; omega) (fun he => by have := (HR3.out.rows.1 _ he.symm).2; exact this rfl)).trans ((Below.heap_alloc _ _ _ HZ2.out).trans HR3.out.low)); have hD := hg.block w3.heap.size (by simp) (fun he => by have := Kd.R_lt HR3.out.rows _ he.symm; omega); have HD5 := Aside0.mk (show w5.heap[w3.heap.size]? = some (.cells #[.int .i64 q, .int .i64 (xq + f), .bool bb] 51 (0, 0)) from hD.trans (heap_alloc_new w3 _)); have HF5 := Aside0.mk (show w5.cell? ⟨A1.block, A1.off + 1, none⟩ = some (.int .i64 f) from hg.cell (pw_cell_below (below_alloc (Below.refl _ _) _) hg4) hA1); have HC5 := Aside0.mk (HRW.out _ HG5.out); clear ho hb hg hat hD HR3 hg4 hxb3 c0 c1 c2 c3 HZ0 HZ2; obtain ⟨c0, c1, c2, c3⟩ := VilAt.of_heap HB5.out; have hf5 := HF5.out))
          have HPAR : Aside0 (∃ a1 b1 c1 a2 b2 c2 : Int, (∀ W, Calls Try.prog 74 #[Vl a b c e, .int .i64 q, .int .i64 f] W fun r w' => r = .returned (.tuple #[Vl a1 b1 c1 (e - 1), Vl a2 b2 c2 e]) ∧ Below W.heap.size W w') ∧
              (a1 = set3 a b c q (f - 1) 0 ∧ b1 = set3 a b c q (f - 1) 1 ∧ c1 = set3 a b c q (f - 1) 2) ∧ (a2 = set3 a b c q (nq - f) 0 ∧ b2 = set3 a b c q (nq - f) 1 ∧ c2 = set3 a b c q (nq - f) 2)) := ⟨_, _, _, _, _, _, fun W => (by rw [← HNQ.out]; exact hPA.out W), ⟨rfl, rfl, rfl⟩, ⟨rfl, rfl, rfl⟩⟩
          obtain ⟨a1, b1, c1', a2, b2, c2', hPC, hS1, hS2⟩ := HPAR.out
          have HPC := Aside0.mk hPC
          have HS1 := Aside0.mk hS1
          have HS2 := Aside0.mk hS2
          have he1 : 1 ≤ e := by omega
          clear hPC hS1 hS2 HPAR hPA hf5
          go_cut [13, 14] (fun s13 s14 wx => ∃ g1 g2 : Nat, s13 = .pointer (some ⟨g1, 0, none⟩) ∧ s14 = .pointer (some ⟨g2, 0, none⟩) ∧ Aside0 (PartsAt w5 wx g1 g2 a1 b1 c1' (e - 1) a2 b2 c2' e))
          case first =>
            refine region_eq ops8 (by kernel_rfl) ?_
            refine play_region8 w.heap.size a b c e q f a1 b1 c1' a2 b2 c2' A1 c1g w5 _ _ HPC.out HB5.out ?hA ?h4 ?h9 ?h10 ?hs ?hend
            case hA =>
              have e : A1.add 1 = ⟨A1.block, A1.off + 1, none⟩ := by simp [Addr.add]
              rw [e]
              exact HF5.out
            case h4 => rfl
            case h9 => rfl
            case h10 => rfl
            case hs => rfl
            case hend =>
              intro vs g1 g2 wx hPA e9 e10
              have HPA := Aside0.mk hPA
              clear hPA
              simp only [puts, Act.put, e9, e10]
              go_simp
              go_wp2_with fail
              go_meet
              exact ⟨g1, g2, rfl, rfl, HPA⟩
          case rest =>
            obtain ⟨g1, g2, rfl, rfl, HPA⟩ := hcut
            have HBW := Aside0.mk (HPA.out.below)
            have HB6 := Aside0.mk ((HPA.out.below.block _ (lt_of_some HB5.out)).trans HB5.out)
            have HL6 := Aside0.mk ((HPA.out.below.block _ (lt_of_some HL5.out)).trans HL5.out)
            have HM6 := Aside0.mk (HM5.out.below HPA.out.below)
            have HG6 := Aside0.mk (grown_then_below HG5.out HPA.out.below)
            have HO6 := Aside0.mk (Kd.R_below HO5.out HPA.out.below)
            have hd0 : wc.cell? ⟨w3.heap.size, 2, none⟩ = some (.bool bb) := by rw [cell_of_row wc _ _ _ _ _ ((HPA.out.below.block _ (lt_of_some HD5.out)).trans HD5.out)]; rfl
            have hm1 : a + b + c - f + 1 ≤ a + b + c := by omega
            clear c0 c1 c2 c3 HO5 HM5 HG5 HB5 HL5 HD5 HC5 HF5
            obtain ⟨c0, c1, c2, c3⟩ := VilAt.of_heap HB6.out
            have f0 := blk_frozen HB6.out 0
            have f1 := blk_frozen HB6.out 1
            have f2 := blk_frozen HB6.out 2
            have f3 := blk_frozen HB6.out 3
            obtain ⟨p0, p1, p2, p3⟩ := VilAt.of_heap HPA.out.one
            obtain ⟨r0, r1, r2, r3⟩ := VilAt.of_heap HPA.out.two
            have lq := cnt_cell HL6.out hq0 hq3
            have lf := frozen_of_row wc w9.heap.size q.toNat _ _ HL6.out
            cases bb
            · clear p0 p1 p2 p3
              obtain ⟨W4, hW4⟩ : ∃ W4, (((wc.setCell ⟨w.heap.size, 0, none⟩ (.int .i64 a2)).setCell ⟨w.heap.size, 1, none⟩ (.int .i64 b2)).setCell ⟨w.heap.size, 2, none⟩ (.int .i64 c2')).setCell ⟨w.heap.size, 3, none⟩ (.int .i64 e) = W4 := ⟨_, rfl⟩
              have hs4 := set4_spec HB6.out (.int .i64 a2) (.int .i64 b2) (.int .i64 c2') (.int .i64 e)
              rw [hW4] at hs4
              have hne9 : w9.heap.size ≠ w.heap.size := by have := HSL.out; omega
              have hl4 := (hs4.2.block _ (lt_of_some HL6.out) (by simp; exact hne9)).trans HL6.out
              have lq4 := cnt_cell hl4 hq0 hq3
              have lf4 := frozen_of_row W4 w9.heap.size q.toNat _ _ hl4
              rw [← hW4] at lq4 lf4
              have HS4 := Aside0.mk hs4
              have HL4 := Aside0.mk hl4
              have HW4 := Aside0.mk hW4
              clear hs4 hl4 hW4 lq lf hne9
              go_wp2
              go_roundg k1
              case measure => omega
              case rel =>
                obtain ⟨e1, e2, e3⟩ := HS2.out
                have hs4 := HS4.out
                have hl4 := HL4.out
                have hw5 := low_set hl4 hq0 hq3 (xq + f)
                have hg5 : W4.grownBy (W4.setCell ⟨w9.heap.size, q.toNat, none⟩ (.int .i64 (xq + f))) (some w9.heap.size) := hw5.2
                rw [HW4.out]
                have hbl : ¬ rd br q < cnt x y z q + f := by rw [HXQ.out, HBK.out]; simpa using HBB.out
                have hpl := HPL.out
                rw [plays_whole (by rw [hnn]; exact h0) HGS.out hbl, HXQ.out, HNQ.out] at hpl
                obtain ⟨n1, n2, n3, n4, n5, n6, n7, n8, n9, n10⟩ := num_whole (N := 1125899906842624) (m := xs.length) (by omega) ⟨⟨ha1, hx1, hxa⟩, ⟨hb1, hy1, hyb⟩, ⟨hc1, hz1, hzc⟩, hn, he2, hbr, hbr1, hbr2, hK, hxs⟩ (by rw [hnn]; exact h0) hq0 hq3 hf1 (by rw [HNQ.out]; exact hf2) HGG.out hlen
                rw [HXQ.out, HNQ.out] at *
                have hsl := HSL.out
                have hgA := box_grown HG6.out hs4.2 (Nat.le_refl _)
                have hgB := box_grown hgA hg5 (by omega)
                exact ⟨_, _, _, _, _, _, _, xs ++ [⟨q, xq + f, false⟩], n1, n2, n3, n4, n5, n6, n7, n8, n9, by simpa using n10, ⟨by rw [List.append_assoc]; exact hpl⟩,
                  ⟨⟨Kd.R_grown (Kd.R_grown HO6.out hs4.2 (fun k hk he => by injection he; omega)) hg5 (fun k hk he => by injection he with he; exact hk.2 he), (HM6.out.step (hs4.2.block B (HM6.out.lt) (by simp; omega))).step (hg5.block B (Nat.lt_of_lt_of_le HM6.out.lt hs4.2.size) (by simp; exact Ne.symm hne)), hgB, (hg5.block _ (Nat.lt_of_lt_of_le (lt_of_some HB6.out) hs4.2.size) (by simp; omega)).trans (by rw [← e1, ← e2, ← e3]; exact hs4.1), hw5.1, HRW.out _ hgB⟩⟩⟩
            · clear r0 r1 r2 r3 lq lf
              go_wp2
              go_roundg k1
              case measure => omega
              case rel =>
                obtain ⟨rfl, rfl, rfl⟩ := HS1.out
                have hs4 := set4_spec HB6.out (.int .i64 (set3 a b c q (f - 1) 0)) (.int .i64 (set3 a b c q (f - 1) 1)) (.int .i64 (set3 a b c q (f - 1) 2)) (.int .i64 (e - 1))
                have hne9 : w9.heap.size ≠ w.heap.size := by have := HSL.out; omega
                have hl4 := (hs4.2.block _ (lt_of_some HL6.out) (by simp; exact hne9)).trans HL6.out
                have hbl : rd br q < cnt x y z q + f := by rw [HXQ.out, HBK.out]; simpa using HBB.out
                have hpl := HPL.out
                rw [plays_broken (by rw [hnn]; exact h0) HGS.out hbl, HXQ.out] at hpl
                obtain ⟨n1, n2, n3, n4, n5, n6, n7, n8, n9, n10⟩ := num_broken (N := 1125899906842624) (m := xs.length) (by omega) ⟨⟨ha1, hx1, hxa⟩, ⟨hb1, hy1, hyb⟩, ⟨hc1, hz1, hzc⟩, hn, he2, hbr, hbr1, hbr2, hK, hxs⟩ (by rw [hnn]; exact h0) hq0 hq3 hf1 (by rw [HNQ.out]; exact hf2) HGG.out hlen
                exact ⟨_, _, _, _, x, y, z, xs ++ [⟨q, xq + f, true⟩], n1, n2, n3, n4, n5, n6, n7, n8, n9, by simpa using n10, ⟨by rw [List.append_assoc]; exact hpl⟩,
                  ⟨⟨Kd.R_grown HO6.out hs4.2 (fun k hk he => by injection he; omega), HM6.out.step (hs4.2.block B (HM6.out.lt) (by simp; omega)), box_grown HG6.out hs4.2 (Nat.le_refl _), hs4.1, hl4, HRW.out _ (box_grown HG6.out hs4.2 (Nat.le_refl _))⟩⟩⟩

end Go.Proofs.Ytfemdpdnnifehaa.PH
