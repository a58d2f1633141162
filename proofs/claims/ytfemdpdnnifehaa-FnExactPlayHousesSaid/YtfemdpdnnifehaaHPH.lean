/- impl: PlayHouses, told by numbers. -/
import Derived.Test.YtfemdpdnnifehaaPHx0
import Derived.Test.YtfemdpdnnifehaaPHx11
import Derived.Test.YtfemdpdnnifehaaPHx12
import Derived.Test.YtfemdpdnnifehaaHAskd
import Derived.Test.YtfemdpdnnifehaaHGood
import Derived.Test.YtfemdpdnnifehaaHPlay
-- NEEDS HAskd
-- NEEDS HGood
-- NEEDS HPlay
set_option linter.unusedVariables false
set_option linter.unusedSimpArgs false
namespace Go.Proofs.Ytfemdpdnnifehaa.PH
open Go.RowKit Go.Proofs.YtfemdpdnnifehaaW.PrintWords Go.Proofs.YtfemdpdnnifehaaW.PrintLast

def impl_PlayHouses.f (a0 : Int) (l1 l2 : List Int) : Option (List S51 × Bool) := some (phAns a0 l1 l2)

theorem mapOk_new (L : Int → Int → Int → Int → Int) (w : World) : MapOk L (w.alloc (.map #[] 0)) w.heap.size :=
  ⟨#[], 0, heap_alloc_new w _, fun x hx => by simp at hx⟩

theorem below_of_grown_new {w W W' : World} (hb : Below w.heap.size w W) (hg : W.grownBy W' (some w.heap.size)) : Below w.heap.size w W' :=
  ⟨hg.os.trans hb.os, hg.tape.trans hb.tape, hg.output.trans hb.output, Nat.le_trans hb.size hg.size, fun k hk => (hg.block k (Nat.lt_of_lt_of_le hk hb.size) (fun e => by injection e with e; omega)).trans (hb.block k hk)⟩

set_option maxHeartbeats 400000 in
set_option maxRecDepth 100000 in
theorem impl_PlayHouses.calls (a0 : Int) (A1 : Option Addr) (c1 : Nat) (l1 : List Int) (A2 : Option Addr) (c2 : Nat) (l2 : List Int) (r1 : List S51) (r2 : Bool) (w : World) (hr1 : Kd.C (Kd.int .i64) w A1 l1.length l1) (hc1 : l1.length ≤ c1) (hr2 : Kd.C (Kd.int .i64) w A2 l2.length l2) (hc2 : l2.length ≤ c2) (h : impl_PlayHouses.f a0 l1 l2 = some (r1, r2)) :
    Calls Try.prog 15 #[.int .i64 a0, .slice A1 l1.length c1, .slice A2 l2.length c2] w fun e w' => ∃ v0_ : Value, e = .returned (.tuple #[v0_, .bool r2]) ∧ Kd.R k51 51 w' w.heap.size (fun _ => True) v0_ r1 ∧ Below w.heap.size w w' := by
  have hp : phAns a0 l1 l2 = (r1, r2) := Option.some.inj h
  clear h
  have hS : ∀ W b, askB a0 l1 = b → Kd.C (Kd.int .i64) W A1 l1.length l1 → Calls Try.prog 46 #[.int .i64 a0, .slice A1 l1.length c1] W fun e w' => e = .returned (.bool b) ∧ Drawn0 W w' := fun W b hb hW => by
    obtain ⟨k, hk⟩ := Ev.rounds (isStocked_ev a0 l1)
    rw [hb] at hk
    exact impl_isStocked.calls k a0 A1 c1 l1 b W hW hc1 hk
  have hB : ∀ W b, brkB l1 l2 = b → l1.length ≤ 3 → Kd.C (Kd.int .i64) W A1 l1.length l1 → Kd.C (Kd.int .i64) W A2 l2.length l2 → Calls Try.prog 47 #[.slice A1 l1.length c1, .slice A2 l2.length c2] W fun e w' => e = .returned (.bool b) ∧ Drawn0 W w' := fun W b hb h3 hW hW2 => by
    obtain ⟨k, hk⟩ := Ev.rounds (areBreaks_ev l1 l2 (fun h => by omega))
    rw [hb] at hk
    exact impl_areBreaks.calls k A1 c1 l1 A2 c2 l2 b W hW hc1 hW2 hc2 hk
  have HR1 := Aside0.mk hr1
  have HR2 := Aside0.mk hr2
  have HS := Aside0.mk hS
  have HB := Aside0.mk hB
  clear hr1 hr2 hS hB
  have HC1 := Aside0.mk hc1
  have HC2 := Aside0.mk hc2
  clear hc1 hc2
  by_cases ha : askB a0 l1 = true
  · have hA := Aside0.mk ha
    have h3 : Aside0 (l1.length ≤ 3) := ⟨(VL_of_good (by simp only [askB, Bool.and_eq_true] at ha; exact ha.1)).1.2⟩
    by_cases hb : brkB l1 l2 = true
    · have hbb := Aside0.mk hb
      have hp2 : Aside0 (r1 = playsOf 1125899906842624 a0 l1 l2 ∧ r2 = true) := ⟨by rw [phAns, if_pos (by rw [ha, hb]; rfl)] at hp; injection hp with h1 h2; exact ⟨h1.symm, h2.symm⟩⟩
      obtain ⟨hv, hbl, he6, hn, hnum⟩ := ask_num ha hb
      obtain ⟨_, _, _, _, _, k0, k1, k2, kk, _⟩ := hnum
      have K0 := Aside0.mk k0
      have K1 := Aside0.mk k1
      have K2 := Aside0.mk k2
      have KK := Aside0.mk kk
      clear k0 k1 k2 kk
      have r0 := hv.val 0
      have r1' := hv.val 1
      have r2' := hv.val 2
      have hv1 : 1 ≤ l1.length := hv.1.1
      have HV := Aside0.mk hv
      have HN := Aside0.mk hn
      clear hp ha hb hv hn hbl
      obtain ⟨e1, e2⟩ := hp2.out
      subst e2
      have HE1 := Aside0.mk e1
      clear e1 hp2
      have hmm : ∀ W, (Instr.makeMap 58 none).run Try.prog W = .ok (.map (some W.heap.size)) (W.alloc (.map #[] 0)) := fun _ => rfl
      go_enter Try.func15, Try.ntmps15
      go_wp2_with (first
        | (go_at_call 46; (with_reducible refine (HS.out _ true hA.out HR1.out).mono ?_); rintro e w' ⟨rfl, ⟨nd1, rfl⟩⟩)
        | (go_at_call 47; (with_reducible refine (HB.out _ true hbb.out h3.out (Kd.C_drewN HR1.out _) (Kd.C_drewN HR2.out _)).mono ?_); rintro e w' ⟨rfl, ⟨nd2, rfl⟩⟩)
        | (go_at_call 49; (with_reducible refine (villageOf_any a0 A1 c1 l1 _ ?vr hv1 h3.out).mono ?_); (case vr => ((with_reducible repeat (first | apply Kd.C_alloc | apply Kd.C_drewN)); exact HR1.out)); rintro e w2 ⟨rfl, hb2⟩; have HM := Aside0.mk (show MapOk LI w2 w.heap.size from (mapOk_new LI (w.drewN (nd1 + nd2))).below hb2); have HBW := Aside0.mk (show Below w.heap.size w w2 from below_then (below_alloc (pw_below_drewN (Below.refl _ _) _) _) (by simp) hb2); clear hb2)
        | (go_at_call 48; (with_reducible refine (play_all w.heap.size (rd l1 0) (rd l1 1) (rd l1 2) a0 A2 c2 l2 25 w2 r0.1 r0.2 r1'.1 r1'.2 r2'.1 r2'.2 HN.out he6 HM.out (Kd.C_below HR2.out HBW.out) HC2.out K0.out K1.out K2.out KK.out).mono ?_); rintro e w3 ⟨v, rfl, hpa⟩; have HPA := Aside0.mk hpa; clear hpa))
      go_ret2
      refine ⟨_, rfl, ?_, below_of_grown_new HBW.out HPA.out.grown⟩
      rw [HE1.out]
      exact Kd.R_mono (Kd.R_lower HPA.out.rows HBW.out.size) (fun _ _ => trivial)
    · have hb' : brkB l1 l2 = false := by simpa using hb
      have hbb := Aside0.mk hb'
      have hp2 : Aside0 (r1 = [] ∧ r2 = false) := ⟨by rw [phAns, if_neg (by rw [ha, hb']; decide)] at hp; injection hp with h1 h2; exact ⟨h1.symm, h2.symm⟩⟩
      clear hp ha hb hb'
      obtain ⟨e1, e2⟩ := hp2.out
      subst e1 e2
      clear hp2
      go_enter Try.func15, Try.ntmps15
      go_wp2_with (first
        | (go_at_call 46; (with_reducible refine (HS.out _ true hA.out HR1.out).mono ?_); rintro e w' ⟨rfl, ⟨nd1, rfl⟩⟩)
        | (go_at_call 47; (with_reducible refine (HB.out _ false hbb.out h3.out (Kd.C_drewN HR1.out _) (Kd.C_drewN HR2.out _)).mono ?_); rintro e w' ⟨rfl, ⟨nd2, rfl⟩⟩))
      go_ret2
      exact ⟨_, ⟨rfl, Kd.R_nil _ _ _ _ _, pw_below_drewN (Below.refl _ _) _⟩⟩
  · have ha' : askB a0 l1 = false := by simpa using ha
    have hA := Aside0.mk ha'
    have hp2 : Aside0 (r1 = [] ∧ r2 = false) := ⟨by rw [phAns, if_neg (by rw [ha']; simp)] at hp; injection hp with h1 h2; exact ⟨h1.symm, h2.symm⟩⟩
    clear hp ha ha' HB
    obtain ⟨e1, e2⟩ := hp2.out
    subst e1 e2
    clear hp2
    go_enter Try.func15, Try.ntmps15
    go_wp2_with (first
      | (go_at_call 46; (with_reducible refine (HS.out _ false hA.out HR1.out).mono ?_); rintro e w' ⟨rfl, ⟨nd1, rfl⟩⟩))
    go_ret2
    exact ⟨_, ⟨rfl, Kd.R_nil _ _ _ _ _, pw_below_drewN (Below.refl _ _) _⟩⟩

end Go.Proofs.Ytfemdpdnnifehaa.PH
