/- The statement of houser.play that parts the village: whatever order its operations come in. -/
import Derived.Test.YtfemdpdnnifehaaPHx0
import Derived.Test.YtfemdpdnnifehaaHGood2
import Derived.Test.YtfemdpdnnifehaaHReg
-- NEEDS HGood2
-- NEEDS HReg
import Derived.Laws.Rows
import Derived.Deep.MidRow
set_option linter.unusedVariables false
set_option linter.unusedSimpArgs false
namespace Go.Proofs.Ytfemdpdnnifehaa.PH
open Go.RowKit Go.Proofs.YtfemdpdnnifehaaW.PrintWords Go.Proofs.YtfemdpdnnifehaaW.PrintLast

noncomputable def ops8 : Array Oper := (Try.f48.body.bind (regionOf 8)).getD #[]

/-- A village in block g, from N on. -/
def VilV (N : Nat) (a b c e : Int) (v : Value) (W : World) : Prop := ∃ g, v = .pointer (some ⟨g, 0, none⟩) ∧ N ≤ g ∧ W.heap[g]? = some (.cells #[.int .i64 a, .int .i64 b, .int .i64 c, .int .i64 e] 62 (0, 0))
def FreshV (N : Nat) (v : Value) (W : World) : Prop := ∃ g, v = .pointer (some ⟨g, 0, none⟩) ∧ N ≤ g ∧ ∃ a b c e : Int, W.heap[g]? = some (.cells #[.int .i64 a, .int .i64 b, .int .i64 c, .int .i64 e] 62 (0, 0))

/-- What the statement with parts leaves. -/
structure PartsAt (w5 wx : World) (g1 g2 : Nat) (a1 b1 c1 e1 a2 b2 c2 e2 : Int) : Prop where
  below : Below w5.heap.size w5 wx
  lt1 : w5.heap.size ≤ g1
  lt2 : w5.heap.size ≤ g2
  one : wx.heap[g1]? = some (.cells #[.int .i64 a1, .int .i64 b1, .int .i64 c1, .int .i64 e1] 62 (0, 0))
  two : wx.heap[g2]? = some (.cells #[.int .i64 a2, .int .i64 b2, .int .i64 c2, .int .i64 e2] 62 (0, 0))

def P8 (N : Nat) (a b c e q f a1 b1 c1 a2 b2 c2 : Int) (A1 : Addr) (c1g : Nat) (i : Nat) (v : Value) (W : World) : Prop := match i with
  | 0 => v = Vl a b c e
  | 1 => v = .int .i64 q
  | 2 => v = .slice (some A1) 2 c1g
  | 3 => v = .pointer (some (A1.add 1))
  | 4 => v = .int .i64 f
  | 5 => v = .tuple #[Vl a1 b1 c1 (e - 1), Vl a2 b2 c2 e]
  | 6 => v = .tuple #[Vl a1 b1 c1 (e - 1), Vl a2 b2 c2 e]
  | 7 => v = Vl a1 b1 c1 (e - 1)
  | 8 => v = Vl a2 b2 c2 e
  | 9 => FreshV N v W
  | 10 => FreshV N v W
  | 11 => VilV N a1 b1 c1 (e - 1) v W
  | 12 => VilV N a2 b2 c2 e v W
  | _ => True
def A8 (i j : Nat) (u v : Value) : Prop := match i, j with
  | 9, 10 => u ≠ v
  | 10, 9 => u ≠ v
  | 9, 11 => u = v
  | 11, 9 => u = v
  | 10, 12 => u = v
  | 12, 10 => u = v
  | _, _ => True
theorem A8_sym (i j : Nat) (u v : Value) (h : A8 i j u v) : A8 j i v u := by
  unfold A8 at *
  split at h <;> first | exact h.symm | (split <;> first | trivial | simp_all)
theorem FreshV.below {N : Nat} {v : Value} {W W' : World} (h : FreshV N v W) (hb : Below W.heap.size W W') : FreshV N v W' := by
  obtain ⟨g, e, hN, a, b, c, d, hg⟩ := h
  exact ⟨g, e, hN, a, b, c, d, (hb.block g (lt_of_some hg)).trans hg⟩
theorem VilV.below {N : Nat} {a b c e : Int} {v : Value} {W W' : World} (h : VilV N a b c e v W) (hb : Below W.heap.size W W') : VilV N a b c e v W' := by
  obtain ⟨g, e, hN, hg⟩ := h
  exact ⟨g, e, hN, (hb.block g (lt_of_some hg)).trans hg⟩
theorem P8.below {N : Nat} {a b c e q f a1 b1 c1 a2 b2 c2 : Int} {A1 : Addr} {c1g : Nat} {i : Nat} {v : Value} {W W' : World} (hb : Below W.heap.size W W')
    (h : P8 N a b c e q f a1 b1 c1 a2 b2 c2 A1 c1g i v W) : P8 N a b c e q f a1 b1 c1 a2 b2 c2 A1 c1g i v W' := by
  unfold P8 at *
  split at h <;> first | exact h | exact FreshV.below h hb | exact VilV.below h hb

theorem P8.pure {N : Nat} {a b c e q f a1 b1 c1 a2 b2 c2 : Int} {A1 : Addr} {c1g : Nat} {i : Nat} {v : Value} {W W' : World} (hi : i < 9)
    (h : P8 N a b c e q f a1 b1 c1 a2 b2 c2 A1 c1g i v W) : P8 N a b c e q f a1 b1 c1 a2 b2 c2 A1 c1g i v W' := by
  unfold P8 at *
  split at h <;> first | exact h | omega
theorem below_grown {w W W' : World} {g : Nat} (hI : Below w.heap.size w W) (hg : W.grownBy W' (some g)) (hN : w.heap.size ≤ g) : Below w.heap.size w W' :=
  ⟨hg.os.trans hI.os, hg.tape.trans hI.tape, hg.output.trans hI.output, Nat.le_trans hI.size hg.size, fun k hk => (hg.block k (Nat.lt_of_lt_of_le hk hI.size) (fun e => by injection e with e; omega)).trans (hI.block k hk)⟩
theorem FreshV.far {N g : Nat} {v : Value} {W W' : World} (h : FreshV N v W) (hg : W.grownBy W' (some g)) (hne : Value.pointer (some ⟨g, 0, none⟩) ≠ v) : FreshV N v W' := by
  obtain ⟨k, e, hN, a, b, c, d, hk⟩ := h
  exact ⟨k, e, hN, a, b, c, d, (hg.block k (lt_of_some hk) (fun e2 => hne (by injection e2 with e2; rw [e, e2]))).trans hk⟩
theorem VilV.far {N g : Nat} {a b c d : Int} {v : Value} {W W' : World} (h : VilV N a b c d v W) (hg : W.grownBy W' (some g)) (hne : Value.pointer (some ⟨g, 0, none⟩) ≠ v) : VilV N a b c d v W' := by
  obtain ⟨k, e, hN, hk⟩ := h
  exact ⟨k, e, hN, (hg.block k (lt_of_some hk) (fun e2 => hne (by injection e2 with e2; rw [e, e2]))).trans hk⟩
theorem A8_11_9 (u : Value) : A8 11 9 u u := rfl
theorem A8_12_10 (u : Value) : A8 12 10 u u := rfl
theorem P8_9 {N : Nat} {a b c e q f a1 b1 c1 a2 b2 c2 : Int} {A1 : Addr} {c1g : Nat} {v : Value} {W : World} (h : FreshV N v W) : P8 N a b c e q f a1 b1 c1 a2 b2 c2 A1 c1g 9 v W := h
theorem P8_10 {N : Nat} {a b c e q f a1 b1 c1 a2 b2 c2 : Int} {A1 : Addr} {c1g : Nat} {v : Value} {W : World} (h : FreshV N v W) : P8 N a b c e q f a1 b1 c1 a2 b2 c2 A1 c1g 10 v W := h
theorem A8_f9 {j : Nat} {u v : Value} (h0 : j ≠ 10) (h1 : j ≠ 11) : A8 9 j u v := by
  unfold A8
  split <;> first | trivial | omega
theorem A8_f10 {j : Nat} {u v : Value} (h0 : j ≠ 9) (h1 : j ≠ 12) : A8 10 j u v := by
  unfold A8
  split <;> first | trivial | omega
theorem A8_f11 {j : Nat} {u v : Value} (h0 : j ≠ 9) : A8 11 j u v := by
  unfold A8
  split <;> first | trivial | omega
theorem A8_f12 {j : Nat} {u v : Value} (h0 : j ≠ 10) : A8 12 j u v := by
  unfold A8
  split <;> first | trivial | omega
theorem A8_of {i j : Nat} {u v : Value} (h : i < 9) : A8 i j u v := by
  unfold A8
  split <;> first | trivial | omega

set_option maxHeartbeats 200000 in
set_option maxRecDepth 100000 in
theorem play_region8 (bx : Nat) (a b c e q f a1 b1 c1 a2 b2 c2 : Int) (A1 : Addr) (c1g : Nat) (w : World) (A : Act) (Q : Exit → Act → World → Prop)
    (hc : ∀ W, Calls Try.prog 74 #[Vl a b c e, .int .i64 q, .int .i64 f] W fun r w' => r = .returned (.tuple #[Vl a1 b1 c1 (e - 1), Vl a2 b2 c2 e]) ∧ Below W.heap.size W w')
    (hbx : w.heap[bx]? = some (.cells #[.int .i64 a, .int .i64 b, .int .i64 c, .int .i64 e] 62 (0, 0))) (hA : w.cell? (A1.add 1) = some (.int .i64 f))
    (h4 : A.eval (.tmp 4) = .pointer (some ⟨bx, 0, none⟩)) (h9 : A.eval (.tmp 9) = .slice (some A1) 2 c1g) (h10 : A.eval (.tmp 10) = .int .i64 q) (hs : A.tmps.size = 66)
    (hend : ∀ (vs : Nat → Value) (g1 g2 : Nat) (wx : World), PartsAt w wx g1 g2 a1 b1 c1 (e - 1) a2 b2 c2 e → vs 9 = .pointer (some ⟨g1, 0, none⟩) → vs 10 = .pointer (some ⟨g2, 0, none⟩) →
      Q .normal (puts A [(0, 50), (1, 51), (2, 52), (3, 53), (4, 54), (5, 55), (6, 49), (7, 56), (8, 57), (9, 13), (10, 14)] vs) wx) :
    Code.wp Try.prog (Code.region 8 ops8 true) Q A w := by
  have hu := Try.underlying62
  have hn : ops8.size = 13 := by kernel_rfl
  have ev : ∀ (vs : Nat → Value) (i t : Nat), List.contains [(0, 50), (1, 51), (2, 52), (3, 53), (4, 54), (5, 55), (6, 49), (7, 56), (8, 57), (9, 13), (10, 14)] (i, t) = true → t < 66 → (puts A [(0, 50), (1, 51), (2, 52), (3, 53), (4, 54), (5, 55), (6, 49), (7, 56), (8, 57), (9, 13), (10, 14)] vs).eval (.tmp t) = vs i := fun vs i t h1 h2 => eval_puts_at A i t _ vs rfl h1 (by omega)
  refine wp_region_posts [(0, 50), (1, 51), (2, 52), (3, 53), (4, 54), (5, 55), (6, 49), (7, 56), (8, 57), (9, 13), (10, 14)] (fun W => Below w.heap.size w W)
    (P8 w.heap.size a b c e q f a1 b1 c1 a2 b2 c2 A1 c1g) A8 (by kernel_rfl) (by kernel_rfl) (by kernel_rfl) (by kernel_rfl) (by kernel_rfl) (below_drew (Below.refl _ _)) A8_sym ?hstep ?hend
  case hend =>
    intro vs W hI hp hap
    rw [hn] at hp hap
    have p11 := hp 11 (by decide)
    have p12 := hp 12 (by decide)
    have e1 : vs 9 = vs 11 := hap 9 11 (by decide) (by decide) (by decide)
    have e2 : vs 10 = vs 12 := hap 10 12 (by decide) (by decide) (by decide)
    obtain ⟨g1, v1, l1, x1⟩ := p11
    obtain ⟨g2, v2, l2, x2⟩ := p12
    exact hend vs g1 g2 W ⟨hI, l1, l2, x1, x2⟩ (e1.trans v1) (e2.trans v2)
  case hstep =>
    intro i oi ho
    have hlt : i < 13 := by rw [← hn]; exact (Array.getElem?_eq_some_iff.1 ho).1
    rw [hn]
    have hcases : i = 0 ∨ i = 1 ∨ i = 2 ∨ i = 3 ∨ i = 4 ∨ i = 5 ∨ i = 6 ∨ i = 7 ∨ i = 8 ∨ i = 9 ∨ i = 10 ∨ i = 11 ∨ i = 12 := by omega
    have o11 : ops8[11]? = ops8[11]? := rfl
    conv at o11 => { rhs; whnf; arg 1; whnf }
    have o12 : ops8[12]? = ops8[12]? := rfl
    conv at o12 => { rhs; whnf; arg 1; whnf }
    rcases hcases with rfl | rfl | rfl | rfl | rfl | rfl | rfl | rfl | rfl | rfl | rfl | rfl | rfl <;> (replace ho := Option.some.inj ho; conv at ho => { lhs; whnf }; subst ho; clear hlt)
    · refine RegStep.value 50 rfl (by simp) rfl ?_
      intro L vs W hL hall hI hp hap hcl
      exact OpWp.load_row rfl ((eval_puts_other _ 4 _ vs rfl).trans h4) ((hI.block bx (lt_of_some hbx)).trans hbx) hu rfl (by kernel_rfl) ⟨_, rfl, hI, rfl, fun j h _ hj => hp j h hj, fun j _ _ _ => A8_of (by decide)⟩
    · refine RegStep.value 51 rfl (by simp) rfl ?_
      intro L vs W hL hall hI hp hap hcl
      exact OpWp.move _ rfl ((eval_puts_other _ 10 _ vs rfl).trans h10) ⟨_, rfl, hI, rfl, fun j h _ hj => hp j h hj, fun j _ _ _ => A8_of (by decide)⟩
    · refine RegStep.value 52 rfl (by simp) rfl ?_
      intro L vs W hL hall hI hp hap hcl
      exact OpWp.move _ rfl ((eval_puts_other _ 9 _ vs rfl).trans h9) ⟨_, rfl, hI, rfl, fun j h _ hj => hp j h hj, fun j _ _ _ => A8_of (by decide)⟩
    · refine RegStep.value 53 rfl (by simp) rfl ?_
      intro L vs W hL hall hI hp hap hcl
      have e2 : vs 2 = .slice (some A1) 2 c1g := hp 2 (by decide) (hall ⟨2, .data⟩ (by simp) rfl)
      refine OpWp.value (.pointer (some (A1.add 1))) W ?_ ⟨_, rfl, hI, rfl, fun j h _ hj => hp j h hj, fun j _ _ _ => A8_of (by decide)⟩
      unfold execOp
      simp only [ev vs 2 52 rfl (by decide), e2]
      have hu22 := Try.underlying22
      go_simp
    · refine RegStep.value 54 rfl (by simp) rfl ?_
      intro L vs W hL hall hI hp hap hcl
      have e3 : vs 3 = .pointer (some (A1.add 1)) := hp 3 (by decide) (hall ⟨3, .data⟩ (by simp) rfl)
      have hAW := pw_cell_below hI hA
      refine OpWp.value (.int .i64 f) W ?_ ⟨_, rfl, hI, rfl, fun j h _ hj => hp j h hj, fun j _ _ _ => A8_of (by decide)⟩
      unfold execOp
      simp only [ev vs 3 53 rfl (by decide), e3]
      have hu3 := Try.underlying3
      clear e3 hA hp
      generalize A1.add 1 = B1 at *
      go_simp
    · refine RegStep.value 55 rfl (by simp) rfl ?_
      intro L vs W hL hall hI hp hap hcl
      have e0 : vs 0 = Vl a b c e := hp 0 (by decide) (hall ⟨0, .data⟩ (by simp) rfl)
      have e1 : vs 1 = .int .i64 q := hp 1 (by decide) (hall ⟨1, .data⟩ (by simp) rfl)
      have e4 : vs 4 = .int .i64 f := hp 4 (by decide) (hall ⟨4, .data⟩ (by simp) rfl)
      refine OpWp.enter 74 #[Vl a b c e, .int .i64 q, .int .i64 f] ?_ (hc W) ?_
      · unfold execOp resolve
        simp [ev vs 0 50 rfl (by decide), ev vs 1 51 rfl (by decide), ev vs 4 54 rfl (by decide), e0, e1, e4]
        kernel_rfl
      · rintro r w' ⟨rfl, hb⟩
        exact ⟨_, rfl, _, rfl, hI.trans (hb.mono hI.size), rfl, fun j h _ hj => P8.below hb (hp j h hj), fun j _ _ _ => A8_of (by decide)⟩
    · refine RegStep.value 49 rfl (by simp) rfl ?_
      intro L vs W hL hall hI hp hap hcl
      have e5 : vs 5 = .tuple #[Vl a1 b1 c1 (e - 1), Vl a2 b2 c2 e] := hp 5 (by decide) (hall ⟨5, .data⟩ (by simp) rfl)
      exact OpWp.move _ rfl ((ev vs 5 55 rfl (by decide)).trans e5) ⟨_, rfl, hI, rfl, fun j h _ hj => hp j h hj, fun j _ _ _ => A8_of (by decide)⟩
    · refine RegStep.value 56 rfl (by simp) rfl ?_
      intro L vs W hL hall hI hp hap hcl
      have e6 : vs 6 = .tuple #[Vl a1 b1 c1 (e - 1), Vl a2 b2 c2 e] := hp 6 (by decide) (hall ⟨6, .data⟩ (by simp) rfl)
      refine OpWp.value (Vl a1 b1 c1 (e - 1)) W ?_ ⟨_, rfl, hI, rfl, fun j h _ hj => hp j h hj, fun j _ _ _ => A8_of (by decide)⟩
      unfold execOp
      simp only [ev vs 6 49 rfl (by decide), e6]
      rfl
    · refine RegStep.value 57 rfl (by simp) rfl ?_
      intro L vs W hL hall hI hp hap hcl
      have e6 : vs 6 = .tuple #[Vl a1 b1 c1 (e - 1), Vl a2 b2 c2 e] := hp 6 (by decide) (hall ⟨6, .data⟩ (by simp) rfl)
      refine OpWp.value (Vl a2 b2 c2 e) W ?_ ⟨_, rfl, hI, rfl, fun j h _ hj => hp j h hj, fun j _ _ _ => A8_of (by decide)⟩
      unfold execOp
      simp only [ev vs 6 49 rfl (by decide), e6]
      rfl
    · refine RegStep.value 13 rfl (by simp) rfl ?_
      intro L vs W hL hall hI hp hap hcl
      refine OpWp.value (.pointer (some ⟨W.heap.size, 0, none⟩)) (W.alloc (.cells #[.int .i64 0, .int .i64 0, .int .i64 0, .int .i64 0] 62 (0, 0))) ?_ ⟨_, rfl, below_alloc hI _, ⟨_, rfl, hI.size, 0, 0, 0, 0, heap_alloc_new W _⟩, fun j h _ hj => P8.below (below_alloc (Below.refl _ _) _) (hp j h hj), fun j hj13 hj hLj => ?_⟩
      · kernel_rfl
      · by_cases h10 : j = 10
        · subst h10
          obtain ⟨g, e, _, _, _, _, _, hg⟩ : FreshV w.heap.size (vs 10) W := hp 10 (by decide) hLj
          intro he
          rw [e] at he
          simp at he
          have := lt_of_some hg
          omega
        · by_cases h11 : j = 11
          · subst h11
            have h9L := hcl 11 _ o11 hLj ⟨9, .data⟩ (by simp) rfl
            rw [hL] at h9L
            cases h9L
          · exact A8_f9 h10 h11
    · refine RegStep.value 14 rfl (by simp) rfl ?_
      intro L vs W hL hall hI hp hap hcl
      refine OpWp.value (.pointer (some ⟨W.heap.size, 0, none⟩)) (W.alloc (.cells #[.int .i64 0, .int .i64 0, .int .i64 0, .int .i64 0] 62 (0, 0))) ?_ ⟨_, rfl, below_alloc hI _, ⟨_, rfl, hI.size, 0, 0, 0, 0, heap_alloc_new W _⟩, fun j h _ hj => P8.below (below_alloc (Below.refl _ _) _) (hp j h hj), fun j hj13 hj hLj => ?_⟩
      · kernel_rfl
      · by_cases h10 : j = 9
        · subst h10
          obtain ⟨g, e, _, _, _, _, _, hg⟩ : FreshV w.heap.size (vs 9) W := hp 9 (by decide) hLj
          intro he
          rw [e] at he
          simp at he
          have := lt_of_some hg
          omega
        · by_cases h12 : j = 12
          · subst h12
            have h10L := hcl 12 _ o12 hLj ⟨10, .data⟩ (by simp) rfl
            rw [hL] at h10L
            cases h10L
          · exact A8_f10 h10 h12
    · refine RegStep.store rfl (by simp) ?_
      intro L vs W hL hall hI hp hap hcl
      have L7 := hall ⟨7, .data⟩ (by simp) rfl
      have L9 := hall ⟨9, .data⟩ (by simp) rfl
      have L10 := hall ⟨10, .phase⟩ (by simp) rfl
      have e7 : vs 7 = Vl a1 b1 c1 (e - 1) := hp 7 (by decide) L7
      obtain ⟨g, e9, hN, x1, x2, x3, x4, hg⟩ : FreshV w.heap.size (vs 9) W := hp 9 (by decide) L9
      have ea := (ev vs 9 13 rfl (by decide)).trans e9
      have eb := (ev vs 7 56 rfl (by decide)).trans e7
      refine OpWp.store_row (ty := 62) (x := .tmp 13) (y := .tmp 56) (g := g) (t := 62) (cs := #[.int .i64 x1, .int .i64 x2, .int .i64 x3, .int .i64 x4]) (news := #[.int .i64 a1, .int .i64 b1, .int .i64 c1, .int .i64 (e - 1)]) ?h1 ea eb hg ?h2 ?h3 ?h4 ?h5
      case h1 => rfl
      case h2 => rfl
      case h3 => kernel_rfl
      case h4 => simp [Value.oneCell']
      case h5 =>
        intro W' hg' hgr
        have q0 := below_grown hI hgr hN
        have q1 : P8 w.heap.size a b c e q f a1 b1 c1 a2 b2 c2 A1 c1g 11 (vs 9) W' := ⟨g, e9, hN, hg'⟩
        refine ⟨?q2, vs 9, q0, q1, fun j hj hne hLj => ?q3, fun j hj hne hLj => ?q4⟩
        case q2 => exact put_none _ _
        case q3 =>
          have hpj := hp j hj hLj
          by_cases h9 : j < 9
          · exact P8.pure h9 hpj
          · by_cases h9 : j = 9
            · subst h9
              exact P8_9 ⟨g, e9, hN, _, _, _, _, hg'⟩
            · by_cases h10 : j = 10
              · subst h10
                exact P8_10 (FreshV.far hpj hgr (by rw [← e9]; exact hap 9 10 (by decide) (by decide) (by decide) L9 L10))
              · have h12 : j = 12 := by omega
                subst h12
                have h11L := hcl 12 _ o12 hLj ⟨11, .phase⟩ (by simp) rfl
                rw [hL] at h11L
                cases h11L
        case q4 =>
          by_cases h9 : j = 9
          · subst h9; exact A8_11_9 _
          · exact A8_f11 h9
    · refine RegStep.store rfl (by simp) ?_
      intro L vs W hL hall hI hp hap hcl
      have L8 := hall ⟨8, .data⟩ (by simp) rfl
      have L9 := hall ⟨9, .phase⟩ (by simp) rfl
      have L10 := hall ⟨10, .data⟩ (by simp) rfl
      have L11 := hall ⟨11, .chain⟩ (by simp) rfl
      have e8 : vs 8 = Vl a2 b2 c2 e := hp 8 (by decide) L8
      have h9e : vs 9 = vs 11 := hap 9 11 (by decide) (by decide) (by decide) L9 L11
      have h9n : vs 9 ≠ vs 10 := hap 9 10 (by decide) (by decide) (by decide) L9 L10
      obtain ⟨g, e10, hN, x1, x2, x3, x4, hg⟩ : FreshV w.heap.size (vs 10) W := hp 10 (by decide) L10
      have ea := (ev vs 10 14 rfl (by decide)).trans e10
      have eb := (ev vs 8 57 rfl (by decide)).trans e8
      refine OpWp.store_row (ty := 62) (x := .tmp 14) (y := .tmp 57) (g := g) (t := 62) (cs := #[.int .i64 x1, .int .i64 x2, .int .i64 x3, .int .i64 x4]) (news := #[.int .i64 a2, .int .i64 b2, .int .i64 c2, .int .i64 e]) ?h1 ea eb hg ?h2 ?h3 ?h4 ?h5
      case h1 => rfl
      case h2 => rfl
      case h3 => kernel_rfl
      case h4 => simp [Value.oneCell']
      case h5 =>
        intro W' hg' hgr
        have q0 := below_grown hI hgr hN
        have q1 : P8 w.heap.size a b c e q f a1 b1 c1 a2 b2 c2 A1 c1g 12 (vs 10) W' := ⟨g, e10, hN, hg'⟩
        refine ⟨?q2, vs 10, q0, q1, fun j hj hne hLj => ?q3, fun j hj hne hLj => ?q4⟩
        case q2 => exact put_none _ _
        case q3 =>
          have hpj := hp j hj hLj
          by_cases h9 : j < 9
          · exact P8.pure h9 hpj
          · by_cases h9 : j = 9
            · subst h9
              exact P8_9 (FreshV.far hpj hgr (by rw [← e10]; exact h9n.symm))
            · by_cases h10 : j = 10
              · subst h10
                exact P8_10 ⟨g, e10, hN, _, _, _, _, hg'⟩
              · have h11 : j = 11 := by omega
                subst h11
                exact VilV.far hpj hgr (by rw [← e10, ← h9e]; exact h9n.symm)
        case q4 =>
          by_cases h9 : j = 10
          · subst h9; exact A8_12_10 _
          · exact A8_f12 h9
end Go.Proofs.Ytfemdpdnnifehaa.PH
