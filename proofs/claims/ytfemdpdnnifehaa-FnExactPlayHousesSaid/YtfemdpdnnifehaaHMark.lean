/- Marks laid into drops and lists, and held: told by numbers. -/
import Derived.Test.YtfemdpdnnifehaaPHx0
import Derived.Test.YtfemdpdnnifehaaPHx17
import Derived.Test.YtfemdpdnnifehaaPHx18
import Derived.Test.YtfemdpdnnifehaaPHx19
import Derived.Test.YtfemdpdnnifehaaPHx20
import Derived.Test.YtfemdpdnnifehaaHIntc
import Derived.Test.YtfemdpdnnifehaaHAskd
-- NEEDS HIntc
-- NEEDS HAskd
set_option linter.unusedVariables false
set_option linter.unusedSimpArgs false
namespace Go.Proofs.Ytfemdpdnnifehaa.PH
open Go.RowKit Go.Proofs.YtfemdpdnnifehaaW.PrintWords Go.Proofs.YtfemdpdnnifehaaW.PrintLast

theorem phAns_short (a0 : Int) (l1 l2 : List Int) : (phAns a0 l1 l2).1.length ≤ 24 := by
  unfold phAns
  split
  · rename_i h
    simp only [Bool.and_eq_true] at h
    obtain ⟨hv, _, _, _, hnum⟩ := ask_num h.1 h.2
    have hl := plays_length (N := 1125899906842624) (by omega) _ _ _ _ _ _ _ _ _ _ hnum
    have r0 := hv.val 0
    have r1 := hv.val 1
    have r2 := hv.val 2
    show (playsOf 1125899906842624 a0 l1 l2).length ≤ 24
    unfold playsOf
    omega
  · simp

theorem eqDrop_self (x : S51) : laws_eqHouseDrop.f x.f0 x.f1 x.f2 x.f0 x.f1 x.f2 = some true := by
  unfold laws_eqHouseDrop.f
  rw [if_pos rfl, if_pos rfl, if_neg (by simp)]
theorem eqDrops_ev (xs : List S51) (hx : xs.length ≤ 1000) : Ev (fun k => laws_eqHouseDropS.f k xs xs) true := by
  have key : ∀ (d i : Nat), i + d = xs.length → Ev (fun k => laws_eqHouseDropS.l0 k xs xs i) true := by
    intro d
    induction d with
    | zero =>
      intro i hi
      refine ⟨1, fun k hk => ?_⟩
      obtain ⟨k, rfl⟩ : ∃ m, k = m + 1 := ⟨k - 1, by omega⟩
      simp only [laws_eqHouseDropS.l0]
      rw [if_neg (by omega)]
    | succ d ih =>
      intro i hi
      refine Ev.step (fun k => ?_) (ih (i + 1) (by omega))
      have e : wrap64 ((i : Int) + 1) = ((i + 1 : Nat) : Int) := by unfold wrap64; omega
      simp only [laws_eqHouseDropS.l0]
      rw [if_pos (by omega), if_pos (by omega), if_pos (by omega), eqDrop_self, e]
      rfl
  refine Ev.congr (fun k => ?_) (key xs.length 0 (by omega))
  unfold laws_eqHouseDropS.f
  rw [if_pos rfl]
  rfl
theorem eqDrops_true (xs : List S51) (hx : xs.length ≤ 24) (W : World) (A : Option Addr) (c : Nat) (A' : Option Addr) (c' : Nat) (h1 : Kd.C k51 W A xs.length xs) (hc1 : xs.length ≤ c) (h2 : Kd.C k51 W A' xs.length xs) (hc2 : xs.length ≤ c') :
    Calls Try.prog 16 #[.slice A xs.length c, .slice A' xs.length c'] W fun e w' => e = .returned (.bool true) ∧ Below W.heap.size W w' := by
  obtain ⟨k, hk⟩ := Ev.rounds (eqDrops_ev xs (by omega))
  exact laws_eqHouseDropS.calls k A c xs A' c' xs true W h1 hc1 h2 hc2 hk

/-- Whole numbers are marked: some mark behind them, not below nought. -/
theorem markInts_ev : ∀ (d i : Nat) (l : List Int) (x : Int), i + d = l.length → l.length ≤ 10000000 → 0 ≤ x → x + d ≤ 1000000000 → ∃ m ys, Ev (fun k => laws_markIntS.l0 k l x i) (m, ys) ∧ m = x + d := by
  intro d
  induction d with
  | zero =>
    intro i l x hi hl h0 h1
    refine ⟨x, l, ⟨1, fun k hk => ?_⟩, by omega⟩
    obtain ⟨k, rfl⟩ : ∃ m, k = m + 1 := ⟨k - 1, by omega⟩
    simp only [laws_markIntS.l0]
    rw [if_neg (by omega)]
  | succ d ih =>
    intro i l x hi hl h0 h1
    obtain ⟨m, ys, h, hm⟩ := ih (i + 1) (l.set i x) (x + 1) (by simp; omega) (by simp; omega) (by omega) (by omega)
    refine ⟨m, ys, Ev.step (fun k => ?_) h, by omega⟩
    simp only [laws_markIntS.l0]
    have e : wrap64 ((i : Int) + 1) = ((i + 1 : Nat) : Int) := by unfold wrap64; omega
    rw [if_pos (by omega), if_pos (by omega), e, w64 (x := x + 1) (by omega) (by omega), Int.toNat_natCast]

theorem IntBlk.row {W : World} {g base : Nat} {l xs : List Int} (h : IntBlk W g (l ++ xs)) (hb : base ≤ g) (hl : (l ++ xs).length ≤ 9000000) : Kd.R (Kd.int .i64) 3 W base (fun k => k = g) (.slice (some ⟨g, 0, none⟩) l.length (l ++ xs).length) l := by
  refine ⟨fun k hk => by simp [Value.ownBlock] at hk; exact hk.symm, nums .i64 l, ⟨by simp [nums, Kd.int, Kd.scalar], .inr ⟨g, (l ++ xs).length, (nums .i64 (l ++ xs)).toArray, rfl, hb, h, by simp, by unfold maxLen; omega, by simp [nums, Kd.int, Kd.scalar], by simp [nums, Kd.int, Kd.scalar]⟩⟩, ?_⟩
  refine ⟨by simp [nums, Kd.int, Kd.scalar], fun j p hp => ?_⟩
  obtain ⟨hj, e⟩ := List.getElem?_eq_some_iff.1 hp
  have e1 : ((nums .i64 l).drop (j * (Kd.int .i64).sz)).take (Kd.int .i64).sz = [.int .i64 p] := by
    show ((nums .i64 l).drop (j * 1)).take 1 = _
    rw [Nat.mul_one, List.drop_eq_getElem_cons (by simpa [nums] using hj)]
    simp [nums, e]
  rw [e1]
  rfl

theorem grown_of_kept {w0 W w' : World} {P : Nat → Prop} {g : Nat} (hB : Below w0.heap.size w0 W) (hB' : Below w0.heap.size w0 w') (hk : Kept W w' P) (hP : ∀ k, P k → k = g) : W.grownBy w' (some g) :=
  ⟨hB'.os.trans hB.os.symm, hB'.tape.trans hB.tape.symm, hB'.output.trans hB.output.symm, hk.1, fun k hk1 hne => hk.2 k hk1 (fun hp => hne (by rw [hP k hp]))⟩
/-- A mark laid into a list of the statement's own: nothing turns but its block. -/
theorem markIntS_told (w0 : World) (l xs : List Int) (g : Nat) (x : Int) (W : World) (hB : Below w0.heap.size w0 W) (hg : w0.heap.size ≤ g) (h : IntBlk W g (l ++ xs)) (hl : (l ++ xs).length ≤ 9000000) (h0 : 0 ≤ x) (h1 : x ≤ 100000000) :
    Calls Try.prog 17 #[.slice (some ⟨g, 0, none⟩) l.length (l ++ xs).length, .int .i64 x] W fun e w' => e = .returned (.int .i64 (x + l.length)) ∧ W.grownBy w' (some g) ∧ Below w0.heap.size w0 w' := by
  have hl2 : l.length ≤ 9000000 := by rw [List.length_append] at hl; omega
  obtain ⟨m, ys, hm, e⟩ := markInts_ev l.length 0 l x (by omega) (by omega) h0 (by omega)
  obtain ⟨k, hk⟩ := Ev.rounds hm
  refine (laws_markIntS.calls k (fun k => k = g) _ l x m ys w0 W hB (IntBlk.row h hg hl) hk).mono ?_
  rintro e' w' ⟨rfl, _, hb, hkp⟩
  exact ⟨by rw [e], grown_of_kept hB hb hkp (fun _ h => h), hb⟩

theorem markFull (w0 : World) (l : List Int) (g : Nat) (x : Int) (W : World) (hB : Below w0.heap.size w0 W) (hg : w0.heap.size ≤ g) (h : IntBlk W g (fullI l)) (hl : l.length ≤ 1000000) (h0 : 0 ≤ x) (h1 : x ≤ 100000000) :
    Calls Try.prog 17 #[.slice (some ⟨g, 0, none⟩) l.length (fullI l).length, .int .i64 x] W fun e w' => e = .returned (.int .i64 (x + l.length)) ∧ W.grownBy w' (some g) ∧ Below w0.heap.size w0 w' :=
  markIntS_told w0 l (List.replicate (room l.length) filler) g x W hB hg h (by have := fullI_length l; have := room_le l.length; unfold fullI at *; omega) h0 h1
theorem IntBlk.grown {W W' : World} {g g' : Nat} {xs : List Int} (h : IntBlk W g xs) (hg : W.grownBy W' (some g')) (hne : g ≠ g') : IntBlk W' g xs :=
  (hg.block g (Array.getElem?_eq_some_iff.1 h).1 (fun e => hne (by injection e))).trans h
theorem IntBlk.lt {W : World} {g : Nat} {xs : List Int} (h : IntBlk W g xs) : g < W.heap.size := (Array.getElem?_eq_some_iff.1 h).1

/-- Drops are marked, and the marks are held. -/
theorem markDrops_ev : ∀ (d i : Nat) (xs : List S51) (x : Int), i + d = xs.length → xs.length ≤ 1000 → 0 ≤ x → x + 3 * d ≤ 1000000000 →
    ∃ ys, Ev (fun k => laws_markHouseDropS.l0 k xs x i) (x + 3 * d, ys) ∧ ys.length = xs.length ∧ (∀ j : Nat, j < i → rd_T51 ys j = rd_T51 xs j) ∧ Ev (fun k => laws_heldHouseDropS.l0 k ys x i) (x + 3 * d) := by
  intro d
  induction d with
  | zero =>
    intro i xs x hi hl h0 h1
    refine ⟨xs, ⟨1, fun k hk => ?_⟩, rfl, fun j hj => rfl, ⟨1, fun k hk => ?_⟩⟩
    · obtain ⟨k, rfl⟩ : ∃ m, k = m + 1 := ⟨k - 1, by omega⟩
      simp only [laws_markHouseDropS.l0]
      rw [if_neg (by omega)]
      simp
    · obtain ⟨k, rfl⟩ : ∃ m, k = m + 1 := ⟨k - 1, by omega⟩
      simp only [laws_heldHouseDropS.l0]
      rw [if_neg (by omega)]
      simp
  | succ d ih =>
    intro i xs x hi hl h0 h1
    have e : wrap64 ((i : Int) + 1) = ((i + 1 : Nat) : Int) := by unfold wrap64; omega
    have w1 : wrap64 (x + 1) = x + 1 := w64 (by omega) (by omega)
    have w2 : wrap64 (x + 1 + 1) = x + 1 + 1 := w64 (by omega) (by omega)
    have w3 : wrap64 (x + 1 + 1 + 1) = x + 3 := by rw [w64 (by omega) (by omega)]; omega
    obtain ⟨ys, h2, h3, h4, h5⟩ := ih (i + 1) (xs.set i ⟨x, x + 1, (Int.tmod (x + 1 + 1) 3) == 0⟩) (x + 3) (by simp; omega) (by simp; omega) (by omega) (by omega)
    have ei : rd_T51 ys i = ⟨x, x + 1, (Int.tmod (x + 1 + 1) 3) == 0⟩ := by
      rw [h4 i (by omega)]
      simp [rd_T51, List.getD_eq_getElem?_getD, List.getElem?_set, show i < xs.length by omega]
    have ex : x + 3 + 3 * (d : Int) = x + 3 * ((d + 1 : Nat) : Int) := by omega
    rw [ex] at h2 h5
    refine ⟨ys, Ev.step (fun k => ?_) h2, by simpa using h3, fun j hj => ?_, Ev.step (fun k => ?_) h5⟩
    · simp only [laws_markHouseDropS.l0]
      rw [if_pos (by omega), if_pos (by omega)]
      simp only [Option.bind_some, Int.toNat_natCast, w1, w2, w3, e]
      congr 1
      simp [rd_T51, List.getD_eq_getElem?_getD, List.getElem?_set, show i < xs.length by omega, List.set_set]
    · rw [h4 j (by omega)]
      simp [rd_T51, List.getD_eq_getElem?_getD, List.getElem?_set, show i ≠ j by omega]
    · have h3' : ys.length = xs.length := by simpa using h3
      simp only [laws_heldHouseDropS.l0]
      rw [if_pos (by omega), if_pos (by omega), ei]
      simp only [w1, w2, w3, e, if_true, bne_self_eq_false, Bool.false_eq_true, if_false]

/-- Drops of the answer are marked: nothing turns but their block. -/
theorem markDrops_told (w0 : World) (xs : List S51) (hx : xs.length ≤ 24) (v : Value) (W : World) (hB : Below w0.heap.size w0 W) (h : Kd.R k51 51 W w0.heap.size (fun k => v.ownBlock = some k) v xs) :
    ∃ (m : Int) (ys : List S51), 0 ≤ m ∧ ys.length = xs.length ∧
      Calls Try.prog 18 #[v, .int .i64 101] W (fun e w' => e = .returned (.int .i64 m) ∧ Kd.R k51 51 w' w0.heap.size (fun _ => True) v ys ∧ Below w0.heap.size w0 w' ∧ W.grownBy w' v.ownBlock) ∧
      (∀ W A c, Kd.C k51 W A ys.length ys → xs.length ≤ c → Calls Try.prog 19 #[.slice A xs.length c, .int .i64 101] W fun e w' => e = .returned (.int .i64 m) ∧ Drawn0 W w') := by
  obtain ⟨ys, h1, h2, _, h3⟩ := markDrops_ev xs.length 0 xs 101 (by omega) (by omega) (by omega) (by omega)
  obtain ⟨k, hk⟩ := Ev.rounds h1
  obtain ⟨k2, hk2⟩ := Ev.rounds h3
  refine ⟨101 + 3 * (xs.length : Int), ys, by omega, h2, ?_, fun W A c hc hl => ?_⟩
  · refine (laws_markHouseDropS.calls k _ v xs 101 _ ys w0 W hB h hk).mono ?_
    rintro e w' ⟨rfl, hr, hb, hkp⟩
    exact ⟨rfl, Kd.R_mono hr (fun _ _ => trivial), hb, ⟨hb.os.trans hB.os.symm, hb.tape.trans hB.tape.symm, hb.output.trans hB.output.symm, hkp.1, fun k hk1 hne => hkp.2 k hk1 (fun hp => hne hp.symm)⟩⟩
  · have hh := laws_heldHouseDropS.calls k2 A c ys 101 _ W hc (by omega) hk2
    rw [h2] at hh
    exact hh

end Go.Proofs.Ytfemdpdnnifehaa.PH
