/- The statements' own lists: toIntS (with its room behind) and intactIntS (which looks into it). -/
import Derived.Test.YtfemdpdnnifehaaPHx0
import Derived.Test.YtfemdpdnnifehaaPHx8
import Derived.Test.YtfemdpdnnifehaaPHx13
import Derived.WalkKit
import Derived.Laws.MakeOwn
import Derived.Laws.Rows
import Derived.Deep.QuietTactic
import Derived.BigQuiet
set_option linter.unusedVariables false
set_option linter.unusedSimpArgs false
namespace Go.Proofs.Ytfemdpdnnifehaa.PH
open Go.RowKit Go.Proofs.YtfemdpdnnifehaaW.PrintWords Go.Proofs.YtfemdpdnnifehaaW.PrintLast

def room (n : Nat) : Nat := if n % 6 = 5 then 0 else if n % 3 = 0 then 1 else n
theorem room_le (n : Nat) : room n ≤ n + 1 := by unfold room; split; · omega
                                                 · split <;> omega
theorem room_some (n : Nat) : laws_roomBehind.f (n : Int) = some (room n : Int) := by
  unfold laws_roomBehind.f room
  have h6 : Int.tmod (n : Int) 6 = ((n % 6 : Nat) : Int) := by rw [Int.tmod_eq_emod_of_nonneg (by omega)]; rfl
  have h3 : Int.tmod (n : Int) 3 = ((n % 3 : Nat) : Int) := by rw [Int.tmod_eq_emod_of_nonneg (by omega)]; rfl
  rw [h6, h3]
  by_cases c6 : n % 6 = 5
  · rw [if_pos (by omega), if_pos c6]; rfl
  · rw [if_neg (by omega), if_neg c6]
    by_cases c3 : n % 3 = 0
    · rw [if_pos (by omega), if_pos c3]; rfl
    · rw [if_neg (by omega), if_neg c3]

def filler : Int := -7000000000000000101
/-- The list with its room behind. -/
def fullI (l : List Int) : List Int := l ++ List.replicate (room l.length) filler
theorem fullI_length (l : List Int) : (fullI l).length = l.length + room l.length := by simp [fullI]

theorem made_zero (n : Nat) : madeCells (Value.int .i64 0).cells n = (nums .i64 (List.replicate n 0)).toArray := by
  unfold madeCells
  refine Array.ext (by simp [nums]) fun j h1 h2 => ?_
  simp [nums, Value.cells, Nat.mod_one]

/-- A block of whole numbers. -/
def IntBlk (W : World) (g : Nat) (xs : List Int) : Prop := W.heap[g]? = some (.cells (nums .i64 xs).toArray 3 (0, 0))
theorem IntBlk.cell {W : World} {g : Nat} {xs : List Int} (h : IntBlk W g xs) (k : Nat) (hk : k < xs.length) : W.cell? ⟨g, k, none⟩ = some (.int .i64 (rd xs k)) := by
  rw [cell_of_row W g k _ _ _ h]
  simp [nums, rd, hk]
theorem IntBlk.set {W : World} {g : Nat} {xs : List Int} (h : IntBlk W g xs) (k : Nat) (v : Int) : IntBlk (W.setCell ⟨g, k, none⟩ (.int .i64 v)) g (xs.set k v) := by
  unfold IntBlk
  rw [heap_setCell_same W g k _ _ _ h]
  simp [nums, List.map_set]
theorem IntBlk.below {W W' : World} {g : Nat} {xs : List Int} (h : IntBlk W g xs) (hb : Below W.heap.size W W') : IntBlk W' g xs := (hb.block g (Array.getElem?_eq_some_iff.1 h).1).trans h
theorem IntBlk.reads {W : World} {g : Nat} {l xs : List Int} (h : IntBlk W g (l ++ xs)) (hl : l.length ≤ 9223372036854775807) : Kd.C (Kd.int .i64) W (some ⟨g, 0, none⟩) l.length l := by
  refine Kd.C_of_reads (d := (0 : Int)) (h1 := fun _ => rfl) ⟨rfl, hl, fun _ => ⟨_, rfl, fun j hj => ?_⟩⟩
  have e : (⟨g, 0, none⟩ : Addr).add j = ⟨g, j, none⟩ := by simp [Addr.add]; intro h; omega
  rw [e, h.cell j (by simp; omega)]
  simp [rd, List.getD_eq_getElem?_getD, List.getElem?_append, hj]

set_option maxHeartbeats 1000000 in
set_option maxRecDepth 100000 in
theorem toIntS_false (A0 : Option Addr) (c0 : Nat) (l0 : List Int) (w : World) (hr0 : Kd.C (Kd.int .i64) w A0 l0.length l0) (hn : l0.length ≤ 1000000) :
    Calls Try.prog 9 #[.slice A0 l0.length c0, .bool false] w fun e w' => ∃ g, e = .returned (.slice (some ⟨g, 0, none⟩) l0.length (fullI l0).length) ∧ w.heap.size ≤ g ∧ IntBlk w' g (fullI l0) ∧ Below w.heap.size w w' := by
  have HR := Aside0.mk hr0
  clear hr0
  obtain ⟨m, hm⟩ : ∃ m, room l0.length = m := ⟨_, rfl⟩
  have hm1 : m ≤ 1000001 := by have := room_le l0.length; omega
  have hroom := room_some l0.length
  rw [hm] at hroom
  have HROOM := Aside0.mk hroom
  have HM := Aside0.mk hm
  clear hroom hm
  obtain ⟨i0, hi, hzz⟩ := Option.map_eq_some_iff.1 (show (Try.prog.info? 3).map (fun i => (i.zero, i.size, i.bytes)) = some (some (.int .i64 0), 1, 8) by kernel_rfl)
  simp only [Prod.mk.injEq] at hzz
  obtain ⟨hz0, hz1, hz2⟩ := hzz
  have hmk : ∀ W, (Instr.makeSlice 22 (.int .i64 ((l0.length : Int) + m)) (.int .i64 ((l0.length : Int) + m))).run Try.prog W = .ok (.slice (some ⟨W.heap.size, 0, none⟩) (l0.length + m) (l0.length + m)) (W.alloc (.cells (nums .i64 (List.replicate (l0.length + m) 0)).toArray 3 (0, 0))) := fun W => by
    rw [run_makeSlice (P := Try.prog) (w := W) 22 3 i0 (.int .i64 0) Try.underlying22 hi hz0 .i64 .i64 _ _ (by omega) (by omega) (by rw [hz1]; omega) (by rw [hz2]; omega) (by omega), hz1, Nat.mul_one, show ((l0.length : Int) + m).toNat = l0.length + m by omega, made_zero]
  clear hi hz0 hz1 hz2
  go_enter Try.func9, Try.ntmps9
  go_wp2_with (first
    | (go_at_call 40; (with_reducible refine (laws_roomBehind.calls (l0.length : Int) (m : Int) _ HROOM.out).mono ?_); rintro e w' ⟨rfl, ⟨nd, rfl⟩⟩))
  have HB0 : Aside0 (Below w.heap.size w (w.drewN nd)) := ⟨pw_below_drewN (Below.refl _ _) _⟩
  have HK0 : Aside0 (IntBlk ((w.drewN nd).alloc (.cells (nums .i64 (List.replicate (l0.length + m) 0)).toArray 3 (0, 0))) w.heap.size (List.replicate (l0.length + m) 0)) := ⟨heap_alloc_new (w.drewN nd) _⟩
  go_loopw [6] (fun i wr => ∃ k : Nat, k ≤ l0.length ∧ i = .int .i64 k ∧ Aside0 (IntBlk wr w.heap.size (l0.take k ++ List.replicate (l0.length + m - k) 0)) ∧ Aside0 (Below w.heap.size w wr)) (fun i _ => l0.length - (intOf i).toNat)
  case atStart => exact ⟨0, by omega, rfl, ⟨by simpa using HK0.out⟩, ⟨below_alloc HB0.out _⟩⟩
  case round =>
    clear HB0 HK0
    obtain ⟨k, hk, rfl, HK, HB⟩ := hrel
    by_cases hlt : k < l0.length
    · have hlen : (l0.take k ++ List.replicate (l0.length + m - k) (0 : Int)).length = l0.length + m := by simp; omega
      obtain ⟨ad, ea, hcell⟩ := Kd.at_int (Kd.C_below HR.out HB.out) (k : Int) (by omega) (by omega)
      subst ea
      obtain ⟨v, hv⟩ : ∃ v, rd l0 (k : Int) = v := ⟨_, rfl⟩
      rw [hv] at hcell
      have hcell' : wr.cell? (ad.add k) = some (.int .i64 v) := by simpa using hcell
      have hc5 := HK.out.cell k (by rw [hlen]; omega)
      have hf5 := frozen_of_row wr w.heap.size k _ _ HK.out
      have HV := Aside0.mk hv
      have hb := decide_eq_true hlt
      have hnx : Aside0 ((l0.take k ++ List.replicate (l0.length + m - k) (0 : Int)).set k v = l0.take (k + 1) ++ List.replicate (l0.length + m - (k + 1)) 0) := ⟨by
        rw [← hv]
        rw [List.set_append_right _ _ (by simp; omega), List.take_add_one, List.append_assoc]
        congr 1
        have h1 : l0[k]?.toList = [rd l0 (k : Int)] := by simp [rd, hlt]
        rw [h1, show (k - (l0.take k).length) = 0 by simp; omega, show l0.length + m - k = (l0.length + m - (k + 1)) + 1 by omega, List.replicate_succ]
        rfl⟩
      clear hcell hlen hv
      go_wp2
      go_roundw
      case rel => exact ⟨k + 1, by omega, by go_num, ⟨by rw [← hnx.out]; exact HK.out.set k v⟩, ⟨HB.out.setCell (Nat.le_refl _) _⟩⟩
      case measure => simp [intOf]; omega
    · obtain rfl : k = l0.length := by omega
      have hb := decide_eq_false hlt
      have HK1 : Aside0 (IntBlk wr w.heap.size (l0 ++ (List.replicate 0 filler ++ List.replicate m 0))) := ⟨by
        have h := HK.out
        rw [List.take_length, show l0.length + m - l0.length = m by omega] at h
        simpa using h⟩
      clear HK
      go_wp2
      obtain ⟨wo, rfl⟩ : ∃ wo : World, wo = wr := ⟨_, rfl⟩
      go_loopw [7] (fun i wr => ∃ k : Nat, k ≤ m ∧ i = .int .i64 ((l0.length : Int) + k) ∧ Aside0 (IntBlk wr w.heap.size (l0 ++ (List.replicate k filler ++ List.replicate (m - k) 0))) ∧ Aside0 (Below w.heap.size w wr)) (fun i _ => l0.length + m - (intOf i).toNat)
      case atStart => exact ⟨0, by omega, by simp, ⟨HK1.out⟩, HB⟩
      case round =>
        clear HB HK1
        obtain ⟨k, hk, rfl, HK, HB⟩ := hrel
        by_cases hlt2 : k < m
        · have hlen : (l0 ++ (List.replicate k filler ++ List.replicate (m - k) (0 : Int))).length = l0.length + m := by simp; omega
          have hc5 := HK.out.cell (l0.length + k) (by rw [hlen]; omega)
          have hf5 := frozen_of_row wr w.heap.size (l0.length + k) _ _ HK.out
          have hb1 : decide ((l0.length : Int) + k < (l0.length : Int) + m) = true := decide_eq_true (by omega)
          have hb2 : decide (l0.length + k < l0.length + m) = true := decide_eq_true (by omega)
          have hnx : Aside0 ((l0 ++ (List.replicate k filler ++ List.replicate (m - k) (0 : Int))).set (l0.length + k) filler = l0 ++ (List.replicate (k + 1) filler ++ List.replicate (m - (k + 1)) 0)) := ⟨by
            rw [List.set_append_right _ _ (by omega), show l0.length + k - l0.length = k by omega, List.set_append_right _ _ (by simp), List.length_replicate, Nat.sub_self, show m - k = (m - (k + 1)) + 1 by omega, List.replicate_succ, List.set_cons_zero, List.replicate_succ', List.append_assoc]
            rfl⟩
          have htn : ((l0.length : Int) + k).toNat = l0.length + k := by omega
          clear hlen
          go_wp2
          go_roundw
          case rel => exact ⟨k + 1, by omega, by go_num, ⟨by rw [← hnx.out]; exact HK.out.set _ filler⟩, ⟨HB.out.setCell (Nat.le_refl _) _⟩⟩
          case measure => simp [intOf]; omega
        · obtain rfl : k = m := by omega
          have hb1 : decide ((l0.length : Int) + k < (l0.length : Int) + k) = false := decide_eq_false (by omega)
          have hb2 : decide (l0.length + k < l0.length + k) = false := decide_eq_false (by omega)
          go_wp2
          go_ret
          refine ⟨w.heap.size, ?_, Nat.le_refl _, ?_, HB.out⟩
          · rw [fullI_length, HM.out]
            rfl
          · have h := HK.out
            rw [Nat.sub_self] at h
            unfold fullI
            rw [HM.out]
            simpa using h

set_option maxHeartbeats 1000000 in
set_option maxRecDepth 100000 in
theorem toIntS_true (A0 : Option Addr) (c0 : Nat) (l0 : List Int) (w : World) (hr0 : Kd.C (Kd.int .i64) w A0 l0.length l0) (hn : l0.length ≤ 1000000) (h1 : 0 < l0.length) :
    Calls Try.prog 9 #[.slice A0 l0.length c0, .bool true] w fun e w' => ∃ g, e = .returned (.slice (some ⟨g, 0, none⟩) l0.length (fullI l0).length) ∧ w.heap.size ≤ g ∧ IntBlk w' g (fullI l0) ∧ Below w.heap.size w w' := by
  have HR := Aside0.mk hr0
  clear hr0
  obtain ⟨m, hm⟩ : ∃ m, room l0.length = m := ⟨_, rfl⟩
  have hm1 : m ≤ 1000001 := by have := room_le l0.length; omega
  have hroom := room_some l0.length
  rw [hm] at hroom
  have HROOM := Aside0.mk hroom
  have HM := Aside0.mk hm
  clear hroom hm
  obtain ⟨i0, hi, hzz⟩ := Option.map_eq_some_iff.1 (show (Try.prog.info? 3).map (fun i => (i.zero, i.size, i.bytes)) = some (some (.int .i64 0), 1, 8) by kernel_rfl)
  simp only [Prod.mk.injEq] at hzz
  obtain ⟨hz0, hz1, hz2⟩ := hzz
  have hmk : ∀ W, (Instr.makeSlice 22 (.int .i64 ((l0.length : Int) + m)) (.int .i64 ((l0.length : Int) + m))).run Try.prog W = .ok (.slice (some ⟨W.heap.size, 0, none⟩) (l0.length + m) (l0.length + m)) (W.alloc (.cells (nums .i64 (List.replicate (l0.length + m) 0)).toArray 3 (0, 0))) := fun W => by
    rw [run_makeSlice (P := Try.prog) (w := W) 22 3 i0 (.int .i64 0) Try.underlying22 hi hz0 .i64 .i64 _ _ (by omega) (by omega) (by rw [hz1]; omega) (by rw [hz2]; omega) (by omega), hz1, Nat.mul_one, show ((l0.length : Int) + m).toNat = l0.length + m by omega, made_zero]
  clear hi hz0 hz1 hz2
  have he1 : ((l0.length : Int) == 0) = false := beq_eq_false_iff_ne.mpr (by omega)
  have he2 : (l0.length == 0) = false := beq_eq_false_iff_ne.mpr (by omega)
  go_enter Try.func9, Try.ntmps9
  go_wp2_with (first
    | (go_at_call 40; (with_reducible refine (laws_roomBehind.calls (l0.length : Int) (m : Int) _ HROOM.out).mono ?_); rintro e w' ⟨rfl, ⟨nd, rfl⟩⟩))
  have HB0 : Aside0 (Below w.heap.size w (w.drewN nd)) := ⟨pw_below_drewN (Below.refl _ _) _⟩
  have HK0 : Aside0 (IntBlk ((w.drewN nd).alloc (.cells (nums .i64 (List.replicate (l0.length + m) 0)).toArray 3 (0, 0))) w.heap.size (List.replicate (l0.length + m) 0)) := ⟨heap_alloc_new (w.drewN nd) _⟩
  go_loopw [6] (fun i wr => ∃ k : Nat, k ≤ l0.length ∧ i = .int .i64 k ∧ Aside0 (IntBlk wr w.heap.size (l0.take k ++ List.replicate (l0.length + m - k) 0)) ∧ Aside0 (Below w.heap.size w wr)) (fun i _ => l0.length - (intOf i).toNat)
  case atStart => exact ⟨0, by omega, rfl, ⟨by simpa using HK0.out⟩, ⟨below_alloc HB0.out _⟩⟩
  case round =>
    clear HB0 HK0
    obtain ⟨k, hk, rfl, HK, HB⟩ := hrel
    by_cases hlt : k < l0.length
    · have hlen : (l0.take k ++ List.replicate (l0.length + m - k) (0 : Int)).length = l0.length + m := by simp; omega
      obtain ⟨ad, ea, hcell⟩ := Kd.at_int (Kd.C_below HR.out HB.out) (k : Int) (by omega) (by omega)
      subst ea
      obtain ⟨v, hv⟩ : ∃ v, rd l0 (k : Int) = v := ⟨_, rfl⟩
      rw [hv] at hcell
      have hcell' : wr.cell? (ad.add k) = some (.int .i64 v) := by simpa using hcell
      have hc5 := HK.out.cell k (by rw [hlen]; omega)
      have hf5 := frozen_of_row wr w.heap.size k _ _ HK.out
      have HV := Aside0.mk hv
      have hb := decide_eq_true hlt
      have hnx : Aside0 ((l0.take k ++ List.replicate (l0.length + m - k) (0 : Int)).set k v = l0.take (k + 1) ++ List.replicate (l0.length + m - (k + 1)) 0) := ⟨by
        rw [← hv]
        rw [List.set_append_right _ _ (by simp; omega), List.take_add_one, List.append_assoc]
        congr 1
        have h1 : l0[k]?.toList = [rd l0 (k : Int)] := by simp [rd, hlt]
        rw [h1, show (k - (l0.take k).length) = 0 by simp; omega, show l0.length + m - k = (l0.length + m - (k + 1)) + 1 by omega, List.replicate_succ]
        rfl⟩
      clear hcell hlen hv
      go_wp2
      go_roundw
      case rel => exact ⟨k + 1, by omega, by go_num, ⟨by rw [← hnx.out]; exact HK.out.set k v⟩, ⟨HB.out.setCell (Nat.le_refl _) _⟩⟩
      case measure => simp [intOf]; omega
    · obtain rfl : k = l0.length := by omega
      have hb := decide_eq_false hlt
      have HK1 : Aside0 (IntBlk wr w.heap.size (l0 ++ (List.replicate 0 filler ++ List.replicate m 0))) := ⟨by
        have h := HK.out
        rw [List.take_length, show l0.length + m - l0.length = m by omega] at h
        simpa using h⟩
      clear HK
      go_wp2
      obtain ⟨wo, rfl⟩ : ∃ wo : World, wo = wr := ⟨_, rfl⟩
      go_loopw [7] (fun i wr => ∃ k : Nat, k ≤ m ∧ i = .int .i64 ((l0.length : Int) + k) ∧ Aside0 (IntBlk wr w.heap.size (l0 ++ (List.replicate k filler ++ List.replicate (m - k) 0))) ∧ Aside0 (Below w.heap.size w wr)) (fun i _ => l0.length + m - (intOf i).toNat)
      case atStart => exact ⟨0, by omega, by simp, ⟨HK1.out⟩, HB⟩
      case round =>
        clear HB HK1
        obtain ⟨k, hk, rfl, HK, HB⟩ := hrel
        by_cases hlt2 : k < m
        · have hlen : (l0 ++ (List.replicate k filler ++ List.replicate (m - k) (0 : Int))).length = l0.length + m := by simp; omega
          have hc5 := HK.out.cell (l0.length + k) (by rw [hlen]; omega)
          have hf5 := frozen_of_row wr w.heap.size (l0.length + k) _ _ HK.out
          have hb1 : decide ((l0.length : Int) + k < (l0.length : Int) + m) = true := decide_eq_true (by omega)
          have hb2 : decide (l0.length + k < l0.length + m) = true := decide_eq_true (by omega)
          have hnx : Aside0 ((l0 ++ (List.replicate k filler ++ List.replicate (m - k) (0 : Int))).set (l0.length + k) filler = l0 ++ (List.replicate (k + 1) filler ++ List.replicate (m - (k + 1)) 0)) := ⟨by
            rw [List.set_append_right _ _ (by omega), show l0.length + k - l0.length = k by omega, List.set_append_right _ _ (by simp), List.length_replicate, Nat.sub_self, show m - k = (m - (k + 1)) + 1 by omega, List.replicate_succ, List.set_cons_zero, List.replicate_succ', List.append_assoc]
            rfl⟩
          have htn : ((l0.length : Int) + k).toNat = l0.length + k := by omega
          clear hlen
          go_wp2
          go_roundw
          case rel => exact ⟨k + 1, by omega, by go_num, ⟨by rw [← hnx.out]; exact HK.out.set _ filler⟩, ⟨HB.out.setCell (Nat.le_refl _) _⟩⟩
          case measure => simp [intOf]; omega
        · obtain rfl : k = m := by omega
          have hb1 : decide ((l0.length : Int) + k < (l0.length : Int) + k) = false := decide_eq_false (by omega)
          have hb2 : decide (l0.length + k < l0.length + k) = false := decide_eq_false (by omega)
          go_wp2
          go_ret
          refine ⟨w.heap.size, ?_, Nat.le_refl _, ?_, HB.out⟩
          · rw [fullI_length, HM.out]
            rfl
          · have h := HK.out
            rw [Nat.sub_self] at h
            unfold fullI
            rw [HM.out]
            simpa using h

set_option maxRecDepth 100000 in
theorem toIntS_nil (A0 : Option Addr) (c0 : Nat) (w : World) :
    Calls Try.prog 9 #[.slice A0 0 c0, .bool true] w fun e w' => e = .returned (.slice none 0 0) ∧ w = w' := by
  go_enter Try.func9, Try.ntmps9
  go_wp2
  go_ret
  exact ⟨rfl, rfl⟩

/-- What toIntS leaves: a list of its own, as it was, or nil for none. -/
theorem toIntS_bare (A0 : Option Addr) (c0 : Nat) (l0 : List Int) (w : World) (hr0 : Kd.C (Kd.int .i64) w A0 l0.length l0) (hn : l0.length ≤ 1000000) :
    Calls Try.prog 9 #[.slice A0 l0.length c0, .bool true] w fun e w' => ∃ A c, e = .returned (.slice A l0.length c) ∧ l0.length ≤ c ∧ Kd.C (Kd.int .i64) w' A l0.length l0 ∧ Below w.heap.size w w' := by
  by_cases h : 0 < l0.length
  · refine (toIntS_true A0 c0 l0 w hr0 hn h).mono ?_
    rintro e w' ⟨g, rfl, hg, hb, hbl⟩
    exact ⟨_, _, rfl, by rw [fullI_length]; omega, IntBlk.reads (xs := List.replicate (room l0.length) filler) hb (by omega), hbl⟩
  · have h0 : l0 = [] := List.length_eq_zero_iff.1 (by omega)
    subst h0
    refine (toIntS_nil A0 c0 w).mono ?_
    rintro e w' ⟨rfl, rfl⟩
    exact ⟨none, 0, rfl, by simp, Kd.C_nil _ _, Below.refl _ _⟩

end Go.Proofs.Ytfemdpdnnifehaa.PH

set_option linter.unusedVariables false
set_option linter.unusedSimpArgs false
namespace Go.Proofs.Ytfemdpdnnifehaa.PH
open Go.RowKit Go.Proofs.YtfemdpdnnifehaaW.PrintWords Go.Proofs.YtfemdpdnnifehaaW.PrintLast

theorem eqIntS_self (l : List Int) (hl : l.length ≤ 100000000) : Ev (fun k => laws_eqIntS.f k l l) true := by
  have key : ∀ (d i : Nat), i + d = l.length → Ev (fun k => laws_eqIntS.l0 k l l i) true := by
    intro d
    induction d with
    | zero =>
      intro i hi
      refine ⟨1, fun k hk => ?_⟩
      obtain ⟨k, rfl⟩ : ∃ m, k = m + 1 := ⟨k - 1, by omega⟩
      simp only [laws_eqIntS.l0]
      rw [if_neg (by omega)]
    | succ d ih =>
      intro i hi
      refine Ev.step (fun k => ?_) (ih (i + 1) (by omega))
      have e : wrap64 ((i : Int) + 1) = ((i + 1 : Nat) : Int) := by unfold wrap64; omega
      simp only [laws_eqIntS.l0]
      rw [if_pos (by omega), if_pos (by omega), if_pos (by omega), if_pos trivial, e]
  refine Ev.congr (fun k => ?_) (key l.length 0 (by omega))
  unfold laws_eqIntS.f
  rw [if_pos rfl]
  rfl

set_option maxHeartbeats 1000000 in
set_option maxRecDepth 100000 in
theorem intact_true (l : List Int) (g1 g2 : Nat) (w : World) (h1 : IntBlk w g1 (fullI l)) (h2 : IntBlk w g2 (fullI l)) (hn : l.length ≤ 1000000) :
    Calls Try.prog 11 #[.slice (some ⟨g1, 0, none⟩) l.length (fullI l).length, .slice (some ⟨g2, 0, none⟩) l.length (fullI l).length] w fun e w' => e = .returned (.bool true) ∧ Drawn0 w w' := by
  have hfl := fullI_length l
  have hrl := room_le l.length
  have HEQ : Aside0 (∀ n0 n, Calls Try.prog 41 #[.slice (some ⟨g1, 0, none⟩) (fullI l).length (fullI l).length, .slice (some ⟨g2, 0, none⟩) (fullI l).length (fullI l).length] ((w.drewN n0).drewN n) fun e w' => e = .returned (.bool true) ∧ ∃ m, w' = ((w.drewN n0).drewN n).drewN m) := ⟨fun n0 n => by
    obtain ⟨k, hk⟩ := Ev.rounds (eqIntS_self (fullI l) (by omega))
    refine (laws_eqIntS.calls k _ _ (fullI l) _ _ (fullI l) true ((w.drewN n0).drewN n) (Kd.C_drewN (Kd.C_drewN (IntBlk.reads (xs := []) (by rw [List.append_nil]; exact h1) (by omega)) n0) n) (Nat.le_refl _) (Kd.C_drewN (Kd.C_drewN (IntBlk.reads (xs := []) (by rw [List.append_nil]; exact h2) (by omega)) n0) n) (Nat.le_refl _) hk).mono ?_
    rintro e w' ⟨rfl, ⟨hd⟩⟩
    exact ⟨rfl, hd⟩⟩
  obtain ⟨m, hm⟩ : ∃ m, room l.length = m := ⟨_, rfl⟩
  have hroom := room_some l.length
  rw [hm] at hroom hrl hfl
  have HROOM := Aside0.mk hroom
  rw [hfl] at HEQ ⊢
  clear hroom hm h1 h2 hfl
  have hs1 : 0 ≤ (l.length : Int) + m := by omega
  have hs2 : ((l.length : Int) + m).toNat = l.length + m := by omega
  go_enter Try.func11, Try.ntmps11
  go_wp2_with (first
    | (go_at_call 40; (with_reducible refine (laws_roomBehind.calls (l.length : Int) (m : Int) _ HROOM.out).mono ?_); rintro e w' ⟨rfl, ⟨nd, rfl⟩⟩))
  have HEQ1 : Aside0 (∀ n, Calls Try.prog 41 #[.slice (some ⟨g1, 0, none⟩) (l.length + m) (l.length + m), .slice (some ⟨g2, 0, none⟩) (l.length + m) (l.length + m)] ((w.drewN nd).drewN n) fun e w' => e = .returned (.bool true) ∧ ∃ m, w' = ((w.drewN nd).drewN n).drewN m) := ⟨fun n => HEQ.out nd n⟩
  obtain ⟨w1, hw1⟩ : ∃ w1, w.drewN nd = w1 := ⟨_, rfl⟩
  rw [hw1] at HEQ1 ⊢
  have HW1 := Aside0.mk hw1
  clear hw1 HEQ
  go_quiet ((go_at_call 41; exact Calls.quiet_of (HEQ1.out _)))
  go_wp2
  go_ret
  exact ⟨rfl, ⟨⟨nd + nq, by rw [← HW1.out, World.drewN_drewN]⟩⟩⟩

end Go.Proofs.Ytfemdpdnnifehaa.PH
