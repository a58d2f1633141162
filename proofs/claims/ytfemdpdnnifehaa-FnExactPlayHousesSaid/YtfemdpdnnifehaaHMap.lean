/- The map of houser: its keys compared, looked up and written, for keys of four whole numbers. -/
import Derived.Test.YtfemdpdnnifehaaPHx0
set_option linter.unusedVariables false
set_option linter.unusedSimpArgs false
namespace Go.Proofs.Ytfemdpdnnifehaa.PH
open Go.RowKit Go.Proofs.YtfemdpdnnifehaaW.PrintWords Go.Proofs.YtfemdpdnnifehaaW.PrintLast

/-- A village as a value. -/
abbrev Vl (a b c e : Int) : Value := .agg #[.int .i64 a, .int .i64 b, .int .i64 c, .int .i64 e]

theorem run_setObj_m {P : Program} {w : World} {r : Nat} {es : Array MapEntry} {clock : Nat} (o : Obj) (hb : w.heap[r]? = some (.map es clock)) : (setObj r o).run P w = .ok () { w with heap := w.heap.setIfInBounds r o } := by
  simp [setObj, Sem.run, hb]

theorem eq_arr3 (d : Nat) (w : World) (x0 y0 x1 y1 x2 y2 : Int) :
    (Op.equalIn (d + 2) 60 (.agg #[.int .i64 x0, .int .i64 x1, .int .i64 x2]) (.agg #[.int .i64 y0, .int .i64 y1, .int .i64 y2])).run Try.prog w = .ok (x0 == y0 && (x1 == y1 && x2 == y2)) w := by
  have hu := Try.underlying60
  have hs : ∀ w, (sizeOf 3).run Try.prog w = .ok 1 w := fun w => by kernel_rfl
  unfold Op.equalIn
  go_simp
  have hi : ∀ w, (isAgg 3).run Try.prog w = .ok false w := fun w => by kernel_rfl
  have he : ∀ (a b : Int) w, (Op.equalIn (d + 1) 3 (.int .i64 a) (.int .i64 b)).run Try.prog w = .ok (a == b) w := fun a b w => by
    have hu3 := Try.underlying3
    unfold Op.equalIn
    go_simp
  rw [show List.range' 0 3 = [0, 1, 2] from rfl]
  by_cases h0 : x0 = y0 <;> by_cases h1 : x1 = y1 <;> by_cases h2 : x2 = y2 <;> simp [List.forIn_cons, hi, he, h0, h1, h2]

theorem eq_village (w : World) (a b c e a' b' c' e' : Int) :
    (Op.equal 62 (Vl a b c e) (Vl a' b' c' e')).run Try.prog w = .ok ((a == a' && (b == b' && c == c')) && (e == e')) w := by
  unfold Op.equal Op.maxDepth
  refine eqA_of (d := 9999) Try.underlying62 (by kernel_rfl) ?_
  refine eqf_cons (a := .agg #[.int .i64 a, .int .i64 b, .int .i64 c]) (b := .agg #[.int .i64 a', .int .i64 b', .int .i64 c']) (by rfl) (by kernel_rfl) (by kernel_rfl) (eq_arr3 9997 w a a' b b' c c') ?_
  refine eqf_last (by rfl) (a := .int .i64 e) (b := .int .i64 e') (by go_simp) (by go_simp) (by go_simp)

theorem check_village (em : Bool) (w : World) (a b c e : Int) : (Instr.checkKey em 10000 62 (Vl a b c e)).run Try.prog w = .ok () w := by
  cases em <;> kernel_rfl

/-- Each entry's key is a village; its value is what L says of it. -/
def Entries (L : Int → Int → Int → Int → Int) (es : List MapEntry) : Prop := ∀ x ∈ es, ∃ a b c e, x.key = Vl a b c e ∧ x.val = .int .i64 (L a b c e)
/-- Block B is such a map. -/
def MapOk (L : Int → Int → Int → Int → Int) (w : World) (B : Nat) : Prop := ∃ es clock, w.heap[B]? = some (.map es clock) ∧ Entries L es.toList

theorem find_village (L : Int → Int → Int → Int → Int) (w : World) (a b c e : Int) : ∀ (es : List MapEntry) (i : Nat), Entries L es →
    (Instr.findAsking 62 (Vl a b c e) es i).run Try.prog w = .ok none w ∨
    ∃ j x, es[j]? = some x ∧ x.key = Vl a b c e ∧ (Instr.findAsking 62 (Vl a b c e) es i).run Try.prog w = .ok (some (i + j, .int .i64 (L a b c e))) w := by
  intro es
  induction es with
  | nil => intro i _; left; simp [Instr.findAsking]
  | cons x xs ih =>
    intro i h
    obtain ⟨a', b', c', e', hk, hv⟩ := h x (by simp)
    unfold Instr.findAsking
    simp only [Sem.run_bind, hk, eq_village, Result.andThen_ok]
    by_cases heq : a = a' ∧ b = b' ∧ c = c' ∧ e = e'
    · obtain ⟨rfl, rfl, rfl, rfl⟩ := heq
      right
      refine ⟨0, x, by simp, hk, ?_⟩
      simp [hv]
    · have hf : ((a == a' && (b == b' && c == c')) && (e == e')) = false := by
        rw [Bool.eq_false_iff]
        intro ht
        apply heq
        simpa [and_assoc] using ht
      rw [hf]
      simp only [Bool.false_eq_true, if_false]
      rcases ih (i + 1) (fun y hy => h y (by simp [hy])) with h1 | ⟨j, y, h1, h2, h3⟩
      · left; exact h1
      · right
        refine ⟨j + 1, y, by simpa using h1, h2, ?_⟩
        rw [h3]
        congr 3
        omega

theorem findKey_village (L : Int → Int → Int → Int → Int) (w : World) (a b c e : Int) (es : List MapEntry) (h : Entries L es) :
    (Instr.findKey 62 (Vl a b c e) es).run Try.prog w = .ok none w ∨
    ∃ j x, es[j]? = some x ∧ x.key = Vl a b c e ∧ (Instr.findKey 62 (Vl a b c e) es).run Try.prog w = .ok (some (j, .int .i64 (L a b c e))) w := by
  unfold Instr.findKey
  rw [Sem.run_bind, run_underlying Try.underlying62, Result.andThen_ok]
  cases es with
  | nil => left; simp [Instr.findNow]
  | cons x xs =>
    obtain ⟨a', b', c', e', hk, hv⟩ := h x (by simp)
    simp only [Instr.findNow, hk, Instr.sameNow]
    have := find_village L w a b c e (x :: xs) 0 h
    simpa using this

/-- The look-up: it tells what L says, or that there is none. -/
theorem lookup_village {L : Int → Int → Int → Int → Int} {w : World} {B : Nat} (h : MapOk L w B) (a b c e : Int) :
    ∃ v ok, (Instr.lookup 58 (.map (some B)) (Vl a b c e) true).run Try.prog w = .ok (.tuple #[.int .i64 v, .bool ok]) w ∧ (ok = true → v = L a b c e) := by
  obtain ⟨es, clock, hb, hes⟩ := h
  have hu : (underlying 58).run Try.prog w = .ok (.map 62 3) w := run_underlying Try.underlying58 w
  have hg : (getObj B).run Try.prog w = .ok (.map es clock) w := by simp [getObj, Sem.run, hb]
  have hz : (zeroValue 3).run Try.prog w = .ok (.int .i64 0) w := by kernel_rfl
  rcases findKey_village L w a b c e es.toList hes with h1 | ⟨j, x, h2, h3, h1⟩
  · refine ⟨0, false, ?_, by simp⟩
    unfold Instr.lookup
    simp [hu, hg, check_village, h1, hz]
  · refine ⟨L a b c e, true, ?_, fun _ => rfl⟩
    unfold Instr.lookup
    simp [hu, hg, check_village, h1]

/-- The store of what L says: nothing turns but the map's own block. -/
theorem update_village {L : Int → Int → Int → Int → Int} {w : World} {B : Nat} (h : MapOk L w B) (a b c e : Int) :
    ∃ w', (Instr.mapUpdate 58 (.map (some B)) (Vl a b c e) (.int .i64 (L a b c e))).run Try.prog w = .ok () w' ∧ MapOk L w' B ∧ w.grownBy w' (some B) := by
  obtain ⟨es, clock, hb, hes⟩ := h
  have hu : (underlying 58).run Try.prog w = .ok (.map 62 3) w := run_underlying Try.underlying58 w
  have hg : (getObj B).run Try.prog w = .ok (.map es clock) w := by simp [getObj, Sem.run, hb]
  have hlt : B < w.heap.size := (Array.getElem?_eq_some_iff.1 hb).1
  have grow : ∀ o : Obj, w.grownBy { w with heap := w.heap.setIfInBounds B o } (some B) := fun o =>
    ⟨rfl, rfl, rfl, by simp, fun k _ hk => by
      have hne : B ≠ k := fun h => hk (by rw [h])
      show (w.heap.setIfInBounds B o)[k]? = w.heap[k]?
      rw [Array.getElem?_setIfInBounds_ne hne]⟩
  have at_ : ∀ (es' : Array MapEntry) (c' : Nat), ({ w with heap := w.heap.setIfInBounds B (.map es' c') } : World).heap[B]? = some (.map es' c') := fun es' c' => by
    show (w.heap.setIfInBounds B _)[B]? = _
    rw [Array.getElem?_setIfInBounds_self_of_lt hlt]
  rcases findKey_village L w a b c e es.toList hes with h1 | ⟨j, x, h2, h3, h1⟩
  · refine ⟨{ w with heap := w.heap.setIfInBounds B (.map (es.push { key := Vl a b c e, val := .int .i64 (L a b c e), born := clock }) (clock + 1)) }, ?_, ⟨_, _, at_ _ _, ?_⟩, grow _⟩
    · unfold Instr.mapUpdate
      have hs := run_setObj_m (P := Try.prog) (.map (es.push { key := Vl a b c e, val := .int .i64 (L a b c e), born := clock }) (clock + 1)) hb
      simp [hu, hg, check_village, h1, hs]
    · intro y hy
      rw [Array.toList_push, List.mem_append] at hy
      rcases hy with hy | hy
      · exact hes y hy
      · simp at hy
        exact ⟨a, b, c, e, by rw [hy], by rw [hy]⟩
  · refine ⟨{ w with heap := w.heap.setIfInBounds B (.map (es.modify j fun en => { en with key := Vl a b c e, val := .int .i64 (L a b c e) }) clock) }, ?_, ⟨_, _, at_ _ _, ?_⟩, grow _⟩
    · unfold Instr.mapUpdate
      have hs := run_setObj_m (P := Try.prog) (.map (es.modify j fun en => { en with key := Vl a b c e, val := .int .i64 (L a b c e) }) clock) hb
      have hx : es[j]? = some x := by rw [← h2, Array.getElem?_toList]
      have hsame : Instr.sameBits 10000 (Vl a b c e) (Vl a b c e) = true := by simp [Instr.sameBits]
      have hstay : (Instr.keyThatStays (((es[j]?).map (·.key)).getD (Vl a b c e)) (Vl a b c e)).run Try.prog w = .ok (Vl a b c e) w := by
        unfold Instr.keyThatStays
        rw [hx]
        simp [h3, hsame]
      simp [hu, hg, check_village, h1, hstay, hs]
    · intro y hy
      rw [Array.toList_modify] at hy
      obtain ⟨q, hq, rfl⟩ := List.mem_iff_getElem.1 hy
      rw [List.getElem_modify]
      split
      · exact ⟨a, b, c, e, rfl, rfl⟩
      · exact hes _ (List.getElem_mem _)

end Go.Proofs.Ytfemdpdnnifehaa.PH
