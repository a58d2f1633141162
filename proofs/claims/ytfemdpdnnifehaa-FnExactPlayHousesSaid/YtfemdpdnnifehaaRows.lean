/-
  No cell of these rows narrows 'for every input' (looked for: loops, veiled, ifaces, maps, wideKeys, modest, calm, conditions, laid).
  DERIVED. THE GIVEN ROWS OF THIS SEAT. 5 by the template 'for every input the law returns true; each argument reads behind the call as it read before'; 0 by the template 'total and deterministic' (their statements: YtfemdpdnnifehaaTotals.lean).
  GIVEN WITH THE SEED: the statements are not yours to turn. If you find one false, say at which input.
  Laid BY PROGRAM, IN A SANDBOX (cutbox-rows.mjs): the forced cells as the released guide's own fill.sh prints them over the translation 6a17fee0ec8910ea… (all of the seat's roots in one cut). By AI agents, Wed Nov 11 2026. No macro, syntax, notation, axiom, sorry.
-/
import Derived.Test.YtfemdpdnnifehaaChecked
import GoSem.Claim
import GoSem.ClaimJoined
import GoSem.ClaimMapViews
import Derived.JoinedTies
import Derived.KernelRfl
namespace Go.Proofs.Ytfemdpdnnifehaa
/- THE CELL 'sum', in the pinned program and in every row, IS THE sha256 OF THE DUMP (.gsa) THAT YtfemdpdnnifehaaProg.lean LOADS. Nothing in Lean hashes anything: it is a label: what it is worth is what the hold of that sum in a sandbox is worth. -/
noncomputable def Try.pinned : Pinned := { name := "ytfemdpdnnifehaa", sum := "6a17fee0ec8910eaf93ed5613a98655b3b999e006003d4656b90fb77e5c386e2", checked := Try.checked }
namespace Rows
def none {H : Type} : Left H := { results := [], args := [] }

/-- 'laws.FnExactCountHouseDrops': WHATEVER THE INPUT: true; the input reads as it did. -/
def fnExactCountHouseDropsSpec : ChangeSpec := { name := "fnExactCountHouseDrops", fn := fun _ => fun
  | [d1, d2, d3] => { results := [.lit (.bool true)], args := [d1, d2, d3] }
  | _ => none }
def fnExactCountHouseDropsRow : OpenClaim := { program := "ytfemdpdnnifehaa", sum := "6a17fee0ec8910eaf93ed5613a98655b3b999e006003d4656b90fb77e5c386e2", func := "loop.example/g01325/laws.FnExactCountHouseDrops", spec := "fnExactCountHouseDrops", unfollowed := true, recurses := true, plainKeys := false, apart := false }
def FnExactCountHouseDropsSaid : Prop := fnExactCountHouseDropsRow.holds Try.pinned (OpenSpec.ofChange fnExactCountHouseDropsSpec)

/-- ITS FALSE NEIGHBOUR: 'it returns false'. Refute it at one input. -/
def fnExactCountHouseDropsWrong : ChangeSpec := { name := "fnExactCountHouseDrops", fn := fun _ => fun
  | [d1, d2, d3] => { results := [.lit (.bool false)], args := [d1, d2, d3] }
  | _ => none }
def FnExactCountHouseDropsWrongFalsely : Prop := fnExactCountHouseDropsRow.holds Try.pinned (OpenSpec.ofChange fnExactCountHouseDropsWrong)

/-- 'laws.FnExactBrokenInHouses': WHATEVER THE INPUT: true; the input reads as it did. -/
def fnExactBrokenInHousesSpec : ChangeSpec := { name := "fnExactBrokenInHouses", fn := fun _ => fun
  | [d1, d2, d3] => { results := [.lit (.bool true)], args := [d1, d2, d3] }
  | _ => none }
def fnExactBrokenInHousesRow : OpenClaim := { program := "ytfemdpdnnifehaa", sum := "6a17fee0ec8910eaf93ed5613a98655b3b999e006003d4656b90fb77e5c386e2", func := "loop.example/g01325/laws.FnExactBrokenInHouses", spec := "fnExactBrokenInHouses", unfollowed := true, recurses := true, plainKeys := false, apart := false }
def FnExactBrokenInHousesSaid : Prop := fnExactBrokenInHousesRow.holds Try.pinned (OpenSpec.ofChange fnExactBrokenInHousesSpec)

/-- ITS FALSE NEIGHBOUR: 'it returns false'. Refute it at one input. -/
def fnExactBrokenInHousesWrong : ChangeSpec := { name := "fnExactBrokenInHouses", fn := fun _ => fun
  | [d1, d2, d3] => { results := [.lit (.bool false)], args := [d1, d2, d3] }
  | _ => none }
def FnExactBrokenInHousesWrongFalsely : Prop := fnExactBrokenInHousesRow.holds Try.pinned (OpenSpec.ofChange fnExactBrokenInHousesWrong)

/-- 'laws.FnExactPlayHouses': WHATEVER THE INPUT: true; the input reads as it did. -/
def fnExactPlayHousesSpec : ChangeSpec := { name := "fnExactPlayHouses", fn := fun _ => fun
  | [d1, d2, d3] => { results := [.lit (.bool true)], args := [d1, d2, d3] }
  | _ => none }
def fnExactPlayHousesRow : OpenClaim := { program := "ytfemdpdnnifehaa", sum := "6a17fee0ec8910eaf93ed5613a98655b3b999e006003d4656b90fb77e5c386e2", func := "loop.example/g01325/laws.FnExactPlayHouses", spec := "fnExactPlayHouses", unfollowed := true, recurses := true, plainKeys := false, apart := false }
def FnExactPlayHousesSaid : Prop := fnExactPlayHousesRow.holds Try.pinned (OpenSpec.ofChange fnExactPlayHousesSpec)

/-- ITS FALSE NEIGHBOUR: 'it returns false'. Refute it at one input. -/
def fnExactPlayHousesWrong : ChangeSpec := { name := "fnExactPlayHouses", fn := fun _ => fun
  | [d1, d2, d3] => { results := [.lit (.bool false)], args := [d1, d2, d3] }
  | _ => none }
def FnExactPlayHousesWrongFalsely : Prop := fnExactPlayHousesRow.holds Try.pinned (OpenSpec.ofChange fnExactPlayHousesWrong)

/-- 'laws.FnExactHardestHouses': WHATEVER THE INPUT: true; the input reads as it did. -/
def fnExactHardestHousesSpec : ChangeSpec := { name := "fnExactHardestHouses", fn := fun _ => fun
  | [d1, d2] => { results := [.lit (.bool true)], args := [d1, d2] }
  | _ => none }
def fnExactHardestHousesRow : OpenClaim := { program := "ytfemdpdnnifehaa", sum := "6a17fee0ec8910eaf93ed5613a98655b3b999e006003d4656b90fb77e5c386e2", func := "loop.example/g01325/laws.FnExactHardestHouses", spec := "fnExactHardestHouses", unfollowed := true, recurses := true, plainKeys := false, apart := false }
def FnExactHardestHousesSaid : Prop := fnExactHardestHousesRow.holds Try.pinned (OpenSpec.ofChange fnExactHardestHousesSpec)

/-- ITS FALSE NEIGHBOUR: 'it returns false'. Refute it at one input. -/
def fnExactHardestHousesWrong : ChangeSpec := { name := "fnExactHardestHouses", fn := fun _ => fun
  | [d1, d2] => { results := [.lit (.bool false)], args := [d1, d2] }
  | _ => none }
def FnExactHardestHousesWrongFalsely : Prop := fnExactHardestHousesRow.holds Try.pinned (OpenSpec.ofChange fnExactHardestHousesWrong)

/-- 'laws.FnHousesPlayed': WHATEVER THE INPUT: true; the input reads as it did. -/
def fnHousesPlayedSpec : ChangeSpec := { name := "fnHousesPlayed", fn := fun _ => fun
  | [d1, d2] => { results := [.lit (.bool true)], args := [d1, d2] }
  | _ => none }
def fnHousesPlayedRow : OpenClaim := { program := "ytfemdpdnnifehaa", sum := "6a17fee0ec8910eaf93ed5613a98655b3b999e006003d4656b90fb77e5c386e2", func := "loop.example/g01325/laws.FnHousesPlayed", spec := "fnHousesPlayed", unfollowed := true, recurses := true, plainKeys := false, apart := false }
def FnHousesPlayedSaid : Prop := fnHousesPlayedRow.holds Try.pinned (OpenSpec.ofChange fnHousesPlayedSpec)

/-- ITS FALSE NEIGHBOUR: 'it returns false'. Refute it at one input. -/
def fnHousesPlayedWrong : ChangeSpec := { name := "fnHousesPlayed", fn := fun _ => fun
  | [d1, d2] => { results := [.lit (.bool false)], args := [d1, d2] }
  | _ => none }
def FnHousesPlayedWrongFalsely : Prop := fnHousesPlayedRow.holds Try.pinned (OpenSpec.ofChange fnHousesPlayedWrong)

/- THE SECOND FORM. 'bulk': how many values and letters a reading holds, each counted each time it is reached (what is shared counts as often as it is met; a slice's spare places count too). A statement '..UptoSaid' is the law's where the arguments, and the package variables that the reading takes, are together of bulk at most 1048576: NARROWER than '..Said'. Prove '..Said' where nothing that the law and all that it calls make is longer than what came in: it says more and counts as full. Else prove '..UptoSaid'. A law counts once. -/
mutual
def uptoBulk {H : Type} : DataW H → Nat
  | .lit (.string bytes) => bytes.length + 1
  | .lit _ => 1
  | .nil => 1
  | .ptr d => uptoBulk d + 1
  | .slice elems spare => uptoBulkAll elems + uptoBulkAll spare + 1
  | .agg parts => uptoBulkAll parts + 1
  | .iface _ d => uptoBulk d + 1
  | .map entries => uptoBulkEntries entries + 1
  | .held _ => 1
def uptoBulkAll {H : Type} : List (DataW H) → Nat
  | [] => 0
  | d :: r => uptoBulk d + uptoBulkAll r
def uptoBulkEntries {H : Type} : List (Lit × DataW H) → Nat
  | [] => 0
  | x :: r => uptoBulkEntry x + uptoBulkEntries r
def uptoBulkEntry {H : Type} : Lit × DataW H → Nat
  | (.string bytes, d) => bytes.length + uptoBulk d + 1
  | (_, d) => uptoBulk d + 1
 end
def uptoSmall : (H : Type) → List (DataW H) → Bool := fun _ ds => decide (uptoBulkAll ds ≤ 1048576)
def OpenSpec.upto (s : _root_.Go.ChangeSpec) : _root_.Go.OpenSpec := { _root_.Go.OpenSpec.ofChange s with cond := some uptoSmall }

/-- 'laws.FnExactCountHouseDrops', WHERE WHAT IT READS IS OF BULK AT MOST 1048576: true; the input reads as it did. -/
def fnExactCountHouseDropsUptoRow : OpenClaim := { program := "ytfemdpdnnifehaa", sum := "6a17fee0ec8910eaf93ed5613a98655b3b999e006003d4656b90fb77e5c386e2", func := "loop.example/g01325/laws.FnExactCountHouseDrops", spec := "fnExactCountHouseDrops", unfollowed := true, recurses := true, plainKeys := false, apart := false, narrowed := true }
def FnExactCountHouseDropsUptoSaid : Prop := fnExactCountHouseDropsUptoRow.holds Try.pinned (OpenSpec.upto fnExactCountHouseDropsSpec)

/-- 'laws.FnExactBrokenInHouses', WHERE WHAT IT READS IS OF BULK AT MOST 1048576: true; the input reads as it did. -/
def fnExactBrokenInHousesUptoRow : OpenClaim := { program := "ytfemdpdnnifehaa", sum := "6a17fee0ec8910eaf93ed5613a98655b3b999e006003d4656b90fb77e5c386e2", func := "loop.example/g01325/laws.FnExactBrokenInHouses", spec := "fnExactBrokenInHouses", unfollowed := true, recurses := true, plainKeys := false, apart := false, narrowed := true }
def FnExactBrokenInHousesUptoSaid : Prop := fnExactBrokenInHousesUptoRow.holds Try.pinned (OpenSpec.upto fnExactBrokenInHousesSpec)

/-- 'laws.FnExactPlayHouses', WHERE WHAT IT READS IS OF BULK AT MOST 1048576: true; the input reads as it did. -/
def fnExactPlayHousesUptoRow : OpenClaim := { program := "ytfemdpdnnifehaa", sum := "6a17fee0ec8910eaf93ed5613a98655b3b999e006003d4656b90fb77e5c386e2", func := "loop.example/g01325/laws.FnExactPlayHouses", spec := "fnExactPlayHouses", unfollowed := true, recurses := true, plainKeys := false, apart := false, narrowed := true }
def FnExactPlayHousesUptoSaid : Prop := fnExactPlayHousesUptoRow.holds Try.pinned (OpenSpec.upto fnExactPlayHousesSpec)

/-- 'laws.FnExactHardestHouses', WHERE WHAT IT READS IS OF BULK AT MOST 1048576: true; the input reads as it did. -/
def fnExactHardestHousesUptoRow : OpenClaim := { program := "ytfemdpdnnifehaa", sum := "6a17fee0ec8910eaf93ed5613a98655b3b999e006003d4656b90fb77e5c386e2", func := "loop.example/g01325/laws.FnExactHardestHouses", spec := "fnExactHardestHouses", unfollowed := true, recurses := true, plainKeys := false, apart := false, narrowed := true }
def FnExactHardestHousesUptoSaid : Prop := fnExactHardestHousesUptoRow.holds Try.pinned (OpenSpec.upto fnExactHardestHousesSpec)

/-- 'laws.FnHousesPlayed', WHERE WHAT IT READS IS OF BULK AT MOST 1048576: true; the input reads as it did. -/
def fnHousesPlayedUptoRow : OpenClaim := { program := "ytfemdpdnnifehaa", sum := "6a17fee0ec8910eaf93ed5613a98655b3b999e006003d4656b90fb77e5c386e2", func := "loop.example/g01325/laws.FnHousesPlayed", spec := "fnHousesPlayed", unfollowed := true, recurses := true, plainKeys := false, apart := false, narrowed := true }
def FnHousesPlayedUptoSaid : Prop := fnHousesPlayedUptoRow.holds Try.pinned (OpenSpec.upto fnHousesPlayedSpec)

end Rows
end Go.Proofs.Ytfemdpdnnifehaa
