/-
  No cell of these rows narrows 'for every input' (looked for: loops, veiled, ifaces, maps, wideKeys, modest, calm, conditions, laid).
  DERIVED. THE GIVEN ROWS OF THIS SEAT. 4 by the template 'for every input the law returns true; each argument reads behind the call as it read before'; 0 by the template 'total and deterministic' (their statements: YtokkllcbbnlinaaTotals.lean).
  GIVEN WITH THE SEED: the statements are not yours to turn. If you find one false, say at which input.
  Laid BY PROGRAM, IN A SANDBOX (cutbox-rows.mjs): the forced cells as the released guide's own fill.sh prints them over the translation 5aaaaf32823e56b3… (all of the seat's roots in one cut). By AI agents, Wed Nov 11 2026. No macro, syntax, notation, axiom, sorry.
-/
import Derived.Test.YtokkllcbbnlinaaChecked
import GoSem.Claim
import GoSem.ClaimJoined
import GoSem.ClaimMapViews
import Derived.JoinedTies
import Derived.KernelRfl
namespace Go.Proofs.Ytokkllcbbnlinaa
/- THE CELL 'sum', in the pinned program and in every row, IS THE sha256 OF THE DUMP (.gsa) THAT YtokkllcbbnlinaaProg.lean LOADS. Nothing in Lean hashes anything: it is a label: what it is worth is what the hold of that sum in a sandbox is worth. -/
noncomputable def Try.pinned : Pinned := { name := "ytokkllcbbnlinaa", sum := "5aaaaf32823e56b3b5593ee40e52ca7ab01335f904b052a8bb5d13199a809a35", checked := Try.checked }
namespace Rows
def none {H : Type} : Left H := { results := [], args := [] }

/-- 'tollbridgelaw11.FlowsPlaces': WHATEVER THE INPUT: true; the input reads as it did. -/
def flowsPlacesSpec : ChangeSpec := { name := "flowsPlaces", fn := fun _ => fun
  | [d1, d2] => { results := [.lit (.bool true)], args := [d1, d2] }
  | _ => none }
def flowsPlacesRow : OpenClaim := { program := "ytokkllcbbnlinaa", sum := "5aaaaf32823e56b3b5593ee40e52ca7ab01335f904b052a8bb5d13199a809a35", func := "tollbridge/tollbridgelaw11.FlowsPlaces", spec := "flowsPlaces", unfollowed := true, recurses := true, plainKeys := false, apart := false }
def FlowsPlacesSaid : Prop := flowsPlacesRow.holds Try.pinned (OpenSpec.ofChange flowsPlacesSpec)

/-- ITS FALSE NEIGHBOUR: 'it returns false'. Refute it at one input. -/
def flowsPlacesWrong : ChangeSpec := { name := "flowsPlaces", fn := fun _ => fun
  | [d1, d2] => { results := [.lit (.bool false)], args := [d1, d2] }
  | _ => none }
def FlowsPlacesWrongFalsely : Prop := flowsPlacesRow.holds Try.pinned (OpenSpec.ofChange flowsPlacesWrong)

/-- 'tollbridgelaw11.FlowsStays': WHATEVER THE INPUT: true; the input reads as it did. -/
def flowsStaysSpec : ChangeSpec := { name := "flowsStays", fn := fun _ => fun
  | [] => { results := [.lit (.bool true)], args := [] }
  | _ => none }
def flowsStaysRow : OpenClaim := { program := "ytokkllcbbnlinaa", sum := "5aaaaf32823e56b3b5593ee40e52ca7ab01335f904b052a8bb5d13199a809a35", func := "tollbridge/tollbridgelaw11.FlowsStays", spec := "flowsStays", unfollowed := true, recurses := true, plainKeys := false, apart := false }
def FlowsStaysSaid : Prop := flowsStaysRow.holds Try.pinned (OpenSpec.ofChange flowsStaysSpec)

/-- ITS FALSE NEIGHBOUR: 'it returns false'. Refute it at one input. -/
def flowsStaysWrong : ChangeSpec := { name := "flowsStays", fn := fun _ => fun
  | [] => { results := [.lit (.bool false)], args := [] }
  | _ => none }
def FlowsStaysWrongFalsely : Prop := flowsStaysRow.holds Try.pinned (OpenSpec.ofChange flowsStaysWrong)

/-- 'tollbridgelaw11.FlowsNil': WHATEVER THE INPUT: true; the input reads as it did. -/
def flowsNilSpec : ChangeSpec := { name := "flowsNil", fn := fun _ => fun
  | [d1, d2] => { results := [.lit (.bool true)], args := [d1, d2] }
  | _ => none }
def flowsNilRow : OpenClaim := { program := "ytokkllcbbnlinaa", sum := "5aaaaf32823e56b3b5593ee40e52ca7ab01335f904b052a8bb5d13199a809a35", func := "tollbridge/tollbridgelaw11.FlowsNil", spec := "flowsNil", unfollowed := true, recurses := true, plainKeys := false, apart := false }
def FlowsNilSaid : Prop := flowsNilRow.holds Try.pinned (OpenSpec.ofChange flowsNilSpec)

/-- ITS FALSE NEIGHBOUR: 'it returns false'. Refute it at one input. -/
def flowsNilWrong : ChangeSpec := { name := "flowsNil", fn := fun _ => fun
  | [d1, d2] => { results := [.lit (.bool false)], args := [d1, d2] }
  | _ => none }
def FlowsNilWrongFalsely : Prop := flowsNilRow.holds Try.pinned (OpenSpec.ofChange flowsNilWrong)

/-- 'tollbridgelaw11.FlowsCounts': WHATEVER THE INPUT: true; the input reads as it did. -/
def flowsCountsSpec : ChangeSpec := { name := "flowsCounts", fn := fun _ => fun
  | [d1, d2] => { results := [.lit (.bool true)], args := [d1, d2] }
  | _ => none }
def flowsCountsRow : OpenClaim := { program := "ytokkllcbbnlinaa", sum := "5aaaaf32823e56b3b5593ee40e52ca7ab01335f904b052a8bb5d13199a809a35", func := "tollbridge/tollbridgelaw11.FlowsCounts", spec := "flowsCounts", unfollowed := true, recurses := true, plainKeys := false, apart := false }
def FlowsCountsSaid : Prop := flowsCountsRow.holds Try.pinned (OpenSpec.ofChange flowsCountsSpec)

/-- ITS FALSE NEIGHBOUR: 'it returns false'. Refute it at one input. -/
def flowsCountsWrong : ChangeSpec := { name := "flowsCounts", fn := fun _ => fun
  | [d1, d2] => { results := [.lit (.bool false)], args := [d1, d2] }
  | _ => none }
def FlowsCountsWrongFalsely : Prop := flowsCountsRow.holds Try.pinned (OpenSpec.ofChange flowsCountsWrong)

/- THE SECOND FORM. 'bulk': how many values and letters a reading holds, each counted each time it is reached (what is shared counts as often as it is met; a slice's spare places count too). A statement '..UptoSaid' is the law's where the arguments, and the package variables that the reading takes, are together of bulk at most 1048576: NARROWER than '..Said'. Prove '..Said' where nothing that the law and all that it calls make is longer than what came in: it says more and counts as full. Else prove '..UptoSaid'. A law counts once. -/
mutual
def uptoBulk {H : Type} : DataW H → Nat
  | .lit (.string bytes) => bytes.length + 1
  | .lit _ => 1
  | .nil => 1
  | .ptr d => uptoBulk d + 1
  | .slice elems spare => uptoBulkAll elems + uptoBulkAll spare + 1
  | .agg parts => uptoBulkAll parts + 1
  | .iface _ d => uptoBulk d + 1
  | .map entries => uptoBulkEntries entries + 1
  | .held _ => 1
def uptoBulkAll {H : Type} : List (DataW H) → Nat
  | [] => 0
  | d :: r => uptoBulk d + uptoBulkAll r
def uptoBulkEntries {H : Type} : List (Lit × DataW H) → Nat
  | [] => 0
  | x :: r => uptoBulkEntry x + uptoBulkEntries r
def uptoBulkEntry {H : Type} : Lit × DataW H → Nat
  | (.string bytes, d) => bytes.length + uptoBulk d + 1
  | (_, d) => uptoBulk d + 1
 end
def uptoSmall : (H : Type) → List (DataW H) → Bool := fun _ ds => decide (uptoBulkAll ds ≤ 1048576)
def OpenSpec.upto (s : _root_.Go.ChangeSpec) : _root_.Go.OpenSpec := { _root_.Go.OpenSpec.ofChange s with cond := some uptoSmall }

/-- 'tollbridgelaw11.FlowsPlaces', WHERE WHAT IT READS IS OF BULK AT MOST 1048576: true; the input reads as it did. -/
def flowsPlacesUptoRow : OpenClaim := { program := "ytokkllcbbnlinaa", sum := "5aaaaf32823e56b3b5593ee40e52ca7ab01335f904b052a8bb5d13199a809a35", func := "tollbridge/tollbridgelaw11.FlowsPlaces", spec := "flowsPlaces", unfollowed := true, recurses := true, plainKeys := false, apart := false, narrowed := true }
def FlowsPlacesUptoSaid : Prop := flowsPlacesUptoRow.holds Try.pinned (OpenSpec.upto flowsPlacesSpec)

/-- 'tollbridgelaw11.FlowsStays', WHERE WHAT IT READS IS OF BULK AT MOST 1048576: true; the input reads as it did. -/
def flowsStaysUptoRow : OpenClaim := { program := "ytokkllcbbnlinaa", sum := "5aaaaf32823e56b3b5593ee40e52ca7ab01335f904b052a8bb5d13199a809a35", func := "tollbridge/tollbridgelaw11.FlowsStays", spec := "flowsStays", unfollowed := true, recurses := true, plainKeys := false, apart := false, narrowed := true }
def FlowsStaysUptoSaid : Prop := flowsStaysUptoRow.holds Try.pinned (OpenSpec.upto flowsStaysSpec)

/-- 'tollbridgelaw11.FlowsNil', WHERE WHAT IT READS IS OF BULK AT MOST 1048576: true; the input reads as it did. -/
def flowsNilUptoRow : OpenClaim := { program := "ytokkllcbbnlinaa", sum := "5aaaaf32823e56b3b5593ee40e52ca7ab01335f904b052a8bb5d13199a809a35", func := "tollbridge/tollbridgelaw11.FlowsNil", spec := "flowsNil", unfollowed := true, recurses := true, plainKeys := false, apart := false, narrowed := true }
def FlowsNilUptoSaid : Prop := flowsNilUptoRow.holds Try.pinned (OpenSpec.upto flowsNilSpec)

/-- 'tollbridgelaw11.FlowsCounts', WHERE WHAT IT READS IS OF BULK AT MOST 1048576: true; the input reads as it did. -/
def flowsCountsUptoRow : OpenClaim := { program := "ytokkllcbbnlinaa", sum := "5aaaaf32823e56b3b5593ee40e52ca7ab01335f904b052a8bb5d13199a809a35", func := "tollbridge/tollbridgelaw11.FlowsCounts", spec := "flowsCounts", unfollowed := true, recurses := true, plainKeys := false, apart := false, narrowed := true }
def FlowsCountsUptoSaid : Prop := flowsCountsUptoRow.holds Try.pinned (OpenSpec.upto flowsCountsSpec)

end Rows
end Go.Proofs.Ytokkllcbbnlinaa
