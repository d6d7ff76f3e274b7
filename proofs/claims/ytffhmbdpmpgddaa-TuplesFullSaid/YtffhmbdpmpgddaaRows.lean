/-
  No cell of these rows narrows 'for every input' (looked for: loops, veiled, ifaces, maps, wideKeys, modest, calm, conditions, laid).
  DERIVED. THE GIVEN ROWS OF THIS SEAT. 4 by the template 'for every input the law returns true; each argument reads behind the call as it read before'; 0 by the template 'total and deterministic' (their statements: YtffhmbdpmpgddaaTotals.lean).
  GIVEN WITH THE SEED: the statements are not yours to turn. If you find one false, say at which input.
  Laid BY PROGRAM, IN A SANDBOX (cutbox-rows.mjs): the forced cells as the released guide's own fill.sh prints them over the translation 0b078b16bea85bbf… (all of the seat's roots in one cut). By AI agents, Wed Nov 11 2026. No macro, syntax, notation, axiom, sorry.
-/
import Derived.Test.YtffhmbdpmpgddaaChecked
import GoSem.Claim
import GoSem.ClaimJoined
import GoSem.ClaimMapViews
import Derived.JoinedTies
import Derived.KernelRfl
namespace Go.Proofs.Ytffhmbdpmpgddaa
/- THE CELL 'sum', in the pinned program and in every row, IS THE sha256 OF THE DUMP (.gsa) THAT YtffhmbdpmpgddaaProg.lean LOADS. Nothing in Lean hashes anything: it is a label: what it is worth is what the hold of that sum in a sandbox is worth. -/
noncomputable def Try.pinned : Pinned := { name := "ytffhmbdpmpgddaa", sum := "0b078b16bea85bbf06ee7de5d48b90dd53c5bb6c5dff4a2dcc9a59b5eb09cf1b", checked := Try.checked }
namespace Rows
def none {H : Type} : Left H := { results := [], args := [] }

/-- 'tollbridgelaw09.TuplesBest': WHATEVER THE INPUT: true; the input reads as it did. -/
def tuplesBestSpec : ChangeSpec := { name := "tuplesBest", fn := fun _ => fun
  | [d1, d2] => { results := [.lit (.bool true)], args := [d1, d2] }
  | _ => none }
def tuplesBestRow : OpenClaim := { program := "ytffhmbdpmpgddaa", sum := "0b078b16bea85bbf06ee7de5d48b90dd53c5bb6c5dff4a2dcc9a59b5eb09cf1b", func := "tollbridge/tollbridgelaw09.TuplesBest", spec := "tuplesBest", unfollowed := true, recurses := true, plainKeys := false, apart := false }
def TuplesBestSaid : Prop := tuplesBestRow.holds Try.pinned (OpenSpec.ofChange tuplesBestSpec)

/-- ITS FALSE NEIGHBOUR: 'it returns false'. Refute it at one input. -/
def tuplesBestWrong : ChangeSpec := { name := "tuplesBest", fn := fun _ => fun
  | [d1, d2] => { results := [.lit (.bool false)], args := [d1, d2] }
  | _ => none }
def TuplesBestWrongFalsely : Prop := tuplesBestRow.holds Try.pinned (OpenSpec.ofChange tuplesBestWrong)

/-- 'tollbridgelaw09.TuplesPlays': WHATEVER THE INPUT: true; the input reads as it did. -/
def tuplesPlaysSpec : ChangeSpec := { name := "tuplesPlays", fn := fun _ => fun
  | [d] => { results := [.lit (.bool true)], args := [d] }
  | _ => none }
def tuplesPlaysRow : OpenClaim := { program := "ytffhmbdpmpgddaa", sum := "0b078b16bea85bbf06ee7de5d48b90dd53c5bb6c5dff4a2dcc9a59b5eb09cf1b", func := "tollbridge/tollbridgelaw09.TuplesPlays", spec := "tuplesPlays", unfollowed := true, recurses := true, plainKeys := false, apart := false }
def TuplesPlaysSaid : Prop := tuplesPlaysRow.holds Try.pinned (OpenSpec.ofChange tuplesPlaysSpec)

/-- ITS FALSE NEIGHBOUR: 'it returns false'. Refute it at one input. -/
def tuplesPlaysWrong : ChangeSpec := { name := "tuplesPlays", fn := fun _ => fun
  | [d] => { results := [.lit (.bool false)], args := [d] }
  | _ => none }
def TuplesPlaysWrongFalsely : Prop := tuplesPlaysRow.holds Try.pinned (OpenSpec.ofChange tuplesPlaysWrong)

/-- 'tollbridgelaw09.TuplesNil': WHATEVER THE INPUT: true; the input reads as it did. -/
def tuplesNilSpec : ChangeSpec := { name := "tuplesNil", fn := fun _ => fun
  | [d1, d2, d3] => { results := [.lit (.bool true)], args := [d1, d2, d3] }
  | _ => none }
def tuplesNilRow : OpenClaim := { program := "ytffhmbdpmpgddaa", sum := "0b078b16bea85bbf06ee7de5d48b90dd53c5bb6c5dff4a2dcc9a59b5eb09cf1b", func := "tollbridge/tollbridgelaw09.TuplesNil", spec := "tuplesNil", unfollowed := true, recurses := true, plainKeys := false, apart := false }
def TuplesNilSaid : Prop := tuplesNilRow.holds Try.pinned (OpenSpec.ofChange tuplesNilSpec)

/-- ITS FALSE NEIGHBOUR: 'it returns false'. Refute it at one input. -/
def tuplesNilWrong : ChangeSpec := { name := "tuplesNil", fn := fun _ => fun
  | [d1, d2, d3] => { results := [.lit (.bool false)], args := [d1, d2, d3] }
  | _ => none }
def TuplesNilWrongFalsely : Prop := tuplesNilRow.holds Try.pinned (OpenSpec.ofChange tuplesNilWrong)

/-- 'tollbridgelaw09.TuplesFull': WHATEVER THE INPUT: true; the input reads as it did. -/
def tuplesFullSpec : ChangeSpec := { name := "tuplesFull", fn := fun _ => fun
  | [] => { results := [.lit (.bool true)], args := [] }
  | _ => none }
def tuplesFullRow : OpenClaim := { program := "ytffhmbdpmpgddaa", sum := "0b078b16bea85bbf06ee7de5d48b90dd53c5bb6c5dff4a2dcc9a59b5eb09cf1b", func := "tollbridge/tollbridgelaw09.TuplesFull", spec := "tuplesFull", unfollowed := true, recurses := true, plainKeys := false, apart := false }
def TuplesFullSaid : Prop := tuplesFullRow.holds Try.pinned (OpenSpec.ofChange tuplesFullSpec)

/-- ITS FALSE NEIGHBOUR: 'it returns false'. Refute it at one input. -/
def tuplesFullWrong : ChangeSpec := { name := "tuplesFull", fn := fun _ => fun
  | [] => { results := [.lit (.bool false)], args := [] }
  | _ => none }
def TuplesFullWrongFalsely : Prop := tuplesFullRow.holds Try.pinned (OpenSpec.ofChange tuplesFullWrong)

/- THE SECOND FORM. 'bulk': how many values and letters a reading holds, each counted each time it is reached (what is shared counts as often as it is met; a slice's spare places count too). A statement '..UptoSaid' is the law's where the arguments, and the package variables that the reading takes, are together of bulk at most 1048576: NARROWER than '..Said'. Prove '..Said' where nothing that the law and all that it calls make is longer than what came in: it says more and counts as full. Else prove '..UptoSaid'. A law counts once. -/
mutual
def uptoBulk {H : Type} : DataW H → Nat
  | .lit (.string bytes) => bytes.length + 1
  | .lit _ => 1
  | .nil => 1
  | .ptr d => uptoBulk d + 1
  | .slice elems spare => uptoBulkAll elems + uptoBulkAll spare + 1
  | .agg parts => uptoBulkAll parts + 1
  | .iface _ d => uptoBulk d + 1
  | .map entries => uptoBulkEntries entries + 1
  | .held _ => 1
def uptoBulkAll {H : Type} : List (DataW H) → Nat
  | [] => 0
  | d :: r => uptoBulk d + uptoBulkAll r
def uptoBulkEntries {H : Type} : List (Lit × DataW H) → Nat
  | [] => 0
  | x :: r => uptoBulkEntry x + uptoBulkEntries r
def uptoBulkEntry {H : Type} : Lit × DataW H → Nat
  | (.string bytes, d) => bytes.length + uptoBulk d + 1
  | (_, d) => uptoBulk d + 1
 end
def uptoSmall : (H : Type) → List (DataW H) → Bool := fun _ ds => decide (uptoBulkAll ds ≤ 1048576)
def OpenSpec.upto (s : _root_.Go.ChangeSpec) : _root_.Go.OpenSpec := { _root_.Go.OpenSpec.ofChange s with cond := some uptoSmall }

/-- 'tollbridgelaw09.TuplesBest', WHERE WHAT IT READS IS OF BULK AT MOST 1048576: true; the input reads as it did. -/
def tuplesBestUptoRow : OpenClaim := { program := "ytffhmbdpmpgddaa", sum := "0b078b16bea85bbf06ee7de5d48b90dd53c5bb6c5dff4a2dcc9a59b5eb09cf1b", func := "tollbridge/tollbridgelaw09.TuplesBest", spec := "tuplesBest", unfollowed := true, recurses := true, plainKeys := false, apart := false, narrowed := true }
def TuplesBestUptoSaid : Prop := tuplesBestUptoRow.holds Try.pinned (OpenSpec.upto tuplesBestSpec)

/-- 'tollbridgelaw09.TuplesPlays', WHERE WHAT IT READS IS OF BULK AT MOST 1048576: true; the input reads as it did. -/
def tuplesPlaysUptoRow : OpenClaim := { program := "ytffhmbdpmpgddaa", sum := "0b078b16bea85bbf06ee7de5d48b90dd53c5bb6c5dff4a2dcc9a59b5eb09cf1b", func := "tollbridge/tollbridgelaw09.TuplesPlays", spec := "tuplesPlays", unfollowed := true, recurses := true, plainKeys := false, apart := false, narrowed := true }
def TuplesPlaysUptoSaid : Prop := tuplesPlaysUptoRow.holds Try.pinned (OpenSpec.upto tuplesPlaysSpec)

/-- 'tollbridgelaw09.TuplesNil', WHERE WHAT IT READS IS OF BULK AT MOST 1048576: true; the input reads as it did. -/
def tuplesNilUptoRow : OpenClaim := { program := "ytffhmbdpmpgddaa", sum := "0b078b16bea85bbf06ee7de5d48b90dd53c5bb6c5dff4a2dcc9a59b5eb09cf1b", func := "tollbridge/tollbridgelaw09.TuplesNil", spec := "tuplesNil", unfollowed := true, recurses := true, plainKeys := false, apart := false, narrowed := true }
def TuplesNilUptoSaid : Prop := tuplesNilUptoRow.holds Try.pinned (OpenSpec.upto tuplesNilSpec)

/-- 'tollbridgelaw09.TuplesFull', WHERE WHAT IT READS IS OF BULK AT MOST 1048576: true; the input reads as it did. -/
def tuplesFullUptoRow : OpenClaim := { program := "ytffhmbdpmpgddaa", sum := "0b078b16bea85bbf06ee7de5d48b90dd53c5bb6c5dff4a2dcc9a59b5eb09cf1b", func := "tollbridge/tollbridgelaw09.TuplesFull", spec := "tuplesFull", unfollowed := true, recurses := true, plainKeys := false, apart := false, narrowed := true }
def TuplesFullUptoSaid : Prop := tuplesFullUptoRow.holds Try.pinned (OpenSpec.upto tuplesFullSpec)

end Rows
end Go.Proofs.Ytffhmbdpmpgddaa
