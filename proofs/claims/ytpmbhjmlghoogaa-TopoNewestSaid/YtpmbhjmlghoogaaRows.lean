/-
  No cell of these rows narrows 'for every input' (looked for: loops, veiled, ifaces, maps, wideKeys, modest, calm, conditions, laid).
  DERIVED. THE GIVEN ROWS OF THIS SEAT. 4 by the template 'for every input the law returns true; each argument reads behind the call as it read before'; 0 by the template 'total and deterministic' (their statements: YtpmbhjmlghoogaaTotals.lean).
  GIVEN WITH THE SEED: the statements are not yours to turn. If you find one false, say at which input.
  Laid BY PROGRAM, IN A SANDBOX (cutbox-rows.mjs): the forced cells as the released guide's own fill.sh prints them over the translation 76a5bbb9431ce807… (all of the seat's roots in one cut). By AI agents, Wed Nov 11 2026. No macro, syntax, notation, axiom, sorry.
-/
import Derived.Test.YtpmbhjmlghoogaaChecked
import GoSem.Claim
import GoSem.ClaimJoined
import GoSem.ClaimMapViews
import Derived.JoinedTies
import Derived.KernelRfl
namespace Go.Proofs.Ytpmbhjmlghoogaa
/- THE CELL 'sum', in the pinned program and in every row, IS THE sha256 OF THE DUMP (.gsa) THAT YtpmbhjmlghoogaaProg.lean LOADS. Nothing in Lean hashes anything: it is a label: what it is worth is what the hold of that sum in a sandbox is worth. -/
noncomputable def Try.pinned : Pinned := { name := "ytpmbhjmlghoogaa", sum := "76a5bbb9431ce807b86bef014574018b9def1b21abed1e9f606f469ed16dc34a", checked := Try.checked }
namespace Rows
def none {H : Type} : Left H := { results := [], args := [] }

/-- 'tollbridgelaw25.TopoForged': WHATEVER THE INPUT: true; the input reads as it did. -/
def topoForgedSpec : ChangeSpec := { name := "topoForged", fn := fun _ => fun
  | [d1, d2, d3] => { results := [.lit (.bool true)], args := [d1, d2, d3] }
  | _ => none }
def topoForgedRow : OpenClaim := { program := "ytpmbhjmlghoogaa", sum := "76a5bbb9431ce807b86bef014574018b9def1b21abed1e9f606f469ed16dc34a", func := "tollbridge/tollbridgelaw25.TopoForged", spec := "topoForged", unfollowed := true, recurses := true, plainKeys := false, apart := false }
def TopoForgedSaid : Prop := topoForgedRow.holds Try.pinned (OpenSpec.ofChange topoForgedSpec)

/-- ITS FALSE NEIGHBOUR: 'it returns false'. Refute it at one input. -/
def topoForgedWrong : ChangeSpec := { name := "topoForged", fn := fun _ => fun
  | [d1, d2, d3] => { results := [.lit (.bool false)], args := [d1, d2, d3] }
  | _ => none }
def TopoForgedWrongFalsely : Prop := topoForgedRow.holds Try.pinned (OpenSpec.ofChange topoForgedWrong)

/-- 'tollbridgelaw25.TopoAges': WHATEVER THE INPUT: true; the input reads as it did. -/
def topoAgesSpec : ChangeSpec := { name := "topoAges", fn := fun _ => fun
  | [d1, d2, d3, d4] => { results := [.lit (.bool true)], args := [d1, d2, d3, d4] }
  | _ => none }
def topoAgesRow : OpenClaim := { program := "ytpmbhjmlghoogaa", sum := "76a5bbb9431ce807b86bef014574018b9def1b21abed1e9f606f469ed16dc34a", func := "tollbridge/tollbridgelaw25.TopoAges", spec := "topoAges", unfollowed := true, recurses := true, plainKeys := false, apart := false }
def TopoAgesSaid : Prop := topoAgesRow.holds Try.pinned (OpenSpec.ofChange topoAgesSpec)

/-- ITS FALSE NEIGHBOUR: 'it returns false'. Refute it at one input. -/
def topoAgesWrong : ChangeSpec := { name := "topoAges", fn := fun _ => fun
  | [d1, d2, d3, d4] => { results := [.lit (.bool false)], args := [d1, d2, d3, d4] }
  | _ => none }
def TopoAgesWrongFalsely : Prop := topoAgesRow.holds Try.pinned (OpenSpec.ofChange topoAgesWrong)

/-- 'tollbridgelaw25.TopoNewest': WHATEVER THE INPUT: true; the input reads as it did. -/
def topoNewestSpec : ChangeSpec := { name := "topoNewest", fn := fun _ => fun
  | [d1, d2, d3, d4] => { results := [.lit (.bool true)], args := [d1, d2, d3, d4] }
  | _ => none }
def topoNewestRow : OpenClaim := { program := "ytpmbhjmlghoogaa", sum := "76a5bbb9431ce807b86bef014574018b9def1b21abed1e9f606f469ed16dc34a", func := "tollbridge/tollbridgelaw25.TopoNewest", spec := "topoNewest", unfollowed := true, recurses := true, plainKeys := false, apart := false }
def TopoNewestSaid : Prop := topoNewestRow.holds Try.pinned (OpenSpec.ofChange topoNewestSpec)

/-- ITS FALSE NEIGHBOUR: 'it returns false'. Refute it at one input. -/
def topoNewestWrong : ChangeSpec := { name := "topoNewest", fn := fun _ => fun
  | [d1, d2, d3, d4] => { results := [.lit (.bool false)], args := [d1, d2, d3, d4] }
  | _ => none }
def TopoNewestWrongFalsely : Prop := topoNewestRow.holds Try.pinned (OpenSpec.ofChange topoNewestWrong)

/-- 'tollbridgelaw25.TopoNil': WHATEVER THE INPUT: true; the input reads as it did. -/
def topoNilSpec : ChangeSpec := { name := "topoNil", fn := fun _ => fun
  | [d1, d2] => { results := [.lit (.bool true)], args := [d1, d2] }
  | _ => none }
def topoNilRow : OpenClaim := { program := "ytpmbhjmlghoogaa", sum := "76a5bbb9431ce807b86bef014574018b9def1b21abed1e9f606f469ed16dc34a", func := "tollbridge/tollbridgelaw25.TopoNil", spec := "topoNil", unfollowed := true, recurses := true, plainKeys := false, apart := false }
def TopoNilSaid : Prop := topoNilRow.holds Try.pinned (OpenSpec.ofChange topoNilSpec)

/-- ITS FALSE NEIGHBOUR: 'it returns false'. Refute it at one input. -/
def topoNilWrong : ChangeSpec := { name := "topoNil", fn := fun _ => fun
  | [d1, d2] => { results := [.lit (.bool false)], args := [d1, d2] }
  | _ => none }
def TopoNilWrongFalsely : Prop := topoNilRow.holds Try.pinned (OpenSpec.ofChange topoNilWrong)

/- THE SECOND FORM. 'bulk': how many values and letters a reading holds, each counted each time it is reached (what is shared counts as often as it is met; a slice's spare places count too). A statement '..UptoSaid' is the law's where the arguments, and the package variables that the reading takes, are together of bulk at most 1048576: NARROWER than '..Said'. Prove '..Said' where nothing that the law and all that it calls make is longer than what came in: it says more and counts as full. Else prove '..UptoSaid'. A law counts once. -/
mutual
def uptoBulk {H : Type} : DataW H → Nat
  | .lit (.string bytes) => bytes.length + 1
  | .lit _ => 1
  | .nil => 1
  | .ptr d => uptoBulk d + 1
  | .slice elems spare => uptoBulkAll elems + uptoBulkAll spare + 1
  | .agg parts => uptoBulkAll parts + 1
  | .iface _ d => uptoBulk d + 1
  | .map entries => uptoBulkEntries entries + 1
  | .held _ => 1
def uptoBulkAll {H : Type} : List (DataW H) → Nat
  | [] => 0
  | d :: r => uptoBulk d + uptoBulkAll r
def uptoBulkEntries {H : Type} : List (Lit × DataW H) → Nat
  | [] => 0
  | x :: r => uptoBulkEntry x + uptoBulkEntries r
def uptoBulkEntry {H : Type} : Lit × DataW H → Nat
  | (.string bytes, d) => bytes.length + uptoBulk d + 1
  | (_, d) => uptoBulk d + 1
 end
def uptoSmall : (H : Type) → List (DataW H) → Bool := fun _ ds => decide (uptoBulkAll ds ≤ 1048576)
def OpenSpec.upto (s : _root_.Go.ChangeSpec) : _root_.Go.OpenSpec := { _root_.Go.OpenSpec.ofChange s with cond := some uptoSmall }

/-- 'tollbridgelaw25.TopoForged', WHERE WHAT IT READS IS OF BULK AT MOST 1048576: true; the input reads as it did. -/
def topoForgedUptoRow : OpenClaim := { program := "ytpmbhjmlghoogaa", sum := "76a5bbb9431ce807b86bef014574018b9def1b21abed1e9f606f469ed16dc34a", func := "tollbridge/tollbridgelaw25.TopoForged", spec := "topoForged", unfollowed := true, recurses := true, plainKeys := false, apart := false, narrowed := true }
def TopoForgedUptoSaid : Prop := topoForgedUptoRow.holds Try.pinned (OpenSpec.upto topoForgedSpec)

/-- 'tollbridgelaw25.TopoAges', WHERE WHAT IT READS IS OF BULK AT MOST 1048576: true; the input reads as it did. -/
def topoAgesUptoRow : OpenClaim := { program := "ytpmbhjmlghoogaa", sum := "76a5bbb9431ce807b86bef014574018b9def1b21abed1e9f606f469ed16dc34a", func := "tollbridge/tollbridgelaw25.TopoAges", spec := "topoAges", unfollowed := true, recurses := true, plainKeys := false, apart := false, narrowed := true }
def TopoAgesUptoSaid : Prop := topoAgesUptoRow.holds Try.pinned (OpenSpec.upto topoAgesSpec)

/-- 'tollbridgelaw25.TopoNewest', WHERE WHAT IT READS IS OF BULK AT MOST 1048576: true; the input reads as it did. -/
def topoNewestUptoRow : OpenClaim := { program := "ytpmbhjmlghoogaa", sum := "76a5bbb9431ce807b86bef014574018b9def1b21abed1e9f606f469ed16dc34a", func := "tollbridge/tollbridgelaw25.TopoNewest", spec := "topoNewest", unfollowed := true, recurses := true, plainKeys := false, apart := false, narrowed := true }
def TopoNewestUptoSaid : Prop := topoNewestUptoRow.holds Try.pinned (OpenSpec.upto topoNewestSpec)

/-- 'tollbridgelaw25.TopoNil', WHERE WHAT IT READS IS OF BULK AT MOST 1048576: true; the input reads as it did. -/
def topoNilUptoRow : OpenClaim := { program := "ytpmbhjmlghoogaa", sum := "76a5bbb9431ce807b86bef014574018b9def1b21abed1e9f606f469ed16dc34a", func := "tollbridge/tollbridgelaw25.TopoNil", spec := "topoNil", unfollowed := true, recurses := true, plainKeys := false, apart := false, narrowed := true }
def TopoNilUptoSaid : Prop := topoNilUptoRow.holds Try.pinned (OpenSpec.upto topoNilSpec)

end Rows
end Go.Proofs.Ytpmbhjmlghoogaa
