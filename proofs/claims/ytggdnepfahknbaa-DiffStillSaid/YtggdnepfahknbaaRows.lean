/-
  No cell of these rows narrows 'for every input' (looked for: loops, veiled, ifaces, maps, wideKeys, modest, calm, conditions, laid).
  DERIVED. THE GIVEN ROWS OF THIS SEAT. 3 by the template 'for every input the law returns true; each argument reads behind the call as it read before'; 0 by the template 'total and deterministic' (their statements: YtggdnepfahknbaaTotals.lean).
  GIVEN WITH THE SEED: the statements are not yours to turn. If you find one false, say at which input.
  Laid BY PROGRAM, IN A SANDBOX (cutbox-rows.mjs): the forced cells as the released guide's own fill.sh prints them over the translation e9367f479d322dba… (all of the seat's roots in one cut). By AI agents, Wed Nov 11 2026. No macro, syntax, notation, axiom, sorry.
-/
import Derived.Test.YtggdnepfahknbaaChecked
import GoSem.Claim
import GoSem.ClaimJoined
import GoSem.ClaimMapViews
import Derived.JoinedTies
import Derived.KernelRfl
namespace Go.Proofs.Ytggdnepfahknbaa
/- THE CELL 'sum', in the pinned program and in every row, IS THE sha256 OF THE DUMP (.gsa) THAT YtggdnepfahknbaaProg.lean LOADS. Nothing in Lean hashes anything: it is a label: what it is worth is what the hold of that sum in a sandbox is worth. -/
noncomputable def Try.pinned : Pinned := { name := "ytggdnepfahknbaa", sum := "e9367f479d322dbaabe2cdd382b8de02e2a88a1772b53d93253a016b78ec8739", checked := Try.checked }
namespace Rows
def none {H : Type} : Left H := { results := [], args := [] }

/-- 'tollbridgelaw24.DiffTells': WHATEVER THE INPUT: true; the input reads as it did. -/
def diffTellsSpec : ChangeSpec := { name := "diffTells", fn := fun _ => fun
  | [d1, d2] => { results := [.lit (.bool true)], args := [d1, d2] }
  | _ => none }
def diffTellsRow : OpenClaim := { program := "ytggdnepfahknbaa", sum := "e9367f479d322dbaabe2cdd382b8de02e2a88a1772b53d93253a016b78ec8739", func := "tollbridge/tollbridgelaw24.DiffTells", spec := "diffTells", unfollowed := true, recurses := true, plainKeys := false, apart := false }
def DiffTellsSaid : Prop := diffTellsRow.holds Try.pinned (OpenSpec.ofChange diffTellsSpec)

/-- ITS FALSE NEIGHBOUR: 'it returns false'. Refute it at one input. -/
def diffTellsWrong : ChangeSpec := { name := "diffTells", fn := fun _ => fun
  | [d1, d2] => { results := [.lit (.bool false)], args := [d1, d2] }
  | _ => none }
def DiffTellsWrongFalsely : Prop := diffTellsRow.holds Try.pinned (OpenSpec.ofChange diffTellsWrong)

/-- 'tollbridgelaw24.DiffStill': WHATEVER THE INPUT: true; the input reads as it did. -/
def diffStillSpec : ChangeSpec := { name := "diffStill", fn := fun _ => fun
  | [d1, d2] => { results := [.lit (.bool true)], args := [d1, d2] }
  | _ => none }
def diffStillRow : OpenClaim := { program := "ytggdnepfahknbaa", sum := "e9367f479d322dbaabe2cdd382b8de02e2a88a1772b53d93253a016b78ec8739", func := "tollbridge/tollbridgelaw24.DiffStill", spec := "diffStill", unfollowed := true, recurses := true, plainKeys := false, apart := false }
def DiffStillSaid : Prop := diffStillRow.holds Try.pinned (OpenSpec.ofChange diffStillSpec)

/-- ITS FALSE NEIGHBOUR: 'it returns false'. Refute it at one input. -/
def diffStillWrong : ChangeSpec := { name := "diffStill", fn := fun _ => fun
  | [d1, d2] => { results := [.lit (.bool false)], args := [d1, d2] }
  | _ => none }
def DiffStillWrongFalsely : Prop := diffStillRow.holds Try.pinned (OpenSpec.ofChange diffStillWrong)

/-- 'tollbridgelaw24.DiffFalls': WHATEVER THE INPUT: true; the input reads as it did. -/
def diffFallsSpec : ChangeSpec := { name := "diffFalls", fn := fun _ => fun
  | [d1, d2] => { results := [.lit (.bool true)], args := [d1, d2] }
  | _ => none }
def diffFallsRow : OpenClaim := { program := "ytggdnepfahknbaa", sum := "e9367f479d322dbaabe2cdd382b8de02e2a88a1772b53d93253a016b78ec8739", func := "tollbridge/tollbridgelaw24.DiffFalls", spec := "diffFalls", unfollowed := true, recurses := true, plainKeys := false, apart := false }
def DiffFallsSaid : Prop := diffFallsRow.holds Try.pinned (OpenSpec.ofChange diffFallsSpec)

/-- ITS FALSE NEIGHBOUR: 'it returns false'. Refute it at one input. -/
def diffFallsWrong : ChangeSpec := { name := "diffFalls", fn := fun _ => fun
  | [d1, d2] => { results := [.lit (.bool false)], args := [d1, d2] }
  | _ => none }
def DiffFallsWrongFalsely : Prop := diffFallsRow.holds Try.pinned (OpenSpec.ofChange diffFallsWrong)

/- THE SECOND FORM. 'bulk': how many values and letters a reading holds, each counted each time it is reached (what is shared counts as often as it is met; a slice's spare places count too). A statement '..UptoSaid' is the law's where the arguments, and the package variables that the reading takes, are together of bulk at most 1048576: NARROWER than '..Said'. Prove '..Said' where nothing that the law and all that it calls make is longer than what came in: it says more and counts as full. Else prove '..UptoSaid'. A law counts once. -/
mutual
def uptoBulk {H : Type} : DataW H → Nat
  | .lit (.string bytes) => bytes.length + 1
  | .lit _ => 1
  | .nil => 1
  | .ptr d => uptoBulk d + 1
  | .slice elems spare => uptoBulkAll elems + uptoBulkAll spare + 1
  | .agg parts => uptoBulkAll parts + 1
  | .iface _ d => uptoBulk d + 1
  | .map entries => uptoBulkEntries entries + 1
  | .held _ => 1
def uptoBulkAll {H : Type} : List (DataW H) → Nat
  | [] => 0
  | d :: r => uptoBulk d + uptoBulkAll r
def uptoBulkEntries {H : Type} : List (Lit × DataW H) → Nat
  | [] => 0
  | x :: r => uptoBulkEntry x + uptoBulkEntries r
def uptoBulkEntry {H : Type} : Lit × DataW H → Nat
  | (.string bytes, d) => bytes.length + uptoBulk d + 1
  | (_, d) => uptoBulk d + 1
 end
def uptoSmall : (H : Type) → List (DataW H) → Bool := fun _ ds => decide (uptoBulkAll ds ≤ 1048576)
def OpenSpec.upto (s : _root_.Go.ChangeSpec) : _root_.Go.OpenSpec := { _root_.Go.OpenSpec.ofChange s with cond := some uptoSmall }

/-- 'tollbridgelaw24.DiffTells', WHERE WHAT IT READS IS OF BULK AT MOST 1048576: true; the input reads as it did. -/
def diffTellsUptoRow : OpenClaim := { program := "ytggdnepfahknbaa", sum := "e9367f479d322dbaabe2cdd382b8de02e2a88a1772b53d93253a016b78ec8739", func := "tollbridge/tollbridgelaw24.DiffTells", spec := "diffTells", unfollowed := true, recurses := true, plainKeys := false, apart := false, narrowed := true }
def DiffTellsUptoSaid : Prop := diffTellsUptoRow.holds Try.pinned (OpenSpec.upto diffTellsSpec)

/-- 'tollbridgelaw24.DiffStill', WHERE WHAT IT READS IS OF BULK AT MOST 1048576: true; the input reads as it did. -/
def diffStillUptoRow : OpenClaim := { program := "ytggdnepfahknbaa", sum := "e9367f479d322dbaabe2cdd382b8de02e2a88a1772b53d93253a016b78ec8739", func := "tollbridge/tollbridgelaw24.DiffStill", spec := "diffStill", unfollowed := true, recurses := true, plainKeys := false, apart := false, narrowed := true }
def DiffStillUptoSaid : Prop := diffStillUptoRow.holds Try.pinned (OpenSpec.upto diffStillSpec)

/-- 'tollbridgelaw24.DiffFalls', WHERE WHAT IT READS IS OF BULK AT MOST 1048576: true; the input reads as it did. -/
def diffFallsUptoRow : OpenClaim := { program := "ytggdnepfahknbaa", sum := "e9367f479d322dbaabe2cdd382b8de02e2a88a1772b53d93253a016b78ec8739", func := "tollbridge/tollbridgelaw24.DiffFalls", spec := "diffFalls", unfollowed := true, recurses := true, plainKeys := false, apart := false, narrowed := true }
def DiffFallsUptoSaid : Prop := diffFallsUptoRow.holds Try.pinned (OpenSpec.upto diffFallsSpec)

end Rows
end Go.Proofs.Ytggdnepfahknbaa
