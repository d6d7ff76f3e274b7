/-
  No cell of these rows narrows 'for every input' (looked for: loops, veiled, ifaces, maps, wideKeys, modest, calm, conditions, laid).
  DERIVED. THE GIVEN ROWS OF THIS SEAT. 6 by the template 'for every input the law returns true; each argument reads behind the call as it read before'; 0 by the template 'total and deterministic' (their statements: YtaoaaffddillmaaTotals.lean).
  GIVEN WITH THE SEED: the statements are not yours to turn. If you find one false, say at which input.
  Laid BY PROGRAM, IN A SANDBOX (cutbox-rows.mjs): the forced cells as the released guide's own fill.sh prints them over the translation d7d9e6bc34841b60… (all of the seat's roots in one cut). By AI agents, Wed Nov 11 2026. No macro, syntax, notation, axiom, sorry.
-/
import Derived.Test.YtaoaaffddillmaaChecked
import GoSem.Claim
import GoSem.ClaimJoined
import GoSem.ClaimMapViews
import Derived.JoinedTies
import Derived.KernelRfl
namespace Go.Proofs.Ytaoaaffddillmaa
/- THE CELL 'sum', in the pinned program and in every row, IS THE sha256 OF THE DUMP (.gsa) THAT YtaoaaffddillmaaProg.lean LOADS. Nothing in Lean hashes anything: it is a label: what it is worth is what the hold of that sum in a sandbox is worth. -/
noncomputable def Try.pinned : Pinned := { name := "ytaoaaffddillmaa", sum := "d7d9e6bc34841b600919ba48b0732754bc0febcaf622bedf1cce85ed3c2c9365", checked := Try.checked }
namespace Rows
def none {H : Type} : Left H := { results := [], args := [] }

/-- 'tollbridgelaw12.ActionsChecks': WHATEVER THE INPUT: true; the input reads as it did. -/
def actionsChecksSpec : ChangeSpec := { name := "actionsChecks", fn := fun _ => fun
  | [d] => { results := [.lit (.bool true)], args := [d] }
  | _ => none }
def actionsChecksRow : OpenClaim := { program := "ytaoaaffddillmaa", sum := "d7d9e6bc34841b600919ba48b0732754bc0febcaf622bedf1cce85ed3c2c9365", func := "tollbridge/tollbridgelaw12.ActionsChecks", spec := "actionsChecks", unfollowed := true, recurses := true, apart := false }
def ActionsChecksSaid : Prop := actionsChecksRow.holds Try.pinned (OpenSpec.ofChange actionsChecksSpec)

/-- ITS FALSE NEIGHBOUR: 'it returns false'. Refute it at one input. -/
def actionsChecksWrong : ChangeSpec := { name := "actionsChecks", fn := fun _ => fun
  | [d] => { results := [.lit (.bool false)], args := [d] }
  | _ => none }
def ActionsChecksWrongFalsely : Prop := actionsChecksRow.holds Try.pinned (OpenSpec.ofChange actionsChecksWrong)

/-- 'tollbridgelaw12.ActionsEach': WHATEVER THE INPUT: true; the input reads as it did. -/
def actionsEachSpec : ChangeSpec := { name := "actionsEach", fn := fun _ => fun
  | [d1, d2, d3, d4] => { results := [.lit (.bool true)], args := [d1, d2, d3, d4] }
  | _ => none }
def actionsEachRow : OpenClaim := { program := "ytaoaaffddillmaa", sum := "d7d9e6bc34841b600919ba48b0732754bc0febcaf622bedf1cce85ed3c2c9365", func := "tollbridge/tollbridgelaw12.ActionsEach", spec := "actionsEach", unfollowed := true, recurses := true, apart := false }
def ActionsEachSaid : Prop := actionsEachRow.holds Try.pinned (OpenSpec.ofChange actionsEachSpec)

/-- ITS FALSE NEIGHBOUR: 'it returns false'. Refute it at one input. -/
def actionsEachWrong : ChangeSpec := { name := "actionsEach", fn := fun _ => fun
  | [d1, d2, d3, d4] => { results := [.lit (.bool false)], args := [d1, d2, d3, d4] }
  | _ => none }
def ActionsEachWrongFalsely : Prop := actionsEachRow.holds Try.pinned (OpenSpec.ofChange actionsEachWrong)

/-- 'tollbridgelaw12.ActionsFields': WHATEVER THE INPUT: true; the input reads as it did. -/
def actionsFieldsSpec : ChangeSpec := { name := "actionsFields", fn := fun _ => fun
  | [d1, d2, d3] => { results := [.lit (.bool true)], args := [d1, d2, d3] }
  | _ => none }
def actionsFieldsRow : OpenClaim := { program := "ytaoaaffddillmaa", sum := "d7d9e6bc34841b600919ba48b0732754bc0febcaf622bedf1cce85ed3c2c9365", func := "tollbridge/tollbridgelaw12.ActionsFields", spec := "actionsFields", unfollowed := true, recurses := true, apart := false }
def ActionsFieldsSaid : Prop := actionsFieldsRow.holds Try.pinned (OpenSpec.ofChange actionsFieldsSpec)

/-- ITS FALSE NEIGHBOUR: 'it returns false'. Refute it at one input. -/
def actionsFieldsWrong : ChangeSpec := { name := "actionsFields", fn := fun _ => fun
  | [d1, d2, d3] => { results := [.lit (.bool false)], args := [d1, d2, d3] }
  | _ => none }
def ActionsFieldsWrongFalsely : Prop := actionsFieldsRow.holds Try.pinned (OpenSpec.ofChange actionsFieldsWrong)

/-- 'tollbridgelaw12.ActionsPorts': WHATEVER THE INPUT: true; the input reads as it did. -/
def actionsPortsSpec : ChangeSpec := { name := "actionsPorts", fn := fun _ => fun
  | [d1, d2, d3, d4] => { results := [.lit (.bool true)], args := [d1, d2, d3, d4] }
  | _ => none }
def actionsPortsRow : OpenClaim := { program := "ytaoaaffddillmaa", sum := "d7d9e6bc34841b600919ba48b0732754bc0febcaf622bedf1cce85ed3c2c9365", func := "tollbridge/tollbridgelaw12.ActionsPorts", spec := "actionsPorts", unfollowed := true, recurses := true, apart := false }
def ActionsPortsSaid : Prop := actionsPortsRow.holds Try.pinned (OpenSpec.ofChange actionsPortsSpec)

/-- ITS FALSE NEIGHBOUR: 'it returns false'. Refute it at one input. -/
def actionsPortsWrong : ChangeSpec := { name := "actionsPorts", fn := fun _ => fun
  | [d1, d2, d3, d4] => { results := [.lit (.bool false)], args := [d1, d2, d3, d4] }
  | _ => none }
def ActionsPortsWrongFalsely : Prop := actionsPortsRow.holds Try.pinned (OpenSpec.ofChange actionsPortsWrong)

/-- 'tollbridgelaw12.ActionsRun': WHATEVER THE INPUT: true; the input reads as it did. -/
def actionsRunSpec : ChangeSpec := { name := "actionsRun", fn := fun _ => fun
  | [d1, d2, d3] => { results := [.lit (.bool true)], args := [d1, d2, d3] }
  | _ => none }
def actionsRunRow : OpenClaim := { program := "ytaoaaffddillmaa", sum := "d7d9e6bc34841b600919ba48b0732754bc0febcaf622bedf1cce85ed3c2c9365", func := "tollbridge/tollbridgelaw12.ActionsRun", spec := "actionsRun", unfollowed := true, recurses := true, apart := false }
def ActionsRunSaid : Prop := actionsRunRow.holds Try.pinned (OpenSpec.ofChange actionsRunSpec)

/-- ITS FALSE NEIGHBOUR: 'it returns false'. Refute it at one input. -/
def actionsRunWrong : ChangeSpec := { name := "actionsRun", fn := fun _ => fun
  | [d1, d2, d3] => { results := [.lit (.bool false)], args := [d1, d2, d3] }
  | _ => none }
def ActionsRunWrongFalsely : Prop := actionsRunRow.holds Try.pinned (OpenSpec.ofChange actionsRunWrong)

/-- 'tollbridgelaw12.ActionsSame': WHATEVER THE INPUT: true; the input reads as it did. -/
def actionsSameSpec : ChangeSpec := { name := "actionsSame", fn := fun _ => fun
  | [d1, d2] => { results := [.lit (.bool true)], args := [d1, d2] }
  | _ => none }
def actionsSameRow : OpenClaim := { program := "ytaoaaffddillmaa", sum := "d7d9e6bc34841b600919ba48b0732754bc0febcaf622bedf1cce85ed3c2c9365", func := "tollbridge/tollbridgelaw12.ActionsSame", spec := "actionsSame", unfollowed := true, recurses := true, apart := false }
def ActionsSameSaid : Prop := actionsSameRow.holds Try.pinned (OpenSpec.ofChange actionsSameSpec)

/-- ITS FALSE NEIGHBOUR: 'it returns false'. Refute it at one input. -/
def actionsSameWrong : ChangeSpec := { name := "actionsSame", fn := fun _ => fun
  | [d1, d2] => { results := [.lit (.bool false)], args := [d1, d2] }
  | _ => none }
def ActionsSameWrongFalsely : Prop := actionsSameRow.holds Try.pinned (OpenSpec.ofChange actionsSameWrong)

/- THE SECOND FORM. 'bulk': how many values and letters a reading holds, each counted each time it is reached (what is shared counts as often as it is met; a slice's spare places count too). A statement '..UptoSaid' is the law's where the arguments, and the package variables that the reading takes, are together of bulk at most 1048576: NARROWER than '..Said'. Prove '..Said' where nothing that the law and all that it calls make is longer than what came in: it says more and counts as full. Else prove '..UptoSaid'. A law counts once. -/
mutual
def uptoBulk {H : Type} : DataW H → Nat
  | .lit (.string bytes) => bytes.length + 1
  | .lit _ => 1
  | .nil => 1
  | .ptr d => uptoBulk d + 1
  | .slice elems spare => uptoBulkAll elems + uptoBulkAll spare + 1
  | .agg parts => uptoBulkAll parts + 1
  | .iface _ d => uptoBulk d + 1
  | .map entries => uptoBulkEntries entries + 1
  | .held _ => 1
def uptoBulkAll {H : Type} : List (DataW H) → Nat
  | [] => 0
  | d :: r => uptoBulk d + uptoBulkAll r
def uptoBulkEntries {H : Type} : List (Lit × DataW H) → Nat
  | [] => 0
  | x :: r => uptoBulkEntry x + uptoBulkEntries r
def uptoBulkEntry {H : Type} : Lit × DataW H → Nat
  | (.string bytes, d) => bytes.length + uptoBulk d + 1
  | (_, d) => uptoBulk d + 1
 end
def uptoSmall : (H : Type) → List (DataW H) → Bool := fun _ ds => decide (uptoBulkAll ds ≤ 1048576)
def OpenSpec.upto (s : _root_.Go.ChangeSpec) : _root_.Go.OpenSpec := { _root_.Go.OpenSpec.ofChange s with cond := some uptoSmall }

/-- 'tollbridgelaw12.ActionsChecks', WHERE WHAT IT READS IS OF BULK AT MOST 1048576: true; the input reads as it did. -/
def actionsChecksUptoRow : OpenClaim := { program := "ytaoaaffddillmaa", sum := "d7d9e6bc34841b600919ba48b0732754bc0febcaf622bedf1cce85ed3c2c9365", func := "tollbridge/tollbridgelaw12.ActionsChecks", spec := "actionsChecks", unfollowed := true, recurses := true, apart := false, narrowed := true }
def ActionsChecksUptoSaid : Prop := actionsChecksUptoRow.holds Try.pinned (OpenSpec.upto actionsChecksSpec)

/-- 'tollbridgelaw12.ActionsEach', WHERE WHAT IT READS IS OF BULK AT MOST 1048576: true; the input reads as it did. -/
def actionsEachUptoRow : OpenClaim := { program := "ytaoaaffddillmaa", sum := "d7d9e6bc34841b600919ba48b0732754bc0febcaf622bedf1cce85ed3c2c9365", func := "tollbridge/tollbridgelaw12.ActionsEach", spec := "actionsEach", unfollowed := true, recurses := true, apart := false, narrowed := true }
def ActionsEachUptoSaid : Prop := actionsEachUptoRow.holds Try.pinned (OpenSpec.upto actionsEachSpec)

/-- 'tollbridgelaw12.ActionsFields', WHERE WHAT IT READS IS OF BULK AT MOST 1048576: true; the input reads as it did. -/
def actionsFieldsUptoRow : OpenClaim := { program := "ytaoaaffddillmaa", sum := "d7d9e6bc34841b600919ba48b0732754bc0febcaf622bedf1cce85ed3c2c9365", func := "tollbridge/tollbridgelaw12.ActionsFields", spec := "actionsFields", unfollowed := true, recurses := true, apart := false, narrowed := true }
def ActionsFieldsUptoSaid : Prop := actionsFieldsUptoRow.holds Try.pinned (OpenSpec.upto actionsFieldsSpec)

/-- 'tollbridgelaw12.ActionsPorts', WHERE WHAT IT READS IS OF BULK AT MOST 1048576: true; the input reads as it did. -/
def actionsPortsUptoRow : OpenClaim := { program := "ytaoaaffddillmaa", sum := "d7d9e6bc34841b600919ba48b0732754bc0febcaf622bedf1cce85ed3c2c9365", func := "tollbridge/tollbridgelaw12.ActionsPorts", spec := "actionsPorts", unfollowed := true, recurses := true, apart := false, narrowed := true }
def ActionsPortsUptoSaid : Prop := actionsPortsUptoRow.holds Try.pinned (OpenSpec.upto actionsPortsSpec)

/-- 'tollbridgelaw12.ActionsRun', WHERE WHAT IT READS IS OF BULK AT MOST 1048576: true; the input reads as it did. -/
def actionsRunUptoRow : OpenClaim := { program := "ytaoaaffddillmaa", sum := "d7d9e6bc34841b600919ba48b0732754bc0febcaf622bedf1cce85ed3c2c9365", func := "tollbridge/tollbridgelaw12.ActionsRun", spec := "actionsRun", unfollowed := true, recurses := true, apart := false, narrowed := true }
def ActionsRunUptoSaid : Prop := actionsRunUptoRow.holds Try.pinned (OpenSpec.upto actionsRunSpec)

/-- 'tollbridgelaw12.ActionsSame', WHERE WHAT IT READS IS OF BULK AT MOST 1048576: true; the input reads as it did. -/
def actionsSameUptoRow : OpenClaim := { program := "ytaoaaffddillmaa", sum := "d7d9e6bc34841b600919ba48b0732754bc0febcaf622bedf1cce85ed3c2c9365", func := "tollbridge/tollbridgelaw12.ActionsSame", spec := "actionsSame", unfollowed := true, recurses := true, apart := false, narrowed := true }
def ActionsSameUptoSaid : Prop := actionsSameUptoRow.holds Try.pinned (OpenSpec.upto actionsSameSpec)

end Rows
end Go.Proofs.Ytaoaaffddillmaa
