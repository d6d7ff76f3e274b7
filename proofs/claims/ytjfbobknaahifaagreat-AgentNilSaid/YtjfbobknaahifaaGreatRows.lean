/-
  No cell of these rows narrows 'for every input' (looked for: loops, veiled, ifaces, maps, wideKeys, modest, calm, conditions, laid).
  DERIVED. THE GIVEN ROWS OF THIS SEAT. 7 by the template 'for every input the law returns true; each argument reads behind the call as it read before'; 0 by the template 'total and deterministic' (their statements: YtjfbobknaahifaaGreatTotals.lean).
  GIVEN WITH THE SEED: the statements are not yours to turn. If you find one false, say at which input.
  Laid BY PROGRAM, IN A SANDBOX (cutbox-rows.mjs): the forced cells as the released guide's own fill.sh prints them over the translation 285e6dbae7f00953… (all of the seat's roots in one cut). By AI agents, Wed Nov 11 2026. No macro, syntax, notation, axiom, sorry.
-/
import Derived.Test.YtjfbobknaahifaaGreatChecked
import GoSem.Claim
import GoSem.ClaimJoined
import GoSem.ClaimMapViews
import Derived.JoinedTies
import Derived.KernelRfl
namespace Go.Proofs.YtjfbobknaahifaaGreat
/- THE CELL 'sum', in the pinned program and in every row, IS THE sha256 OF THE DUMP (.gsa) THAT YtjfbobknaahifaaGreatProg.lean LOADS. Nothing in Lean hashes anything: it is a label: what it is worth is what the hold of that sum in a sandbox is worth. -/
noncomputable def Tryz.pinned : Pinned := { name := "ytjfbobknaahifaagreat", sum := "285e6dbae7f00953e3f996f00667c20c466dbf3c37e38e4fa1768d94aa583b42", checked := Tryz.checked }
namespace Rows
def none {H : Type} : Left H := { results := [], args := [] }

/-- 'tollbridgelaw13.PipelineTags': WHATEVER THE INPUT: true; the input reads as it did. -/
def pipelineTagsSpec : ChangeSpec := { name := "pipelineTags", fn := fun _ => fun
  | [d1, d2] => { results := [.lit (.bool true)], args := [d1, d2] }
  | _ => none }
def pipelineTagsRow : OpenClaim := { program := "ytjfbobknaahifaagreat", sum := "285e6dbae7f00953e3f996f00667c20c466dbf3c37e38e4fa1768d94aa583b42", func := "tollbridge/tollbridgelaw13.PipelineTags", spec := "pipelineTags", unfollowed := true, recurses := true, plainKeys := false, apart := false }
def PipelineTagsSaid : Prop := pipelineTagsRow.holds Tryz.pinned (OpenSpec.ofChange pipelineTagsSpec)

/-- ITS FALSE NEIGHBOUR: 'it returns false'. Refute it at one input. -/
def pipelineTagsWrong : ChangeSpec := { name := "pipelineTags", fn := fun _ => fun
  | [d1, d2] => { results := [.lit (.bool false)], args := [d1, d2] }
  | _ => none }
def PipelineTagsWrongFalsely : Prop := pipelineTagsRow.holds Tryz.pinned (OpenSpec.ofChange pipelineTagsWrong)

/-- 'tollbridgelaw13.PipelineCounts': WHATEVER THE INPUT: true; the input reads as it did. -/
def pipelineCountsSpec : ChangeSpec := { name := "pipelineCounts", fn := fun _ => fun
  | [d1, d2, d3] => { results := [.lit (.bool true)], args := [d1, d2, d3] }
  | _ => none }
def pipelineCountsRow : OpenClaim := { program := "ytjfbobknaahifaagreat", sum := "285e6dbae7f00953e3f996f00667c20c466dbf3c37e38e4fa1768d94aa583b42", func := "tollbridge/tollbridgelaw13.PipelineCounts", spec := "pipelineCounts", unfollowed := true, recurses := true, plainKeys := false, apart := false }
def PipelineCountsSaid : Prop := pipelineCountsRow.holds Tryz.pinned (OpenSpec.ofChange pipelineCountsSpec)

/-- ITS FALSE NEIGHBOUR: 'it returns false'. Refute it at one input. -/
def pipelineCountsWrong : ChangeSpec := { name := "pipelineCounts", fn := fun _ => fun
  | [d1, d2, d3] => { results := [.lit (.bool false)], args := [d1, d2, d3] }
  | _ => none }
def PipelineCountsWrongFalsely : Prop := pipelineCountsRow.holds Tryz.pinned (OpenSpec.ofChange pipelineCountsWrong)

/-- 'tollbridgelaw13.PipelineNil': WHATEVER THE INPUT: true; the input reads as it did. -/
def pipelineNilSpec : ChangeSpec := { name := "pipelineNil", fn := fun _ => fun
  | [d] => { results := [.lit (.bool true)], args := [d] }
  | _ => none }
def pipelineNilRow : OpenClaim := { program := "ytjfbobknaahifaagreat", sum := "285e6dbae7f00953e3f996f00667c20c466dbf3c37e38e4fa1768d94aa583b42", func := "tollbridge/tollbridgelaw13.PipelineNil", spec := "pipelineNil", unfollowed := true, recurses := true, plainKeys := false, apart := false }
def PipelineNilSaid : Prop := pipelineNilRow.holds Tryz.pinned (OpenSpec.ofChange pipelineNilSpec)

/-- ITS FALSE NEIGHBOUR: 'it returns false'. Refute it at one input. -/
def pipelineNilWrong : ChangeSpec := { name := "pipelineNil", fn := fun _ => fun
  | [d] => { results := [.lit (.bool false)], args := [d] }
  | _ => none }
def PipelineNilWrongFalsely : Prop := pipelineNilRow.holds Tryz.pinned (OpenSpec.ofChange pipelineNilWrong)

/-- 'tollbridgelaw14.AgentBarriers': WHATEVER THE INPUT: true; the input reads as it did. -/
def agentBarriersSpec : ChangeSpec := { name := "agentBarriers", fn := fun _ => fun
  | [d1, d2] => { results := [.lit (.bool true)], args := [d1, d2] }
  | _ => none }
def agentBarriersRow : OpenClaim := { program := "ytjfbobknaahifaagreat", sum := "285e6dbae7f00953e3f996f00667c20c466dbf3c37e38e4fa1768d94aa583b42", func := "tollbridge/tollbridgelaw14.AgentBarriers", spec := "agentBarriers", unfollowed := true, recurses := true, plainKeys := false, apart := false }
def AgentBarriersSaid : Prop := agentBarriersRow.holds Tryz.pinned (OpenSpec.ofChange agentBarriersSpec)

/-- ITS FALSE NEIGHBOUR: 'it returns false'. Refute it at one input. -/
def agentBarriersWrong : ChangeSpec := { name := "agentBarriers", fn := fun _ => fun
  | [d1, d2] => { results := [.lit (.bool false)], args := [d1, d2] }
  | _ => none }
def AgentBarriersWrongFalsely : Prop := agentBarriersRow.holds Tryz.pinned (OpenSpec.ofChange agentBarriersWrong)

/-- 'tollbridgelaw14.AgentStates': WHATEVER THE INPUT: true; the input reads as it did. -/
def agentStatesSpec : ChangeSpec := { name := "agentStates", fn := fun _ => fun
  | [d1, d2, d3] => { results := [.lit (.bool true)], args := [d1, d2, d3] }
  | _ => none }
def agentStatesRow : OpenClaim := { program := "ytjfbobknaahifaagreat", sum := "285e6dbae7f00953e3f996f00667c20c466dbf3c37e38e4fa1768d94aa583b42", func := "tollbridge/tollbridgelaw14.AgentStates", spec := "agentStates", unfollowed := true, recurses := true, plainKeys := false, apart := false }
def AgentStatesSaid : Prop := agentStatesRow.holds Tryz.pinned (OpenSpec.ofChange agentStatesSpec)

/-- ITS FALSE NEIGHBOUR: 'it returns false'. Refute it at one input. -/
def agentStatesWrong : ChangeSpec := { name := "agentStates", fn := fun _ => fun
  | [d1, d2, d3] => { results := [.lit (.bool false)], args := [d1, d2, d3] }
  | _ => none }
def AgentStatesWrongFalsely : Prop := agentStatesRow.holds Tryz.pinned (OpenSpec.ofChange agentStatesWrong)

/-- 'tollbridgelaw14.AgentNil': WHATEVER THE INPUT: true; the input reads as it did. -/
def agentNilSpec : ChangeSpec := { name := "agentNil", fn := fun _ => fun
  | [d1, d2, d3] => { results := [.lit (.bool true)], args := [d1, d2, d3] }
  | _ => none }
def agentNilRow : OpenClaim := { program := "ytjfbobknaahifaagreat", sum := "285e6dbae7f00953e3f996f00667c20c466dbf3c37e38e4fa1768d94aa583b42", func := "tollbridge/tollbridgelaw14.AgentNil", spec := "agentNil", unfollowed := true, recurses := true, plainKeys := false, apart := false }
def AgentNilSaid : Prop := agentNilRow.holds Tryz.pinned (OpenSpec.ofChange agentNilSpec)

/-- ITS FALSE NEIGHBOUR: 'it returns false'. Refute it at one input. -/
def agentNilWrong : ChangeSpec := { name := "agentNil", fn := fun _ => fun
  | [d1, d2, d3] => { results := [.lit (.bool false)], args := [d1, d2, d3] }
  | _ => none }
def AgentNilWrongFalsely : Prop := agentNilRow.holds Tryz.pinned (OpenSpec.ofChange agentNilWrong)

/-- 'tollbridgelaw14.AgentSame': WHATEVER THE INPUT: true; the input reads as it did. -/
def agentSameSpec : ChangeSpec := { name := "agentSame", fn := fun _ => fun
  | [d1, d2, d3] => { results := [.lit (.bool true)], args := [d1, d2, d3] }
  | _ => none }
def agentSameRow : OpenClaim := { program := "ytjfbobknaahifaagreat", sum := "285e6dbae7f00953e3f996f00667c20c466dbf3c37e38e4fa1768d94aa583b42", func := "tollbridge/tollbridgelaw14.AgentSame", spec := "agentSame", unfollowed := true, recurses := true, plainKeys := false, apart := false }
def AgentSameSaid : Prop := agentSameRow.holds Tryz.pinned (OpenSpec.ofChange agentSameSpec)

/-- ITS FALSE NEIGHBOUR: 'it returns false'. Refute it at one input. -/
def agentSameWrong : ChangeSpec := { name := "agentSame", fn := fun _ => fun
  | [d1, d2, d3] => { results := [.lit (.bool false)], args := [d1, d2, d3] }
  | _ => none }
def AgentSameWrongFalsely : Prop := agentSameRow.holds Tryz.pinned (OpenSpec.ofChange agentSameWrong)

/- THE SECOND FORM. 'bulk': how many values and letters a reading holds, each counted each time it is reached (what is shared counts as often as it is met; a slice's spare places count too). A statement '..UptoSaid' is the law's where the arguments, and the package variables that the reading takes, are together of bulk at most 1048576: NARROWER than '..Said'. Prove '..Said' where nothing that the law and all that it calls make is longer than what came in: it says more and counts as full. Else prove '..UptoSaid'. A law counts once. -/
mutual
def uptoBulk {H : Type} : DataW H → Nat
  | .lit (.string bytes) => bytes.length + 1
  | .lit _ => 1
  | .nil => 1
  | .ptr d => uptoBulk d + 1
  | .slice elems spare => uptoBulkAll elems + uptoBulkAll spare + 1
  | .agg parts => uptoBulkAll parts + 1
  | .iface _ d => uptoBulk d + 1
  | .map entries => uptoBulkEntries entries + 1
  | .held _ => 1
def uptoBulkAll {H : Type} : List (DataW H) → Nat
  | [] => 0
  | d :: r => uptoBulk d + uptoBulkAll r
def uptoBulkEntries {H : Type} : List (Lit × DataW H) → Nat
  | [] => 0
  | x :: r => uptoBulkEntry x + uptoBulkEntries r
def uptoBulkEntry {H : Type} : Lit × DataW H → Nat
  | (.string bytes, d) => bytes.length + uptoBulk d + 1
  | (_, d) => uptoBulk d + 1
 end
def uptoSmall : (H : Type) → List (DataW H) → Bool := fun _ ds => decide (uptoBulkAll ds ≤ 1048576)
def OpenSpec.upto (s : _root_.Go.ChangeSpec) : _root_.Go.OpenSpec := { _root_.Go.OpenSpec.ofChange s with cond := some uptoSmall }

/-- 'tollbridgelaw13.PipelineTags', WHERE WHAT IT READS IS OF BULK AT MOST 1048576: true; the input reads as it did. -/
def pipelineTagsUptoRow : OpenClaim := { program := "ytjfbobknaahifaagreat", sum := "285e6dbae7f00953e3f996f00667c20c466dbf3c37e38e4fa1768d94aa583b42", func := "tollbridge/tollbridgelaw13.PipelineTags", spec := "pipelineTags", unfollowed := true, recurses := true, plainKeys := false, apart := false, narrowed := true }
def PipelineTagsUptoSaid : Prop := pipelineTagsUptoRow.holds Tryz.pinned (OpenSpec.upto pipelineTagsSpec)

/-- 'tollbridgelaw13.PipelineCounts', WHERE WHAT IT READS IS OF BULK AT MOST 1048576: true; the input reads as it did. -/
def pipelineCountsUptoRow : OpenClaim := { program := "ytjfbobknaahifaagreat", sum := "285e6dbae7f00953e3f996f00667c20c466dbf3c37e38e4fa1768d94aa583b42", func := "tollbridge/tollbridgelaw13.PipelineCounts", spec := "pipelineCounts", unfollowed := true, recurses := true, plainKeys := false, apart := false, narrowed := true }
def PipelineCountsUptoSaid : Prop := pipelineCountsUptoRow.holds Tryz.pinned (OpenSpec.upto pipelineCountsSpec)

/-- 'tollbridgelaw13.PipelineNil', WHERE WHAT IT READS IS OF BULK AT MOST 1048576: true; the input reads as it did. -/
def pipelineNilUptoRow : OpenClaim := { program := "ytjfbobknaahifaagreat", sum := "285e6dbae7f00953e3f996f00667c20c466dbf3c37e38e4fa1768d94aa583b42", func := "tollbridge/tollbridgelaw13.PipelineNil", spec := "pipelineNil", unfollowed := true, recurses := true, plainKeys := false, apart := false, narrowed := true }
def PipelineNilUptoSaid : Prop := pipelineNilUptoRow.holds Tryz.pinned (OpenSpec.upto pipelineNilSpec)

/-- 'tollbridgelaw14.AgentBarriers', WHERE WHAT IT READS IS OF BULK AT MOST 1048576: true; the input reads as it did. -/
def agentBarriersUptoRow : OpenClaim := { program := "ytjfbobknaahifaagreat", sum := "285e6dbae7f00953e3f996f00667c20c466dbf3c37e38e4fa1768d94aa583b42", func := "tollbridge/tollbridgelaw14.AgentBarriers", spec := "agentBarriers", unfollowed := true, recurses := true, plainKeys := false, apart := false, narrowed := true }
def AgentBarriersUptoSaid : Prop := agentBarriersUptoRow.holds Tryz.pinned (OpenSpec.upto agentBarriersSpec)

/-- 'tollbridgelaw14.AgentStates', WHERE WHAT IT READS IS OF BULK AT MOST 1048576: true; the input reads as it did. -/
def agentStatesUptoRow : OpenClaim := { program := "ytjfbobknaahifaagreat", sum := "285e6dbae7f00953e3f996f00667c20c466dbf3c37e38e4fa1768d94aa583b42", func := "tollbridge/tollbridgelaw14.AgentStates", spec := "agentStates", unfollowed := true, recurses := true, plainKeys := false, apart := false, narrowed := true }
def AgentStatesUptoSaid : Prop := agentStatesUptoRow.holds Tryz.pinned (OpenSpec.upto agentStatesSpec)

/-- 'tollbridgelaw14.AgentNil', WHERE WHAT IT READS IS OF BULK AT MOST 1048576: true; the input reads as it did. -/
def agentNilUptoRow : OpenClaim := { program := "ytjfbobknaahifaagreat", sum := "285e6dbae7f00953e3f996f00667c20c466dbf3c37e38e4fa1768d94aa583b42", func := "tollbridge/tollbridgelaw14.AgentNil", spec := "agentNil", unfollowed := true, recurses := true, plainKeys := false, apart := false, narrowed := true }
def AgentNilUptoSaid : Prop := agentNilUptoRow.holds Tryz.pinned (OpenSpec.upto agentNilSpec)

/-- 'tollbridgelaw14.AgentSame', WHERE WHAT IT READS IS OF BULK AT MOST 1048576: true; the input reads as it did. -/
def agentSameUptoRow : OpenClaim := { program := "ytjfbobknaahifaagreat", sum := "285e6dbae7f00953e3f996f00667c20c466dbf3c37e38e4fa1768d94aa583b42", func := "tollbridge/tollbridgelaw14.AgentSame", spec := "agentSame", unfollowed := true, recurses := true, plainKeys := false, apart := false, narrowed := true }
def AgentSameUptoSaid : Prop := agentSameUptoRow.holds Tryz.pinned (OpenSpec.upto agentSameSpec)

end Rows
end Go.Proofs.YtjfbobknaahifaaGreat
