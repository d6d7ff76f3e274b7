/-
  No cell of these rows narrows 'for every input' (looked for: loops, veiled, ifaces, maps, wideKeys, modest, calm, conditions, laid).
  DERIVED. THE GIVEN ROWS OF THIS SEAT. 9 by the template 'for every input the law returns true; each argument reads behind the call as it read before'; 0 by the template 'total and deterministic' (their statements: YtmbjjelbpnbmoaaTotals.lean).
  GIVEN WITH THE SEED: the statements are not yours to turn. If you find one false, say at which input.
  Laid BY PROGRAM, IN A SANDBOX (cutbox-rows.mjs): the forced cells as the released guide's own fill.sh prints them over the translation 9ea2dfc4bfb3a94f… (all of the seat's roots in one cut). By AI agents, Wed Nov 11 2026. No macro, syntax, notation, axiom, sorry.
-/
import Derived.Test.YtmbjjelbpnbmoaaChecked
import GoSem.Claim
import GoSem.ClaimJoined
import GoSem.ClaimMapViews
import Derived.JoinedTies
import Derived.KernelRfl
namespace Go.Proofs.Ytmbjjelbpnbmoaa
/- THE CELL 'sum', in the pinned program and in every row, IS THE sha256 OF THE DUMP (.gsa) THAT YtmbjjelbpnbmoaaProg.lean LOADS. Nothing in Lean hashes anything: it is a label: what it is worth is what the hold of that sum in a sandbox is worth. -/
noncomputable def Try.pinned : Pinned := { name := "ytmbjjelbpnbmoaa", sum := "9ea2dfc4bfb3a94f172aee2f83394e811084bdf13cdecf1eaf6f472fe555f4e7", checked := Try.checked }
namespace Rows
def none {H : Type} : Left H := { results := [], args := [] }

/-- 'tollbridgelaw03.FrameReads': WHATEVER THE INPUT: true; the input reads as it did. -/
def frameReadsSpec : ChangeSpec := { name := "frameReads", fn := fun _ => fun
  | [d] => { results := [.lit (.bool true)], args := [d] }
  | _ => none }
def frameReadsRow : OpenClaim := { program := "ytmbjjelbpnbmoaa", sum := "9ea2dfc4bfb3a94f172aee2f83394e811084bdf13cdecf1eaf6f472fe555f4e7", func := "tollbridge/tollbridgelaw03.FrameReads", spec := "frameReads", unfollowed := true, recurses := true, apart := false }
def FrameReadsSaid : Prop := frameReadsRow.holds Try.pinned (OpenSpec.ofChange frameReadsSpec)

/-- ITS FALSE NEIGHBOUR: 'it returns false'. Refute it at one input. -/
def frameReadsWrong : ChangeSpec := { name := "frameReads", fn := fun _ => fun
  | [d] => { results := [.lit (.bool false)], args := [d] }
  | _ => none }
def FrameReadsWrongFalsely : Prop := frameReadsRow.holds Try.pinned (OpenSpec.ofChange frameReadsWrong)

/-- 'tollbridgelaw03.FrameBack': WHATEVER THE INPUT: true; the input reads as it did. -/
def frameBackSpec : ChangeSpec := { name := "frameBack", fn := fun _ => fun
  | [d1, d2] => { results := [.lit (.bool true)], args := [d1, d2] }
  | _ => none }
def frameBackRow : OpenClaim := { program := "ytmbjjelbpnbmoaa", sum := "9ea2dfc4bfb3a94f172aee2f83394e811084bdf13cdecf1eaf6f472fe555f4e7", func := "tollbridge/tollbridgelaw03.FrameBack", spec := "frameBack", unfollowed := true, recurses := true, apart := false }
def FrameBackSaid : Prop := frameBackRow.holds Try.pinned (OpenSpec.ofChange frameBackSpec)

/-- ITS FALSE NEIGHBOUR: 'it returns false'. Refute it at one input. -/
def frameBackWrong : ChangeSpec := { name := "frameBack", fn := fun _ => fun
  | [d1, d2] => { results := [.lit (.bool false)], args := [d1, d2] }
  | _ => none }
def FrameBackWrongFalsely : Prop := frameBackRow.holds Try.pinned (OpenSpec.ofChange frameBackWrong)

/-- 'tollbridgelaw03.FrameSpoilt': WHATEVER THE INPUT: true; the input reads as it did. -/
def frameSpoiltSpec : ChangeSpec := { name := "frameSpoilt", fn := fun _ => fun
  | [d1, d2, d3] => { results := [.lit (.bool true)], args := [d1, d2, d3] }
  | _ => none }
def frameSpoiltRow : OpenClaim := { program := "ytmbjjelbpnbmoaa", sum := "9ea2dfc4bfb3a94f172aee2f83394e811084bdf13cdecf1eaf6f472fe555f4e7", func := "tollbridge/tollbridgelaw03.FrameSpoilt", spec := "frameSpoilt", unfollowed := true, recurses := true, apart := false }
def FrameSpoiltSaid : Prop := frameSpoiltRow.holds Try.pinned (OpenSpec.ofChange frameSpoiltSpec)

/-- ITS FALSE NEIGHBOUR: 'it returns false'. Refute it at one input. -/
def frameSpoiltWrong : ChangeSpec := { name := "frameSpoilt", fn := fun _ => fun
  | [d1, d2, d3] => { results := [.lit (.bool false)], args := [d1, d2, d3] }
  | _ => none }
def FrameSpoiltWrongFalsely : Prop := frameSpoiltRow.holds Try.pinned (OpenSpec.ofChange frameSpoiltWrong)

/-- 'tollbridgelaw03.FrameSums': WHATEVER THE INPUT: true; the input reads as it did. -/
def frameSumsSpec : ChangeSpec := { name := "frameSums", fn := fun _ => fun
  | [d] => { results := [.lit (.bool true)], args := [d] }
  | _ => none }
def frameSumsRow : OpenClaim := { program := "ytmbjjelbpnbmoaa", sum := "9ea2dfc4bfb3a94f172aee2f83394e811084bdf13cdecf1eaf6f472fe555f4e7", func := "tollbridge/tollbridgelaw03.FrameSums", spec := "frameSums", unfollowed := true, recurses := true, apart := false }
def FrameSumsSaid : Prop := frameSumsRow.holds Try.pinned (OpenSpec.ofChange frameSumsSpec)

/-- ITS FALSE NEIGHBOUR: 'it returns false'. Refute it at one input. -/
def frameSumsWrong : ChangeSpec := { name := "frameSums", fn := fun _ => fun
  | [d] => { results := [.lit (.bool false)], args := [d] }
  | _ => none }
def FrameSumsWrongFalsely : Prop := frameSumsRow.holds Try.pinned (OpenSpec.ofChange frameSumsWrong)

/-- 'tollbridgelaw04.ArpAsks': WHATEVER THE INPUT: true; the input reads as it did. -/
def arpAsksSpec : ChangeSpec := { name := "arpAsks", fn := fun _ => fun
  | [d1, d2, d3] => { results := [.lit (.bool true)], args := [d1, d2, d3] }
  | _ => none }
def arpAsksRow : OpenClaim := { program := "ytmbjjelbpnbmoaa", sum := "9ea2dfc4bfb3a94f172aee2f83394e811084bdf13cdecf1eaf6f472fe555f4e7", func := "tollbridge/tollbridgelaw04.ArpAsks", spec := "arpAsks", unfollowed := true, recurses := true, apart := false }
def ArpAsksSaid : Prop := arpAsksRow.holds Try.pinned (OpenSpec.ofChange arpAsksSpec)

/-- ITS FALSE NEIGHBOUR: 'it returns false'. Refute it at one input. -/
def arpAsksWrong : ChangeSpec := { name := "arpAsks", fn := fun _ => fun
  | [d1, d2, d3] => { results := [.lit (.bool false)], args := [d1, d2, d3] }
  | _ => none }
def ArpAsksWrongFalsely : Prop := arpAsksRow.holds Try.pinned (OpenSpec.ofChange arpAsksWrong)

/-- 'tollbridgelaw04.ArpAnswers': WHATEVER THE INPUT: true; the input reads as it did. -/
def arpAnswersSpec : ChangeSpec := { name := "arpAnswers", fn := fun _ => fun
  | [d1, d2] => { results := [.lit (.bool true)], args := [d1, d2] }
  | _ => none }
def arpAnswersRow : OpenClaim := { program := "ytmbjjelbpnbmoaa", sum := "9ea2dfc4bfb3a94f172aee2f83394e811084bdf13cdecf1eaf6f472fe555f4e7", func := "tollbridge/tollbridgelaw04.ArpAnswers", spec := "arpAnswers", unfollowed := true, recurses := true, apart := false }
def ArpAnswersSaid : Prop := arpAnswersRow.holds Try.pinned (OpenSpec.ofChange arpAnswersSpec)

/-- ITS FALSE NEIGHBOUR: 'it returns false'. Refute it at one input. -/
def arpAnswersWrong : ChangeSpec := { name := "arpAnswers", fn := fun _ => fun
  | [d1, d2] => { results := [.lit (.bool false)], args := [d1, d2] }
  | _ => none }
def ArpAnswersWrongFalsely : Prop := arpAnswersRow.holds Try.pinned (OpenSpec.ofChange arpAnswersWrong)

/-- 'tollbridgelaw04.ArpReads': WHATEVER THE INPUT: true; the input reads as it did. -/
def arpReadsSpec : ChangeSpec := { name := "arpReads", fn := fun _ => fun
  | [d] => { results := [.lit (.bool true)], args := [d] }
  | _ => none }
def arpReadsRow : OpenClaim := { program := "ytmbjjelbpnbmoaa", sum := "9ea2dfc4bfb3a94f172aee2f83394e811084bdf13cdecf1eaf6f472fe555f4e7", func := "tollbridge/tollbridgelaw04.ArpReads", spec := "arpReads", unfollowed := true, recurses := true, apart := false }
def ArpReadsSaid : Prop := arpReadsRow.holds Try.pinned (OpenSpec.ofChange arpReadsSpec)

/-- ITS FALSE NEIGHBOUR: 'it returns false'. Refute it at one input. -/
def arpReadsWrong : ChangeSpec := { name := "arpReads", fn := fun _ => fun
  | [d] => { results := [.lit (.bool false)], args := [d] }
  | _ => none }
def ArpReadsWrongFalsely : Prop := arpReadsRow.holds Try.pinned (OpenSpec.ofChange arpReadsWrong)

/-- 'tollbridgelaw04.ArpBack': WHATEVER THE INPUT: true; the input reads as it did. -/
def arpBackSpec : ChangeSpec := { name := "arpBack", fn := fun _ => fun
  | [d1, d2, d3, d4] => { results := [.lit (.bool true)], args := [d1, d2, d3, d4] }
  | _ => none }
def arpBackRow : OpenClaim := { program := "ytmbjjelbpnbmoaa", sum := "9ea2dfc4bfb3a94f172aee2f83394e811084bdf13cdecf1eaf6f472fe555f4e7", func := "tollbridge/tollbridgelaw04.ArpBack", spec := "arpBack", unfollowed := true, recurses := true, apart := false }
def ArpBackSaid : Prop := arpBackRow.holds Try.pinned (OpenSpec.ofChange arpBackSpec)

/-- ITS FALSE NEIGHBOUR: 'it returns false'. Refute it at one input. -/
def arpBackWrong : ChangeSpec := { name := "arpBack", fn := fun _ => fun
  | [d1, d2, d3, d4] => { results := [.lit (.bool false)], args := [d1, d2, d3, d4] }
  | _ => none }
def ArpBackWrongFalsely : Prop := arpBackRow.holds Try.pinned (OpenSpec.ofChange arpBackWrong)

/-- 'tollbridgelaw04.ArpTagged': WHATEVER THE INPUT: true; the input reads as it did. -/
def arpTaggedSpec : ChangeSpec := { name := "arpTagged", fn := fun _ => fun
  | [d1, d2, d3, d4] => { results := [.lit (.bool true)], args := [d1, d2, d3, d4] }
  | _ => none }
def arpTaggedRow : OpenClaim := { program := "ytmbjjelbpnbmoaa", sum := "9ea2dfc4bfb3a94f172aee2f83394e811084bdf13cdecf1eaf6f472fe555f4e7", func := "tollbridge/tollbridgelaw04.ArpTagged", spec := "arpTagged", unfollowed := true, recurses := true, apart := false }
def ArpTaggedSaid : Prop := arpTaggedRow.holds Try.pinned (OpenSpec.ofChange arpTaggedSpec)

/-- ITS FALSE NEIGHBOUR: 'it returns false'. Refute it at one input. -/
def arpTaggedWrong : ChangeSpec := { name := "arpTagged", fn := fun _ => fun
  | [d1, d2, d3, d4] => { results := [.lit (.bool false)], args := [d1, d2, d3, d4] }
  | _ => none }
def ArpTaggedWrongFalsely : Prop := arpTaggedRow.holds Try.pinned (OpenSpec.ofChange arpTaggedWrong)

/- THE SECOND FORM. 'bulk': how many values and letters a reading holds, each counted each time it is reached (what is shared counts as often as it is met; a slice's spare places count too). A statement '..UptoSaid' is the law's where the arguments, and the package variables that the reading takes, are together of bulk at most 1048576: NARROWER than '..Said'. Prove '..Said' where nothing that the law and all that it calls make is longer than what came in: it says more and counts as full. Else prove '..UptoSaid'. A law counts once. -/
mutual
def uptoBulk {H : Type} : DataW H → Nat
  | .lit (.string bytes) => bytes.length + 1
  | .lit _ => 1
  | .nil => 1
  | .ptr d => uptoBulk d + 1
  | .slice elems spare => uptoBulkAll elems + uptoBulkAll spare + 1
  | .agg parts => uptoBulkAll parts + 1
  | .iface _ d => uptoBulk d + 1
  | .map entries => uptoBulkEntries entries + 1
  | .held _ => 1
def uptoBulkAll {H : Type} : List (DataW H) → Nat
  | [] => 0
  | d :: r => uptoBulk d + uptoBulkAll r
def uptoBulkEntries {H : Type} : List (Lit × DataW H) → Nat
  | [] => 0
  | x :: r => uptoBulkEntry x + uptoBulkEntries r
def uptoBulkEntry {H : Type} : Lit × DataW H → Nat
  | (.string bytes, d) => bytes.length + uptoBulk d + 1
  | (_, d) => uptoBulk d + 1
 end
def uptoSmall : (H : Type) → List (DataW H) → Bool := fun _ ds => decide (uptoBulkAll ds ≤ 1048576)
def OpenSpec.upto (s : _root_.Go.ChangeSpec) : _root_.Go.OpenSpec := { _root_.Go.OpenSpec.ofChange s with cond := some uptoSmall }

/-- 'tollbridgelaw03.FrameReads', WHERE WHAT IT READS IS OF BULK AT MOST 1048576: true; the input reads as it did. -/
def frameReadsUptoRow : OpenClaim := { program := "ytmbjjelbpnbmoaa", sum := "9ea2dfc4bfb3a94f172aee2f83394e811084bdf13cdecf1eaf6f472fe555f4e7", func := "tollbridge/tollbridgelaw03.FrameReads", spec := "frameReads", unfollowed := true, recurses := true, apart := false, narrowed := true }
def FrameReadsUptoSaid : Prop := frameReadsUptoRow.holds Try.pinned (OpenSpec.upto frameReadsSpec)

/-- 'tollbridgelaw03.FrameBack', WHERE WHAT IT READS IS OF BULK AT MOST 1048576: true; the input reads as it did. -/
def frameBackUptoRow : OpenClaim := { program := "ytmbjjelbpnbmoaa", sum := "9ea2dfc4bfb3a94f172aee2f83394e811084bdf13cdecf1eaf6f472fe555f4e7", func := "tollbridge/tollbridgelaw03.FrameBack", spec := "frameBack", unfollowed := true, recurses := true, apart := false, narrowed := true }
def FrameBackUptoSaid : Prop := frameBackUptoRow.holds Try.pinned (OpenSpec.upto frameBackSpec)

/-- 'tollbridgelaw03.FrameSpoilt', WHERE WHAT IT READS IS OF BULK AT MOST 1048576: true; the input reads as it did. -/
def frameSpoiltUptoRow : OpenClaim := { program := "ytmbjjelbpnbmoaa", sum := "9ea2dfc4bfb3a94f172aee2f83394e811084bdf13cdecf1eaf6f472fe555f4e7", func := "tollbridge/tollbridgelaw03.FrameSpoilt", spec := "frameSpoilt", unfollowed := true, recurses := true, apart := false, narrowed := true }
def FrameSpoiltUptoSaid : Prop := frameSpoiltUptoRow.holds Try.pinned (OpenSpec.upto frameSpoiltSpec)

/-- 'tollbridgelaw03.FrameSums', WHERE WHAT IT READS IS OF BULK AT MOST 1048576: true; the input reads as it did. -/
def frameSumsUptoRow : OpenClaim := { program := "ytmbjjelbpnbmoaa", sum := "9ea2dfc4bfb3a94f172aee2f83394e811084bdf13cdecf1eaf6f472fe555f4e7", func := "tollbridge/tollbridgelaw03.FrameSums", spec := "frameSums", unfollowed := true, recurses := true, apart := false, narrowed := true }
def FrameSumsUptoSaid : Prop := frameSumsUptoRow.holds Try.pinned (OpenSpec.upto frameSumsSpec)

/-- 'tollbridgelaw04.ArpAsks', WHERE WHAT IT READS IS OF BULK AT MOST 1048576: true; the input reads as it did. -/
def arpAsksUptoRow : OpenClaim := { program := "ytmbjjelbpnbmoaa", sum := "9ea2dfc4bfb3a94f172aee2f83394e811084bdf13cdecf1eaf6f472fe555f4e7", func := "tollbridge/tollbridgelaw04.ArpAsks", spec := "arpAsks", unfollowed := true, recurses := true, apart := false, narrowed := true }
def ArpAsksUptoSaid : Prop := arpAsksUptoRow.holds Try.pinned (OpenSpec.upto arpAsksSpec)

/-- 'tollbridgelaw04.ArpAnswers', WHERE WHAT IT READS IS OF BULK AT MOST 1048576: true; the input reads as it did. -/
def arpAnswersUptoRow : OpenClaim := { program := "ytmbjjelbpnbmoaa", sum := "9ea2dfc4bfb3a94f172aee2f83394e811084bdf13cdecf1eaf6f472fe555f4e7", func := "tollbridge/tollbridgelaw04.ArpAnswers", spec := "arpAnswers", unfollowed := true, recurses := true, apart := false, narrowed := true }
def ArpAnswersUptoSaid : Prop := arpAnswersUptoRow.holds Try.pinned (OpenSpec.upto arpAnswersSpec)

/-- 'tollbridgelaw04.ArpReads', WHERE WHAT IT READS IS OF BULK AT MOST 1048576: true; the input reads as it did. -/
def arpReadsUptoRow : OpenClaim := { program := "ytmbjjelbpnbmoaa", sum := "9ea2dfc4bfb3a94f172aee2f83394e811084bdf13cdecf1eaf6f472fe555f4e7", func := "tollbridge/tollbridgelaw04.ArpReads", spec := "arpReads", unfollowed := true, recurses := true, apart := false, narrowed := true }
def ArpReadsUptoSaid : Prop := arpReadsUptoRow.holds Try.pinned (OpenSpec.upto arpReadsSpec)

/-- 'tollbridgelaw04.ArpBack', WHERE WHAT IT READS IS OF BULK AT MOST 1048576: true; the input reads as it did. -/
def arpBackUptoRow : OpenClaim := { program := "ytmbjjelbpnbmoaa", sum := "9ea2dfc4bfb3a94f172aee2f83394e811084bdf13cdecf1eaf6f472fe555f4e7", func := "tollbridge/tollbridgelaw04.ArpBack", spec := "arpBack", unfollowed := true, recurses := true, apart := false, narrowed := true }
def ArpBackUptoSaid : Prop := arpBackUptoRow.holds Try.pinned (OpenSpec.upto arpBackSpec)

/-- 'tollbridgelaw04.ArpTagged', WHERE WHAT IT READS IS OF BULK AT MOST 1048576: true; the input reads as it did. -/
def arpTaggedUptoRow : OpenClaim := { program := "ytmbjjelbpnbmoaa", sum := "9ea2dfc4bfb3a94f172aee2f83394e811084bdf13cdecf1eaf6f472fe555f4e7", func := "tollbridge/tollbridgelaw04.ArpTagged", spec := "arpTagged", unfollowed := true, recurses := true, apart := false, narrowed := true }
def ArpTaggedUptoSaid : Prop := arpTaggedUptoRow.holds Try.pinned (OpenSpec.upto arpTaggedSpec)

end Rows
end Go.Proofs.Ytmbjjelbpnbmoaa
