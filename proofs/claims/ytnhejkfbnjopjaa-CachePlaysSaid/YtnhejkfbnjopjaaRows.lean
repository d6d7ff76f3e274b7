/-
  No cell of these rows narrows 'for every input' (looked for: loops, veiled, ifaces, maps, wideKeys, modest, calm, conditions, laid).
  DERIVED. THE GIVEN ROWS OF THIS SEAT. 11 by the template 'for every input the law returns true; each argument reads behind the call as it read before'; 0 by the template 'total and deterministic' (their statements: YtnhejkfbnjopjaaTotals.lean).
  GIVEN WITH THE SEED: the statements are not yours to turn. If you find one false, say at which input.
  Laid BY PROGRAM, IN A SANDBOX (cutbox-rows.mjs): the forced cells as the released guide's own fill.sh prints them over the translation f5a9f7a9a098c3d2… (all of the seat's roots in one cut). By AI agents, Wed Nov 11 2026. No macro, syntax, notation, axiom, sorry.
-/
import Derived.Test.YtnhejkfbnjopjaaChecked
import GoSem.Claim
import GoSem.ClaimJoined
import GoSem.ClaimMapViews
import Derived.JoinedTies
import Derived.KernelRfl
namespace Go.Proofs.Ytnhejkfbnjopjaa
/- THE CELL 'sum', in the pinned program and in every row, IS THE sha256 OF THE DUMP (.gsa) THAT YtnhejkfbnjopjaaProg.lean LOADS. Nothing in Lean hashes anything: it is a label: what it is worth is what the hold of that sum in a sandbox is worth. -/
noncomputable def Try.pinned : Pinned := { name := "ytnhejkfbnjopjaa", sum := "f5a9f7a9a098c3d2ec3f4ad697ef4531d11068c7636803b3a884906abb1ed743", checked := Try.checked }
namespace Rows
def none {H : Type} : Left H := { results := [], args := [] }

/-- 'tollbridgelaw02.MatchOrder': WHATEVER THE INPUT: true; the input reads as it did. -/
def matchOrderSpec : ChangeSpec := { name := "matchOrder", fn := fun _ => fun
  | [d1, d2, d3] => { results := [.lit (.bool true)], args := [d1, d2, d3] }
  | _ => none }
def matchOrderRow : OpenClaim := { program := "ytnhejkfbnjopjaa", sum := "f5a9f7a9a098c3d2ec3f4ad697ef4531d11068c7636803b3a884906abb1ed743", func := "tollbridge/tollbridgelaw02.MatchOrder", spec := "matchOrder", unfollowed := true, recurses := true, plainKeys := false, apart := false }
def MatchOrderSaid : Prop := matchOrderRow.holds Try.pinned (OpenSpec.ofChange matchOrderSpec)

/-- ITS FALSE NEIGHBOUR: 'it returns false'. Refute it at one input. -/
def matchOrderWrong : ChangeSpec := { name := "matchOrder", fn := fun _ => fun
  | [d1, d2, d3] => { results := [.lit (.bool false)], args := [d1, d2, d3] }
  | _ => none }
def MatchOrderWrongFalsely : Prop := matchOrderRow.holds Try.pinned (OpenSpec.ofChange matchOrderWrong)

/-- 'tollbridgelaw02.MatchLies': WHATEVER THE INPUT: true; the input reads as it did. -/
def matchLiesSpec : ChangeSpec := { name := "matchLies", fn := fun _ => fun
  | [d1, d2] => { results := [.lit (.bool true)], args := [d1, d2] }
  | _ => none }
def matchLiesRow : OpenClaim := { program := "ytnhejkfbnjopjaa", sum := "f5a9f7a9a098c3d2ec3f4ad697ef4531d11068c7636803b3a884906abb1ed743", func := "tollbridge/tollbridgelaw02.MatchLies", spec := "matchLies", unfollowed := true, recurses := true, plainKeys := false, apart := false }
def MatchLiesSaid : Prop := matchLiesRow.holds Try.pinned (OpenSpec.ofChange matchLiesSpec)

/-- ITS FALSE NEIGHBOUR: 'it returns false'. Refute it at one input. -/
def matchLiesWrong : ChangeSpec := { name := "matchLies", fn := fun _ => fun
  | [d1, d2] => { results := [.lit (.bool false)], args := [d1, d2] }
  | _ => none }
def MatchLiesWrongFalsely : Prop := matchLiesRow.holds Try.pinned (OpenSpec.ofChange matchLiesWrong)

/-- 'tollbridgelaw02.MatchTells': WHATEVER THE INPUT: true; the input reads as it did. -/
def matchTellsSpec : ChangeSpec := { name := "matchTells", fn := fun _ => fun
  | [d1, d2] => { results := [.lit (.bool true)], args := [d1, d2] }
  | _ => none }
def matchTellsRow : OpenClaim := { program := "ytnhejkfbnjopjaa", sum := "f5a9f7a9a098c3d2ec3f4ad697ef4531d11068c7636803b3a884906abb1ed743", func := "tollbridge/tollbridgelaw02.MatchTells", spec := "matchTells", unfollowed := true, recurses := true, plainKeys := false, apart := false }
def MatchTellsSaid : Prop := matchTellsRow.holds Try.pinned (OpenSpec.ofChange matchTellsSpec)

/-- ITS FALSE NEIGHBOUR: 'it returns false'. Refute it at one input. -/
def matchTellsWrong : ChangeSpec := { name := "matchTells", fn := fun _ => fun
  | [d1, d2] => { results := [.lit (.bool false)], args := [d1, d2] }
  | _ => none }
def MatchTellsWrongFalsely : Prop := matchTellsRow.holds Try.pinned (OpenSpec.ofChange matchTellsWrong)

/-- 'tollbridgelaw02.MatchWithin': WHATEVER THE INPUT: true; the input reads as it did. -/
def matchWithinSpec : ChangeSpec := { name := "matchWithin", fn := fun _ => fun
  | [d1, d2, d3, d4] => { results := [.lit (.bool true)], args := [d1, d2, d3, d4] }
  | _ => none }
def matchWithinRow : OpenClaim := { program := "ytnhejkfbnjopjaa", sum := "f5a9f7a9a098c3d2ec3f4ad697ef4531d11068c7636803b3a884906abb1ed743", func := "tollbridge/tollbridgelaw02.MatchWithin", spec := "matchWithin", unfollowed := true, recurses := true, plainKeys := false, apart := false }
def MatchWithinSaid : Prop := matchWithinRow.holds Try.pinned (OpenSpec.ofChange matchWithinSpec)

/-- ITS FALSE NEIGHBOUR: 'it returns false'. Refute it at one input. -/
def matchWithinWrong : ChangeSpec := { name := "matchWithin", fn := fun _ => fun
  | [d1, d2, d3, d4] => { results := [.lit (.bool false)], args := [d1, d2, d3, d4] }
  | _ => none }
def MatchWithinWrongFalsely : Prop := matchWithinRow.holds Try.pinned (OpenSpec.ofChange matchWithinWrong)

/-- 'tollbridgelaw02.MatchWide': WHATEVER THE INPUT: true; the input reads as it did. -/
def matchWideSpec : ChangeSpec := { name := "matchWide", fn := fun _ => fun
  | [d1, d2, d3, d4] => { results := [.lit (.bool true)], args := [d1, d2, d3, d4] }
  | _ => none }
def matchWideRow : OpenClaim := { program := "ytnhejkfbnjopjaa", sum := "f5a9f7a9a098c3d2ec3f4ad697ef4531d11068c7636803b3a884906abb1ed743", func := "tollbridge/tollbridgelaw02.MatchWide", spec := "matchWide", unfollowed := true, recurses := true, plainKeys := false, apart := false }
def MatchWideSaid : Prop := matchWideRow.holds Try.pinned (OpenSpec.ofChange matchWideSpec)

/-- ITS FALSE NEIGHBOUR: 'it returns false'. Refute it at one input. -/
def matchWideWrong : ChangeSpec := { name := "matchWide", fn := fun _ => fun
  | [d1, d2, d3, d4] => { results := [.lit (.bool false)], args := [d1, d2, d3, d4] }
  | _ => none }
def MatchWideWrongFalsely : Prop := matchWideRow.holds Try.pinned (OpenSpec.ofChange matchWideWrong)

/-- 'tollbridgelaw02.MatchBoth': WHATEVER THE INPUT: true; the input reads as it did. -/
def matchBothSpec : ChangeSpec := { name := "matchBoth", fn := fun _ => fun
  | [d1, d2, d3] => { results := [.lit (.bool true)], args := [d1, d2, d3] }
  | _ => none }
def matchBothRow : OpenClaim := { program := "ytnhejkfbnjopjaa", sum := "f5a9f7a9a098c3d2ec3f4ad697ef4531d11068c7636803b3a884906abb1ed743", func := "tollbridge/tollbridgelaw02.MatchBoth", spec := "matchBoth", unfollowed := true, recurses := true, plainKeys := false, apart := false }
def MatchBothSaid : Prop := matchBothRow.holds Try.pinned (OpenSpec.ofChange matchBothSpec)

/-- ITS FALSE NEIGHBOUR: 'it returns false'. Refute it at one input. -/
def matchBothWrong : ChangeSpec := { name := "matchBoth", fn := fun _ => fun
  | [d1, d2, d3] => { results := [.lit (.bool false)], args := [d1, d2, d3] }
  | _ => none }
def MatchBothWrongFalsely : Prop := matchBothRow.holds Try.pinned (OpenSpec.ofChange matchBothWrong)

/-- 'tollbridgelaw10.CachePlays': WHATEVER THE INPUT: true; the input reads as it did. -/
def cachePlaysSpec : ChangeSpec := { name := "cachePlays", fn := fun _ => fun
  | [d1, d2] => { results := [.lit (.bool true)], args := [d1, d2] }
  | _ => none }
def cachePlaysRow : OpenClaim := { program := "ytnhejkfbnjopjaa", sum := "f5a9f7a9a098c3d2ec3f4ad697ef4531d11068c7636803b3a884906abb1ed743", func := "tollbridge/tollbridgelaw10.CachePlays", spec := "cachePlays", plainKeys := false, apart := false }
def CachePlaysSaid : Prop := cachePlaysRow.holds Try.pinned (OpenSpec.ofChange cachePlaysSpec)

/-- ITS FALSE NEIGHBOUR: 'it returns false'. Refute it at one input. -/
def cachePlaysWrong : ChangeSpec := { name := "cachePlays", fn := fun _ => fun
  | [d1, d2] => { results := [.lit (.bool false)], args := [d1, d2] }
  | _ => none }
def CachePlaysWrongFalsely : Prop := cachePlaysRow.holds Try.pinned (OpenSpec.ofChange cachePlaysWrong)

/-- 'tollbridgelaw10.CacheNil': WHATEVER THE INPUT: true; the input reads as it did. -/
def cacheNilSpec : ChangeSpec := { name := "cacheNil", fn := fun _ => fun
  | [d1, d2, d3] => { results := [.lit (.bool true)], args := [d1, d2, d3] }
  | _ => none }
def cacheNilRow : OpenClaim := { program := "ytnhejkfbnjopjaa", sum := "f5a9f7a9a098c3d2ec3f4ad697ef4531d11068c7636803b3a884906abb1ed743", func := "tollbridge/tollbridgelaw10.CacheNil", spec := "cacheNil", plainKeys := false, apart := false }
def CacheNilSaid : Prop := cacheNilRow.holds Try.pinned (OpenSpec.ofChange cacheNilSpec)

/-- ITS FALSE NEIGHBOUR: 'it returns false'. Refute it at one input. -/
def cacheNilWrong : ChangeSpec := { name := "cacheNil", fn := fun _ => fun
  | [d1, d2, d3] => { results := [.lit (.bool false)], args := [d1, d2, d3] }
  | _ => none }
def CacheNilWrongFalsely : Prop := cacheNilRow.holds Try.pinned (OpenSpec.ofChange cacheNilWrong)

/-- 'tollbridgelaw10.CacheTrue': WHATEVER THE INPUT: true; the input reads as it did. -/
def cacheTrueSpec : ChangeSpec := { name := "cacheTrue", fn := fun _ => fun
  | [d1, d2] => { results := [.lit (.bool true)], args := [d1, d2] }
  | _ => none }
def cacheTrueRow : OpenClaim := { program := "ytnhejkfbnjopjaa", sum := "f5a9f7a9a098c3d2ec3f4ad697ef4531d11068c7636803b3a884906abb1ed743", func := "tollbridge/tollbridgelaw10.CacheTrue", spec := "cacheTrue", plainKeys := false, apart := false }
def CacheTrueSaid : Prop := cacheTrueRow.holds Try.pinned (OpenSpec.ofChange cacheTrueSpec)

/-- ITS FALSE NEIGHBOUR: 'it returns false'. Refute it at one input. -/
def cacheTrueWrong : ChangeSpec := { name := "cacheTrue", fn := fun _ => fun
  | [d1, d2] => { results := [.lit (.bool false)], args := [d1, d2] }
  | _ => none }
def CacheTrueWrongFalsely : Prop := cacheTrueRow.holds Try.pinned (OpenSpec.ofChange cacheTrueWrong)

/-- 'tollbridgelaw10.CacheRoom': WHATEVER THE INPUT: true; the input reads as it did. -/
def cacheRoomSpec : ChangeSpec := { name := "cacheRoom", fn := fun _ => fun
  | [d1, d2] => { results := [.lit (.bool true)], args := [d1, d2] }
  | _ => none }
def cacheRoomRow : OpenClaim := { program := "ytnhejkfbnjopjaa", sum := "f5a9f7a9a098c3d2ec3f4ad697ef4531d11068c7636803b3a884906abb1ed743", func := "tollbridge/tollbridgelaw10.CacheRoom", spec := "cacheRoom", plainKeys := false, apart := false }
def CacheRoomSaid : Prop := cacheRoomRow.holds Try.pinned (OpenSpec.ofChange cacheRoomSpec)

/-- ITS FALSE NEIGHBOUR: 'it returns false'. Refute it at one input. -/
def cacheRoomWrong : ChangeSpec := { name := "cacheRoom", fn := fun _ => fun
  | [d1, d2] => { results := [.lit (.bool false)], args := [d1, d2] }
  | _ => none }
def CacheRoomWrongFalsely : Prop := cacheRoomRow.holds Try.pinned (OpenSpec.ofChange cacheRoomWrong)

/-- 'tollbridgelaw10.CacheStays': WHATEVER THE INPUT: true; the input reads as it did. -/
def cacheStaysSpec : ChangeSpec := { name := "cacheStays", fn := fun _ => fun
  | [d1, d2, d3] => { results := [.lit (.bool true)], args := [d1, d2, d3] }
  | _ => none }
def cacheStaysRow : OpenClaim := { program := "ytnhejkfbnjopjaa", sum := "f5a9f7a9a098c3d2ec3f4ad697ef4531d11068c7636803b3a884906abb1ed743", func := "tollbridge/tollbridgelaw10.CacheStays", spec := "cacheStays", plainKeys := false, apart := false }
def CacheStaysSaid : Prop := cacheStaysRow.holds Try.pinned (OpenSpec.ofChange cacheStaysSpec)

/-- ITS FALSE NEIGHBOUR: 'it returns false'. Refute it at one input. -/
def cacheStaysWrong : ChangeSpec := { name := "cacheStays", fn := fun _ => fun
  | [d1, d2, d3] => { results := [.lit (.bool false)], args := [d1, d2, d3] }
  | _ => none }
def CacheStaysWrongFalsely : Prop := cacheStaysRow.holds Try.pinned (OpenSpec.ofChange cacheStaysWrong)

/- THE SECOND FORM. 'bulk': how many values and letters a reading holds, each counted each time it is reached (what is shared counts as often as it is met; a slice's spare places count too). A statement '..UptoSaid' is the law's where the arguments, and the package variables that the reading takes, are together of bulk at most 1048576: NARROWER than '..Said'. Prove '..Said' where nothing that the law and all that it calls make is longer than what came in: it says more and counts as full. Else prove '..UptoSaid'. A law counts once. -/
mutual
def uptoBulk {H : Type} : DataW H → Nat
  | .lit (.string bytes) => bytes.length + 1
  | .lit _ => 1
  | .nil => 1
  | .ptr d => uptoBulk d + 1
  | .slice elems spare => uptoBulkAll elems + uptoBulkAll spare + 1
  | .agg parts => uptoBulkAll parts + 1
  | .iface _ d => uptoBulk d + 1
  | .map entries => uptoBulkEntries entries + 1
  | .held _ => 1
def uptoBulkAll {H : Type} : List (DataW H) → Nat
  | [] => 0
  | d :: r => uptoBulk d + uptoBulkAll r
def uptoBulkEntries {H : Type} : List (Lit × DataW H) → Nat
  | [] => 0
  | x :: r => uptoBulkEntry x + uptoBulkEntries r
def uptoBulkEntry {H : Type} : Lit × DataW H → Nat
  | (.string bytes, d) => bytes.length + uptoBulk d + 1
  | (_, d) => uptoBulk d + 1
 end
def uptoSmall : (H : Type) → List (DataW H) → Bool := fun _ ds => decide (uptoBulkAll ds ≤ 1048576)
def OpenSpec.upto (s : _root_.Go.ChangeSpec) : _root_.Go.OpenSpec := { _root_.Go.OpenSpec.ofChange s with cond := some uptoSmall }

/-- 'tollbridgelaw02.MatchOrder', WHERE WHAT IT READS IS OF BULK AT MOST 1048576: true; the input reads as it did. -/
def matchOrderUptoRow : OpenClaim := { program := "ytnhejkfbnjopjaa", sum := "f5a9f7a9a098c3d2ec3f4ad697ef4531d11068c7636803b3a884906abb1ed743", func := "tollbridge/tollbridgelaw02.MatchOrder", spec := "matchOrder", unfollowed := true, recurses := true, plainKeys := false, apart := false, narrowed := true }
def MatchOrderUptoSaid : Prop := matchOrderUptoRow.holds Try.pinned (OpenSpec.upto matchOrderSpec)

/-- 'tollbridgelaw02.MatchLies', WHERE WHAT IT READS IS OF BULK AT MOST 1048576: true; the input reads as it did. -/
def matchLiesUptoRow : OpenClaim := { program := "ytnhejkfbnjopjaa", sum := "f5a9f7a9a098c3d2ec3f4ad697ef4531d11068c7636803b3a884906abb1ed743", func := "tollbridge/tollbridgelaw02.MatchLies", spec := "matchLies", unfollowed := true, recurses := true, plainKeys := false, apart := false, narrowed := true }
def MatchLiesUptoSaid : Prop := matchLiesUptoRow.holds Try.pinned (OpenSpec.upto matchLiesSpec)

/-- 'tollbridgelaw02.MatchTells', WHERE WHAT IT READS IS OF BULK AT MOST 1048576: true; the input reads as it did. -/
def matchTellsUptoRow : OpenClaim := { program := "ytnhejkfbnjopjaa", sum := "f5a9f7a9a098c3d2ec3f4ad697ef4531d11068c7636803b3a884906abb1ed743", func := "tollbridge/tollbridgelaw02.MatchTells", spec := "matchTells", unfollowed := true, recurses := true, plainKeys := false, apart := false, narrowed := true }
def MatchTellsUptoSaid : Prop := matchTellsUptoRow.holds Try.pinned (OpenSpec.upto matchTellsSpec)

/-- 'tollbridgelaw02.MatchWithin', WHERE WHAT IT READS IS OF BULK AT MOST 1048576: true; the input reads as it did. -/
def matchWithinUptoRow : OpenClaim := { program := "ytnhejkfbnjopjaa", sum := "f5a9f7a9a098c3d2ec3f4ad697ef4531d11068c7636803b3a884906abb1ed743", func := "tollbridge/tollbridgelaw02.MatchWithin", spec := "matchWithin", unfollowed := true, recurses := true, plainKeys := false, apart := false, narrowed := true }
def MatchWithinUptoSaid : Prop := matchWithinUptoRow.holds Try.pinned (OpenSpec.upto matchWithinSpec)

/-- 'tollbridgelaw02.MatchWide', WHERE WHAT IT READS IS OF BULK AT MOST 1048576: true; the input reads as it did. -/
def matchWideUptoRow : OpenClaim := { program := "ytnhejkfbnjopjaa", sum := "f5a9f7a9a098c3d2ec3f4ad697ef4531d11068c7636803b3a884906abb1ed743", func := "tollbridge/tollbridgelaw02.MatchWide", spec := "matchWide", unfollowed := true, recurses := true, plainKeys := false, apart := false, narrowed := true }
def MatchWideUptoSaid : Prop := matchWideUptoRow.holds Try.pinned (OpenSpec.upto matchWideSpec)

/-- 'tollbridgelaw02.MatchBoth', WHERE WHAT IT READS IS OF BULK AT MOST 1048576: true; the input reads as it did. -/
def matchBothUptoRow : OpenClaim := { program := "ytnhejkfbnjopjaa", sum := "f5a9f7a9a098c3d2ec3f4ad697ef4531d11068c7636803b3a884906abb1ed743", func := "tollbridge/tollbridgelaw02.MatchBoth", spec := "matchBoth", unfollowed := true, recurses := true, plainKeys := false, apart := false, narrowed := true }
def MatchBothUptoSaid : Prop := matchBothUptoRow.holds Try.pinned (OpenSpec.upto matchBothSpec)

/-- 'tollbridgelaw10.CachePlays', WHERE WHAT IT READS IS OF BULK AT MOST 1048576: true; the input reads as it did. -/
def cachePlaysUptoRow : OpenClaim := { program := "ytnhejkfbnjopjaa", sum := "f5a9f7a9a098c3d2ec3f4ad697ef4531d11068c7636803b3a884906abb1ed743", func := "tollbridge/tollbridgelaw10.CachePlays", spec := "cachePlays", plainKeys := false, apart := false, narrowed := true }
def CachePlaysUptoSaid : Prop := cachePlaysUptoRow.holds Try.pinned (OpenSpec.upto cachePlaysSpec)

/-- 'tollbridgelaw10.CacheNil', WHERE WHAT IT READS IS OF BULK AT MOST 1048576: true; the input reads as it did. -/
def cacheNilUptoRow : OpenClaim := { program := "ytnhejkfbnjopjaa", sum := "f5a9f7a9a098c3d2ec3f4ad697ef4531d11068c7636803b3a884906abb1ed743", func := "tollbridge/tollbridgelaw10.CacheNil", spec := "cacheNil", plainKeys := false, apart := false, narrowed := true }
def CacheNilUptoSaid : Prop := cacheNilUptoRow.holds Try.pinned (OpenSpec.upto cacheNilSpec)

/-- 'tollbridgelaw10.CacheTrue', WHERE WHAT IT READS IS OF BULK AT MOST 1048576: true; the input reads as it did. -/
def cacheTrueUptoRow : OpenClaim := { program := "ytnhejkfbnjopjaa", sum := "f5a9f7a9a098c3d2ec3f4ad697ef4531d11068c7636803b3a884906abb1ed743", func := "tollbridge/tollbridgelaw10.CacheTrue", spec := "cacheTrue", plainKeys := false, apart := false, narrowed := true }
def CacheTrueUptoSaid : Prop := cacheTrueUptoRow.holds Try.pinned (OpenSpec.upto cacheTrueSpec)

/-- 'tollbridgelaw10.CacheRoom', WHERE WHAT IT READS IS OF BULK AT MOST 1048576: true; the input reads as it did. -/
def cacheRoomUptoRow : OpenClaim := { program := "ytnhejkfbnjopjaa", sum := "f5a9f7a9a098c3d2ec3f4ad697ef4531d11068c7636803b3a884906abb1ed743", func := "tollbridge/tollbridgelaw10.CacheRoom", spec := "cacheRoom", plainKeys := false, apart := false, narrowed := true }
def CacheRoomUptoSaid : Prop := cacheRoomUptoRow.holds Try.pinned (OpenSpec.upto cacheRoomSpec)

/-- 'tollbridgelaw10.CacheStays', WHERE WHAT IT READS IS OF BULK AT MOST 1048576: true; the input reads as it did. -/
def cacheStaysUptoRow : OpenClaim := { program := "ytnhejkfbnjopjaa", sum := "f5a9f7a9a098c3d2ec3f4ad697ef4531d11068c7636803b3a884906abb1ed743", func := "tollbridge/tollbridgelaw10.CacheStays", spec := "cacheStays", plainKeys := false, apart := false, narrowed := true }
def CacheStaysUptoSaid : Prop := cacheStaysUptoRow.holds Try.pinned (OpenSpec.upto cacheStaysSpec)

end Rows
end Go.Proofs.Ytnhejkfbnjopjaa
