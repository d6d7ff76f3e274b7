/- The reference's parts of the check: what counts of a message, and whether it is great. No condition. -/
import Derived.Test.YtjjenpdjmcmgbaaBZs
namespace Go.Proofs.Ytjjenpdjmcmgbaa
open Go Ab
set_option linter.unusedSimpArgs false
set_option linter.unusedVariables false
set_option maxRecDepth 20000
def zR : List V := .int .i64 0 :: (mC (fun _ => 0) ++ [.nils, .int .u64 0])
def mkC (a : Int) (b : Nat) (d : Int) (rc : List V) (port : Nat) (up : Bool) (sw : Nat) (ports edge frame helds : V) (code : Nat) : List V :=
  .int .i8 a :: .int .u32 (b : Int) :: .int .i8 d :: (rc ++ [.int .u16 (port : Int), .bool up, .int .u16 (sw : Int), ports, edge, frame, helds, .int .u16 (code : Int)])
end Go.Proofs.Ytjjenpdjmcmgbaa
