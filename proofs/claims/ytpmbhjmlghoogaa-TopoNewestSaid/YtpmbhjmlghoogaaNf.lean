/- The reference's check of a header. No condition. -/
import Derived.Test.YtpmbhjmlghoogaaNe
namespace Go.Proofs.Ytpmbhjmlghoogaa
open Go Ab
set_option linter.unusedSimpArgs false
set_option linter.unusedVariables false
set_option maxRecDepth 20000

abbrev Hd := Nat → Nat
def U64h (h : Hd) : Prop := ∀ i, i < 11 → h i < 18446744073709551616
def hdC (h : Hd) : List V := cl .u64 11 fun i => (h i : Int)
def hdA (h : Hd) : V := .agg (hdC h)
theorem nfs_hd (h : Hd) : nfs (hdC h) = true := nfs_cl
theorem nf_hdA (h : Hd) : nf (hdA h) = true := nfs_hd h
def allFit (h : Hd) : Bool := (List.range 11).all fun j => decide (h j < 2 ^ wid j)
def okT (h : Hd) : Bool := !(decide (h 2 < 1536) || decide (h 2 = 33024)) && !(!decide (h 2 = 2048) && (!decide (h 6 = 0) || (!decide (h 2 = 2054) && (!decide (h 4 = 0) || !decide (h 5 = 0))))) && !((!decide (h 6 = 6) && !decide (h 6 = 17)) && (!decide (h 7 = 0) || !decide (h 8 = 0)))
def okH (h : Hd) : Bool := allFit h && okT h
def chkH (h : Hd) : Int := bif okH h then 0 else 10
theorem ltC (n : Nat) : decide ((n : Int) < 1536) = decide (n < 1536) := by rw [Bool.eq_iff_iff]; simp; omega
theorem eqC2 (n : Nat) : decide ((n : Int) = 33024) = decide (n = 33024) := by rw [Bool.eq_iff_iff]; simp; omega
theorem eqC3 (n : Nat) : decide ((n : Int) = 2048) = decide (n = 2048) := by rw [Bool.eq_iff_iff]; simp; omega
theorem eqC4 (n : Nat) : decide ((n : Int) = 2054) = decide (n = 2054) := by rw [Bool.eq_iff_iff]; simp; omega
theorem eqC5 (n : Nat) : decide ((n : Int) = 6) = decide (n = 6) := by rw [Bool.eq_iff_iff]; simp; omega
theorem eqC6 (n : Nat) : decide ((n : Int) = 17) = decide (n = 17) := by rw [Bool.eq_iff_iff]; simp; omega
theorem eqC7 (n : Nat) : decide ((n : Int) = 1) = decide (n = 1) := by rw [Bool.eq_iff_iff]; simp; omega
theorem eqC0 (n : Nat) : decide ((n : Int) = 0) = decide (n = 0) := by rw [Bool.eq_iff_iff]; simp
theorem wrap_i8s (j : Nat) (h : j < 127) : IntKind.i8.wrap ((j : Int) + 1) = ((j + 1 : Nat) : Int) := by
  simp [IntKind.wrap, IntKind.bits, IntKind.signed]; omega
theorem lt11 (j : Nat) : decide ((j : Int) < 11) = decide (j < 11) := by rw [Bool.eq_iff_iff]; simp; omega

end Go.Proofs.Ytpmbhjmlghoogaa
