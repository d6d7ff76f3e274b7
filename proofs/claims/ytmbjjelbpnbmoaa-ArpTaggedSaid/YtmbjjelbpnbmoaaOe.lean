/- Arguments that are whole numbers, as they are read. No condition. -/
import Derived.Test.YtmbjjelbpnbmoaaOd
namespace Go.Proofs.Ytmbjjelbpnbmoaa
open Go Ab
set_option linter.unusedSimpArgs false
set_option linter.unusedVariables false

theorem u8_nat {n : Int} (h : (Lit.int .u8 n).wf = true) : ∃ y : Nat, y < 256 ∧ n = (y : Int) := by
  have : 0 ≤ n ∧ n < 256 := by
    simp [Lit.wf, IntKind.min, IntKind.max, IntKind.bits, IntKind.signed] at h
    omega
  exact ⟨n.toNat, by omega, by omega⟩
theorem u16_nat {n : Int} (h : (Lit.int .u16 n).wf = true) : ∃ y : Nat, y < 65536 ∧ n = (y : Int) := by
  have : 0 ≤ n ∧ n < 65536 := by
    simp [Lit.wf, IntKind.min, IntKind.max, IntKind.bits, IntKind.signed] at h
    omega
  exact ⟨n.toNat, by omega, by omega⟩
theorem u32_nat {n : Int} (h : (Lit.int .u32 n).wf = true) : ∃ y : Nat, y < 4294967296 ∧ n = (y : Int) := by
  have : 0 ≤ n ∧ n < 4294967296 := by
    simp [Lit.wf, IntKind.min, IntKind.max, IntKind.bits, IntKind.signed] at h
    omega
  exact ⟨n.toNat, by omega, by omega⟩
theorem u64_nat {n : Int} (h : (Lit.int .u64 n).wf = true) : ∃ y : Nat, y < 18446744073709551616 ∧ n = (y : Int) := by
  have : 0 ≤ n ∧ n < 18446744073709551616 := by
    simp [Lit.wf, IntKind.min, IntKind.max, IntKind.bits, IntKind.signed] at h
    omega
  exact ⟨n.toNat, by omega, by omega⟩
theorem ans5i (p : Pk) (z n : Int) (okp : U64h p.h ∧ okB p.b) (h : (Lit.int .u8 n).wf = true) : Ans Try.prog 5 [pkA p.h p.b, .int .i64 z, .int .u8 n] (.bool true) := by
  obtain ⟨y, hy, rfl⟩ := u8_nat h
  exact ans5 p z y okp hy
end Go.Proofs.Ytmbjjelbpnbmoaa
