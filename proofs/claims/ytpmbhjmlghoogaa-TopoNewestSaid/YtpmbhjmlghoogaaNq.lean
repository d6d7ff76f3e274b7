/- What a packet is built into, said plainly as the reference says it. No condition. -/
import Derived.Test.YtpmbhjmlghoogaaNo
namespace Go.Proofs.Ytpmbhjmlghoogaa
open Go Ab
set_option linter.unusedSimpArgs false
set_option linter.unusedVariables false
set_option maxRecDepth 20000
theorem by_bare : ∀ l : List Nat, (l.map byC).all bareL = true
  | [] => rfl
  | a :: r => by
    rw [List.map_cons, List.all_cons, by_bare r]
    rfl
theorem retB {m1 : Mem} {k q : Nat} {out : List Nat} (h : m1[k]? = some (rowB out)) (hq : q = out.length) : retOk bareL m1 (byV out) (.sl 1 k 0 q) := ret1_row h (by simp [hq]) (by_bare out)
theorem retN {m1 : Mem} : retOk bareL m1 (byV []) .nils := ret1_nil
def portsR (h : Hd) (n : Nat) : List Nat :=
  bif decide (h 6 = 6) then putB (h 7) 2 2 ++ putB (h 8) 2 2 ++ putB 0 8 8 ++ [80, 16] ++ putB 0 6 6
  else bif decide (h 6 = 17) then putB (h 7) 2 2 ++ putB (h 8) 2 2 ++ putB (8 + n) 2 2 ++ putB 0 2 2 else []
def hdR (h : Hd) (n : Nat) : List Nat := [69, 0] ++ putB (20 + n) 2 2 ++ [0, 0, 0, 0, 64, h 6 % 256, 0, 0] ++ putB (h 4) 4 4 ++ putB (h 5) 4 4
def headR (h : Hd) (n : Nat) : List Nat := setS (hdR h n) (sumR (hdR h n))
theorem hdR_len (h : Hd) (n : Nat) : (hdR h n).length = 20 := by simp [hdR, putB_len]
theorem hdR_lt (h : Hd) (n : Nat) : ∀ b ∈ hdR h n, b < 256 := by
  intro b hb
  simp only [hdR, List.mem_append, List.mem_cons, List.not_mem_nil, or_false] at hb
  rcases hb with (((hb | hb) | hb) | hb) | hb
  · omega
  · exact putB_lt _ _ _ b hb
  · omega
  · exact putB_lt _ _ _ b hb
  · exact putB_lt _ _ _ b hb
theorem set10 (x : List Nat) (s : Nat) : (x.set 10 (s / 256)).set 11 (s % 256) = setS x s := rfl
def arpR (h : Hd) (b0 : Nat) : List Nat := [0, 1, 8, 0, 6, 4, 0, b0] ++ (putB (h 0) 6 6 ++ (putB (h 4) 4 4 ++ (putB (bif decide (b0 = 1) then 0 else h 1) 6 6 ++ putB (h 5) 4 4)))
def inetR (h : Hd) (b : List Nat) : List Nat := headR h ((portsR h b.length).length + b.length) ++ (portsR h b.length ++ b)
def frmR (h : Hd) (b : List Nat) : List Nat :=
  putB (h 1) 6 6 ++ putB (h 0) 6 6 ++ (bif decide (h 3 = 0) then [] else putB 33024 2 2 ++ putB (h 3) 2 2) ++ putB (h 2) 2 2 ++ (bif decide (h 2 = 2054) then arpR h (b.getD 0 0) else bif decide (h 2 = 2048) then inetR h b else b)
def bldF (h : Hd) (b : List Nat) : Nat := bif okH h then (bif decide (h 2 = 2054) && !asks b then 30 else bif decide (mostH h < b.length) then 3 else bif decide (mostH h < (frmR h b).length) then 3 else 0) else 10
def bldO (h : Hd) (b : List Nat) : List Nat := bif decide (bldF h b = 0) then frmR h b else []
theorem retE {m1 : Mem} {k : Int} {h : Hd} {b : List Nat} (h0 : bldF h b ≠ 0) (hk : k = (bldF h b : Int)) : retOk bareL m1 (.tup [byV (bldO h b), .int .i64 (bldF h b : Int)]) (.tup [.nils, .int .i64 k]) := by
  subst hk
  refine ⟨_, rfl, ?_, ⟨rfl, rfl⟩, trivial⟩
  have : bldO h b = [] := by simp [bldO, h0]
  rw [this]
  exact ret1_nil
theorem retG {m1 : Mem} {k q : Nat} {h : Hd} {b : List Nat} (h0 : bldF h b = 0) (hm : m1[k]? = some (rowB (frmR h b))) (hq : q = (frmR h b).length) : retOk bareL m1 (.tup [byV (bldO h b), .int .i64 (bldF h b : Int)]) (.tup [.sl 1 k 0 q, .int .i64 0]) := by
  have e : bldO h b = frmR h b := by simp [bldO, h0]
  rw [e, h0]
  exact ⟨_, rfl, ret1_row hm (by simp [hq]) (by_bare _), ⟨rfl, rfl⟩, trivial⟩
theorem headR_len (h : Hd) (n : Nat) : (headR h n).length = 20 := by unfold headR; rw [setS_len, hdR_len]
theorem portsR_len (h : Hd) (n : Nat) : (portsR h n).length ≤ 20 := by
  unfold portsR
  cases decide (h 6 = 6) <;> cases decide (h 6 = 17) <;> simp [putB_len]
theorem arpR_len (h : Hd) (b0 : Nat) : (arpR h b0).length = 28 := by simp [arpR, putB_len]
end Go.Proofs.Ytpmbhjmlghoogaa
