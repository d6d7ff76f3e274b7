/- No message's bytes begin another one's: its arguments. No condition. -/
import Derived.Test.YtjjenpdjmcmgbaaQXs
import Derived.Test.YtjjenpdjmcmgbaaQZy
namespace Go.Proofs.Ytjjenpdjmcmgbaa
open Go Ab
set_option linter.unusedSimpArgs false
set_option linter.unusedVariables false
set_option maxRecDepth 20000
def BL (l : List Nat) : Prop := ∀ b ∈ l, b < 256
theorem BL.app {a b : List Nat} (h : BL a) (g : BL b) : BL (a ++ b) := fun x hx => (List.mem_append.1 hx).elim (h x) (g x)
theorem BL.enc (x n : Nat) : BL (enc x n) := putB_lt _ _ _
theorem BL.flat {α : Type} (l : List α) (f : α → List Nat) (h : ∀ a, BL (f a)) : BL (l.flatMap f) := fun x hx => by
  obtain ⟨a, _, h2⟩ := List.mem_flatMap.1 hx
  exact h a x h2
theorem bl_A (a : Act) : BL (encA a) := (BL.enc _ _).app ((BL.enc _ _).app (BL.enc _ _))
theorem bl_L (l : List (List Act)) : BL (encL l) := (BL.enc _ _).app (BL.flat _ _ fun c => (BL.enc _ _).app (BL.flat _ _ bl_A))
theorem bl_M (w : Nat → Nat) : BL (encM w) := (BL.enc _ _).app (BL.flat _ _ fun f => by
  unfold encF
  split
  · intro x hx; cases hx
  · exact (BL.enc _ _).app (BL.enc _ _))
theorem bl_R (r : Ru) : BL (encR r) := (BL.enc _ _).app ((BL.enc _ _).app ((bl_M _).app (bl_L _)))
theorem bl_H (h : He) : BL (encH h) := (bl_R _).app ((BL.enc _ _).app (BL.enc _ _))
theorem bl_body (x : Ms) : BL (body x) := by
  have hP : ∀ l, BL (encP l) := fun l => (BL.enc _ _).app (BL.flat _ _ fun _ => BL.enc _ _)
  have hB : ∀ l, BL (encB l) := fun l => (BL.enc _ _).app (BL.flat _ _ fun _ => BL.enc _ _)
  have hH : ∀ l, BL (encHs l) := fun l => (BL.enc _ _).app (BL.flat _ _ bl_H)
  unfold body
  split
  · exact (BL.enc _ _).app ((hP _).app (hP _))
  split
  · exact (BL.enc _ _).app (bl_R _)
  split
  · exact (BL.enc _ _).app (hB _)
  split
  · exact (BL.enc _ _).app (hH _)
  split
  · exact (BL.enc _ _).app (BL.enc _ _)
  split
  · exact BL.enc _ _
  · intro x hx; cases hx
theorem whole_byt {x : Ms} (h : fits x = true) : Byt (whole x) := by
  refine ⟨?_, by have := (whole_all h).2.2; omega⟩
  have h1 := i8N_lt x.ty
  exact ((show BL [1, i8N x.ty] from fun b hb => by
    rcases List.mem_cons.1 hb with rfl | hb
    · omega
    · rw [List.mem_singleton.1 hb]; exact h1).app (BL.enc _ _)).app (BL.enc _ _) |>.app (bl_body x)
theorem ans6r (x : Ms) (z y : Int) (hx : wfM x) (hy : (Lit.int .u8 y).wf = true) : Ans Try.prog 6 [.agg (msC x), .int .i64 z, .int .u8 y] (.bool true) := by
  obtain ⟨v, rfl, hv⟩ := nat_u8 hy
  exact ans6 x hx z v hv fun h => whole_byt (right_if h).2
end Go.Proofs.Ytjjenpdjmcmgbaa
