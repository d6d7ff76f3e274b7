/- Are two rows of bytes the same? No condition. -/
import Derived.Test.YtpmbhjmlghoogaaNj
import Derived.Laws.Strings
namespace Go.Proofs.Ytpmbhjmlghoogaa
open Go Ab
set_option linter.unusedSimpArgs false
set_option linter.unusedVariables false
set_option maxRecDepth 20000

theorem nums_by : ∀ l : List Nat, numsV (l.map byC) = some (l.map fun n : Nat => (n : Int))
  | [] => rfl
  | a :: r => by simp [numsV, byC, nums_by r]
theorem u8_inj {l l' : List Nat} (h : ∀ b ∈ l, b < 256) (h' : ∀ b ∈ l', b < 256) (e : l.map UInt8.ofNat = l'.map UInt8.ofNat) : l = l' := by
  induction l generalizing l' with
  | nil => cases l' with
    | nil => rfl
    | cons b r => simp at e
  | cons a r ih =>
    cases l' with
    | nil => simp at e
    | cons b s =>
      simp only [List.map_cons, List.cons.injEq] at e
      have h1 := congrArg UInt8.toNat e.1
      simp only [UInt8.toNat_ofNat'] at h1
      have ha := h a (by simp)
      have hb := h' b (by simp)
      rw [Nat.mod_eq_of_lt (by omega), Nat.mod_eq_of_lt (by omega)] at h1
      rw [h1, ih (fun x hx => h x (by simp [hx])) (fun x hx => h' x (by simp [hx])) e.2]
theorem str_eq {l l' : List Nat} (h : ∀ b ∈ l, b < 256) (h' : ∀ b ∈ l', b < 256) (t : TypeId) : binV Try.prog .eql t (.str (strOfNums (l.map fun n : Nat => (n : Int)))) (.str (strOfNums (l'.map fun n : Nat => (n : Int)))) = some (.bool (decide (l = l'))) := by
  have hd : ∀ l : List Nat, (strOfNums (l.map fun n : Nat => (n : Int))).toList = l.map UInt8.ofNat := fun l => by
    rw [ByteArray.toList_eq, strOfNums_data, List.map_map]
    rfl
  have : ((strOfNums (l.map fun n : Nat => (n : Int))).toList == (strOfNums (l'.map fun n : Nat => (n : Int))).toList) = decide (l = l') := by
    rw [hd, hd, Bool.eq_iff_iff]
    simp only [beq_iff_eq, decide_eq_true_eq]
    exact ⟨u8_inj h h', fun e => by rw [e]⟩
  show some (V.bool _) = _
  rw [this]
theorem cvB (l : List Nat) : convV Try.prog 31 9 (byV l) = some (.str (strOfNums (l.map fun n : Nat => (n : Int)))) := by
  unfold byV
  rw [cvi31_9, nums_by]
  rfl
theorem cvMB (m : Mem) (l : List Nat) : convM Try.prog m 31 9 (byV l) = some (.str (strOfNums (l.map fun n : Nat => (n : Int)))) := cvB l
theorem ans40 (l l' : List Nat) (h : ∀ b ∈ l, b < 256) (h' : ∀ b ∈ l', b < 256) : Ans Try.prog 40 [byV l, byV l'] (.bool (decide (l = l'))) := by
  refine Snd_of_W fol rfl rfl (by kernel_rfl) (by kernel_rfl) ?_
  simp -implicitDefEqProofs only [sims.1, fx.1, tick_on, calleeK, List.getElem?_toArray, extractV, oneV, faddrK, nonnil, b_shr, b_shl, eq_self, beq_self_eq_true, fieldK, Option.bind_some, Option.map_some, Option.bind_none, Option.map_none, List.map_cons, List.map_nil, List.getD_cons_zero, List.getD_cons_succ, List.getD_nil, List.length_nil, List.length_cons, List.length_set, List.nil_append, List.cons_append, List.append_nil, List.getElem?_cons_zero, List.getElem?_cons_succ, List.getElem?_nil, List.set_cons_zero, List.set_cons_succ, Nat.reduceAdd, Nat.zero_add, Nat.add_zero, Nat.mul_one, Nat.mul_zero, Nat.zero_mul, Nat.reduceMul, Nat.reduceSub, Nat.reduceEqDiff, Nat.reduceLT, Nat.reduceLeDiff, Nat.reduceBEq, Nat.reduceBNe, Nat.succ_ne_self, reduceIte, if_true, if_false, ite_self, decide_true, decide_false, Bool.not_true, Bool.not_false, Bool.and_true, Bool.true_and, Bool.and_false, Bool.false_and, Bool.or_true, Bool.true_or, Bool.or_false, Bool.false_or, cond_true, cond_false, Int.reduceEq, Int.reduceLT, Int.reduceLE, Int.reduceNe, Int.reduceToNat, cvMB, str_eq h h']
  exact ans_ret rfl
end Go.Proofs.Ytpmbhjmlghoogaa
