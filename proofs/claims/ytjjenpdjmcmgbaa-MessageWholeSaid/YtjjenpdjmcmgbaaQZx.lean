/- The law on writing. No condition. -/
import Derived.Test.YtjjenpdjmcmgbaaQZw
namespace Go.Proofs.Ytjjenpdjmcmgbaa
open Go Ab
set_option linter.unusedSimpArgs false
set_option linter.unusedVariables false
set_option maxRecDepth 20000
/-- Rows that are not there, told as empty ones, in an argument. -/
inductive Wk : V → V → Prop
  | eq {v : V} : Wk v v
  | nil {s : Nat} : Wk .nils (.isl s [])
inductive Wks : List V → List V → Prop
  | nil : Wks [] []
  | cons {a b : V} {l r : List V} : Wk a b → Wks l r → Wks (a :: l) (b :: r)
section
variable {N : Nat} {ρ : Pl} {I : Nat → Prop} {w : World}
theorem Wk.rv {a b : V} (h : Wk a b) {x : Value} (hx : RV N ρ I w a x) : RV N ρ I w b x := by
  cases h with
  | eq => exact hx
  | nil =>
    simp only [RV] at hx ⊢
    exact ⟨none, 0, by simpa using hx, Nat.le_refl _, by simp⟩
theorem Wks.len : ∀ {l r : List V}, Wks l r → l.length = r.length
  | _, _, .nil => rfl
  | _, _, .cons _ h => by simp [h.len]
theorem Wks.get : ∀ {l r : List V}, Wks l r → ∀ {i : Nat} {b : V}, r[i]? = some b → ∃ a, l[i]? = some a ∧ Wk a b
  | _, _, .cons h _, 0, _, hb => by
    simp only [List.getElem?_cons_zero, Option.some.injEq] at hb ⊢
    subst hb
    exact ⟨_, rfl, h⟩
  | _, _, .cons _ h, i + 1, _, hb => by
    simp only [List.getElem?_cons_succ] at hb ⊢
    exact h.get hb
theorem Wks.agg {l r : List V} (h : Wks l r) {x : Value} (hx : RV N ρ I w (.agg l) x) : RV N ρ I w (.agg r) x := by
  simp only [RV] at hx ⊢
  obtain ⟨c, h1, h2, h3⟩ := hx
  refine ⟨c, h1, by rw [← h.len, h2], Rc.mk fun i v hv => ?_⟩
  obtain ⟨a, ha, hk⟩ := h.get hv
  obtain ⟨y, k1, k2, k3⟩ := h3.get i a ha
  refine ⟨y, k1, ?_, hk.rv k3⟩
  cases hk with
  | eq => exact k2
  | nil => exact k2
end
theorem Wks.ans {P : Program} {f : FuncId} {l r : List V} {v : V} (h : Wks l r) (hA : Ans P f [.agg r] v) : Ans P f [.agg l] v := by
  intro ρ I w xs hr hl hrt
  refine hA ρ I w xs hr hl (Rt.mk fun i b hb => ?_)
  cases i with
  | zero =>
    simp only [List.getElem?_cons_zero, Option.some.injEq] at hb
    subst hb
    obtain ⟨y, k1, k2⟩ := hrt.get 0 _ rfl
    exact ⟨y, k1, h.agg k2⟩
  | succ i => simp at hb
def xW : Ms := ⟨12, 0, 0, ⟨0, fun _ => 0, [], 0⟩, 3, true, 0, [], [], [], [], 0⟩
theorem wfW : wfM xW := by
  constructor <;> first | decide | skip
  · exact ⟨by decide, fun _ _ => by show (0 : Nat) < _; omega, ⟨by decide, fun _ h => by cases h⟩, by decide⟩
  all_goals exact ⟨by decide, fun _ h => by cases h⟩
theorem chkW : chkM xW = 0 := by kernel_rfl
theorem encW : encX xW = [1, 12, 0, 11, 0, 0, 0, 0, 0, 3, 1] := by kernel_rfl
def wC : List V := mkC 12 0 0 zR 3 true 0 .nils .nils .nils .nils 0
theorem wksW : Wks wC (msC xW) := by
  unfold wC mkC zR msC xW ruC
  repeat (first | exact .nil | refine .cons .eq ?_ | refine .cons .nil ?_)
theorem ans7w : Ans Try.prog 7 [.agg wC] (.tup [byV [1, 12, 0, 11, 0, 0, 0, 0, 0, 3, 1], .int .i64 0]) := by
  have := wksW.ans (ans7 xW wfW)
  rwa [chkW, encW] at this
theorem bu37w : buildV Try.prog 37 [(0, .int .i8 12), (4, .int .u16 3), (5, .bool true)] = some (.agg wC) := by kernel_rfl
def zM : List V := mkC 0 0 0 zR 0 false 0 .nils .nils .nils .nils 0
theorem al37z (m : Mem) : allocV Try.prog 37 m = some (.ptr m.length 0, m ++ [.var 37 zM]) := al37 m
theorem rs12 (env : Env) (m : Mem) : resV Try.prog Try.prog.funcs[12] env m = (loadV Try.prog m 37 (env 2)).bind fun v => (loadV Try.prog m 38 (env 3)).bind fun u => some (.tup [v, u]) := by
  have : ∀ (fn : Func), fn.results = #[.cell 2 37, .cell 3 38] → resV Try.prog fn env m = (loadV Try.prog m 37 (env 2)).bind fun v => (loadV Try.prog m 38 (env 3)).bind fun u => some (.tup [v, u]) := by
    intro fn h
    unfold resV
    rw [h]
    simp only [List.mapM_cons, List.mapM_nil, resOne]
    cases loadV Try.prog m 37 (env 2) with
    | none => rfl
    | some v =>
      cases loadV Try.prog m 38 (env 3) with
      | none => rfl
      | some u => rfl
  exact this _ rfl
theorem at_mid {a : Mem} {b c : B} : (a ++ [b, c])[a.length]? = some b := by simp
theorem at_mid2 {a : Mem} {b c : B} : (a ++ [b, c])[a.length + 1]? = some c := by simp
theorem lt38 : decide (((3 : Nat) : Int) < 8) = true := by decide
theorem part37z : partK true 36 zM 0 = some (.agg zM) := rfl
theorem len37z : zM.length = 36 := rfl
theorem zMx : ([.int .i8 0, .int .u32 0, .int .i8 0, .int .i64 0, .int .u64 0, .int .u64 0, .int .u64 0, .int .u64 0, .int .u64 0, .int .u64 0, .int .u64 0, .int .u64 0, .int .u64 0, .int .u64 0, .int .u64 0, .int .u64 0, .int .u64 0, .int .u64 0, .int .u64 0, .int .u64 0, .int .u64 0, .int .u64 0, .int .u64 0, .int .u64 0, .int .u64 0, .int .u64 0, .nils, .int .u64 0, .int .u16 0, .bool false, .int .u16 0, .nils, .nils, .nils, .nils, .int .u16 0] : List V) = zM := rfl
set_option maxHeartbeats 4000000 in
theorem snd12s {m : Mem} {k : Nat} : Snd Try.prog 12 [.sl 1 k 0 3] m fun r => ∃ m1, r = .ret (.tup [.agg zM, .int .i64 51]) (m ++ m1) := by
  refine Snd_of_W fol rfl rfl (by kernel_rfl) (by kernel_rfl) ?_
  simp -implicitDefEqProofs only [sims.1, fx.1, keeps.1, tick_on, calleeK, extractV, oneV, faddrK, nonnil, b_shr, b_shl, fieldK, Nat.reduceAdd, Nat.reduceMul, Nat.reduceSub, Nat.reduceEqDiff, Nat.reduceLT, Nat.reduceLeDiff, Nat.reduceBEq, Nat.reduceBNe, reduceIte, Int.reduceEq, Int.reduceLT, Int.reduceLE, Int.reduceNe, Int.reduceToNat, rs12, al37z]
  refine w_quiet ?_
  simp -implicitDefEqProofs only [sims.1, fx.1, keeps.1, tick_on, calleeK, extractV, oneV, faddrK, nonnil, b_shr, b_shl, fieldK, Nat.reduceAdd, Nat.reduceMul, Nat.reduceSub, Nat.reduceEqDiff, Nat.reduceLT, Nat.reduceLeDiff, Nat.reduceBEq, Nat.reduceBNe, reduceIte, Int.reduceEq, Int.reduceLT, Int.reduceLE, Int.reduceNe, Int.reduceToNat, lns34, lt38]
  simp only [zMx, List.append_assoc, List.cons_append, List.nil_append, List.length_append, List.length_cons, List.length_nil, Nat.zero_add]
  generalize hz : zM = z
  have hl : z.length = 36 := by rw [← hz]; rfl
  have hp : partK true 36 z 0 = some (.agg z) := partK_row hl
  have h0 : ∀ b c : B, (m ++ [b, c])[m.length]? = some b := fun b c => at_mid
  have h1 : ∀ b c : B, (m ++ [b, c])[m.length + 1]? = some c := fun b c => at_mid2
  have s0 : ∀ b c d : B, (m ++ [b, c]).set m.length d = m ++ [d, c] := fun b c d => by simp
  have s1 : ∀ b c d : B, (m ++ [b, c]).set (m.length + 1) d = m ++ [b, d] := fun b c d => by simp
  have sp : splice z 0 z = z := splice_all rfl
  simp -implicitDefEqProofs only [sims.1, fx.1, keeps.1, tick_on, calleeK, extractV, oneV, faddrK, nonnil, b_shr, b_shl, fieldK, Nat.reduceAdd, Nat.reduceMul, Nat.reduceSub, Nat.reduceEqDiff, Nat.reduceLT, Nat.reduceLeDiff, Nat.reduceBEq, Nat.reduceBNe, reduceIte, Int.reduceEq, Int.reduceLT, Int.reduceLE, Int.reduceNe, Int.reduceToNat, rs12, h0, h1, s0, s1, hp, storeK_agg, hl, sp]
  exact ⟨_, rfl⟩
theorem numsBy : ∀ l : List Nat, numsV (l.map byC) = some (l.map fun n : Nat => (n : Int))
  | [] => rfl
  | a :: r => by simp only [List.map_cons, byC, numsV, numsBy r, Option.map_some]
theorem strBy (l : List Nat) : convV Try.prog 34 9 (byV l) = some (.str (strOfNums (l.map fun n : Nat => (n : Int)))) := by
  unfold byV
  rw [cvi34_9, numsBy]
  rfl
theorem strByM (m : Mem) (l : List Nat) : convM Try.prog m 34 9 (byV l) = some (.str (strOfNums (l.map fun n : Nat => (n : Int)))) := strBy l
theorem strEq (a b : ByteArray) : binV Try.prog .eql 9 (.str a) (.str b) = some (.bool (a.toList == b.toList)) := rfl
set_option maxHeartbeats 4000000 in
theorem ans11 : Ans Try.prog 11 [] (.bool true) := by
  refine Snd_of_W fol rfl rfl (by kernel_rfl) (by kernel_rfl) ?_
  simp -implicitDefEqProofs only [sims.1, fx.1, keeps.1, tick_on, calleeK, extractV, oneV, faddrK, nonnil, b_shr, b_shl, fieldK, Nat.reduceAdd, Nat.reduceMul, Nat.reduceSub, Nat.reduceEqDiff, Nat.reduceLT, Nat.reduceLeDiff, Nat.reduceBEq, Nat.reduceBNe, reduceIte, Int.reduceEq, Int.reduceLT, Int.reduceLE, Int.reduceNe, Int.reduceToNat, bu37w, al37z]
  refine callD_ans ans7w en7 rfl rfl ?_
  simp -implicitDefEqProofs only [sims.1, fx.1, keeps.1, tick_on, calleeK, extractV, oneV, faddrK, nonnil, b_shr, b_shl, fieldK, Nat.reduceAdd, Nat.reduceMul, Nat.reduceSub, Nat.reduceEqDiff, Nat.reduceLT, Nat.reduceLeDiff, Nat.reduceBEq, Nat.reduceBNe, reduceIte, Int.reduceEq, Int.reduceLT, Int.reduceLE, Int.reduceNe, Int.reduceToNat, bs120, al37z]
  refine callD_allQ snd12s en12 ?_
  rintro r ⟨m1, rfl⟩
  refine ⟨_, _, rfl, ?_⟩
  simp -implicitDefEqProofs only [sims.1, fx.1, keeps.1, tick_on, calleeK, extractV, oneV, faddrK, nonnil, b_shr, b_shl, fieldK, Nat.reduceAdd, Nat.reduceMul, Nat.reduceSub, Nat.reduceEqDiff, Nat.reduceLT, Nat.reduceLeDiff, Nat.reduceBEq, Nat.reduceBNe, reduceIte, Int.reduceEq, Int.reduceLT, Int.reduceLE, Int.reduceNe, Int.reduceToNat, al37z, at_mid, at_mid2, storeK_agg, splice_all, len37z, strBy]
  simp only [zMx]
  generalize hz : zM = z
  have hl : z.length = 36 := by rw [← hz]; rfl
  have sp : splice z 0 z = z := splice_all rfl
  have h0 : ∀ b : B, (m1 ++ [b])[m1.length]? = some b := fun b => by simp
  have s0 : ∀ b d : B, (m1 ++ [b]).set m1.length d = m1 ++ [d] := fun b d => by simp
  have e8 : ((strOfNums (([1, 12, 0, 11, 0, 0, 0, 0, 0, 3, 1] : List Nat).map fun n : Nat => (n : Int))).toList == ({ data := #[1, 12, 0, 11, 0, 0, 0, 0, 0, 3, 1] } : ByteArray).toList) = true := by kernel_rfl
  simp only [List.map_cons, List.map_nil] at e8
  simp -implicitDefEqProofs only [sims.1, fx.1, keeps.1, tick_on, calleeK, extractV, oneV, faddrK, nonnil, b_shr, b_shl, fieldK, Nat.reduceAdd, Nat.reduceMul, Nat.reduceSub, Nat.reduceEqDiff, Nat.reduceLT, Nat.reduceLeDiff, Nat.reduceBEq, Nat.reduceBNe, reduceIte, Int.reduceEq, Int.reduceLT, Int.reduceLE, Int.reduceNe, Int.reduceToNat, h0, s0, hl, sp, strByM, strEq, e8, Nat.le_refl]
  exact ans_ret rfl
end Go.Proofs.Ytjjenpdjmcmgbaa
