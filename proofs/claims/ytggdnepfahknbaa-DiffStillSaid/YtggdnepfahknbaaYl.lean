/- slices.Clone on a copy of actions. No condition. -/
import Derived.Test.YtggdnepfahknbaaYc
import Derived.WalkKit
import Derived.Lib.Walk
import Derived.Lib.SliceRun
namespace Go.Proofs.Ytggdnepfahknbaa
open Go Ab Go.RowKit Go.Lib
set_option linter.unusedSimpArgs false
set_option linter.unusedVariables false
set_option maxRecDepth 20000

theorem un46 : Try.prog.underlying 46 = some (.slice 61) := by kernel_rfl
theorem zE61 : ((zeroE Try.prog 61).map fun x => (x.2.1, Nat.ble x.2.2 1000)) = some (3, true) := by kernel_rfl
theorem ans18c (a : Act) (r : List Act) (hl : (a :: r).length ≤ 200000) : Ans Try.prog 18 [cpV (a :: r)] (cpV (a :: r)) := by
  refine ans_frz ?_ (fun l h => by cases h)
  refine Snd_of_W fol rfl rfl (by kernel_rfl) (by kernel_rfl) ?_
  have evn : ∀ env, evO env (.const (.slice none 0 0)) = .nils := fun _ => rfl
  have nn : binV Try.prog .eql 46 (cpV (a :: r)) .nils = some (.bool false) := by
    show (eqV Try.prog 46 (.isl 3 ((a :: r).map acC)) .nils).map V.bool = _
    simp only [List.map_cons, eqV, un46]
    rfl
  have bs : ∀ m : Mem, bsliceV Try.prog 46 0 [] m = some (.sl 3 m.length 0 0, m ++ [.row 61 3 []]) := fun m => by
    have h1 : ((zeroE Try.prog 61).map fun x => x.2.1) = some 3 := by kernel_rfl
    unfold bsliceV
    cases hz : zeroE Try.prog 61 with
    | none => rw [hz] at h1; cases h1
    | some z =>
      obtain ⟨z0, z1, z2⟩ := z
      rw [hz] at h1
      simp at h1
      subst h1
      simp only [un46, frzQ_nf [] m rfl, hz]
      rfl
  obtain ⟨z, b, h1, h2⟩ := zE_of zE61
  have ap : appendA Try.prog 46 46 (.sl 3 0 0 0) (cpV (a :: r)) [.row 61 3 []] = some (.sl 3 1 0 (0 + (a :: r).length), [.dead, .row 61 3 ((a :: r).map acC)]) := by
    have hc : contV [B.row 61 3 []] 3 (cpV (a :: r)) = some ((a :: r).map acC) := rfl
    have hm : (0 + (a :: r).length) * b ≤ 200001 * 1000 := Nat.mul_le_mul (by omega) h2
    have hlen : ((a :: r).map acC).length = (a :: r).length := List.length_map ..
    have := append_sl (P := Try.prog) (u := 46) (n := 0) (len := 0) (es := []) un46 h1 (by kernel_rfl) hc rfl rfl (by rw [hlen]; show (0 + (a :: r).length) * b ≤ _; omega) (by rw [hlen]; show 0 + (a :: r).length ≤ _; omega)
    rw [this, List.nil_append, hlen]
    simp
  have len0 : ([] : Mem).length = 0 := rfl
  simp -implicitDefEqProofs only [sims.1, fx.1, keeps.1, tick_on, calleeK, extractV, oneV, faddrK, nonnil, b_shr, b_shl, fieldK, Nat.reduceAdd, Nat.reduceMul, Nat.reduceSub, Nat.reduceEqDiff, Nat.reduceLT, Nat.reduceLeDiff, Nat.reduceBEq, Nat.reduceBNe, reduceIte, Int.reduceEq, Int.reduceLT, Int.reduceLE, Int.reduceNe, Int.reduceToNat, evn, nn, bs, ap]
  refine ⟨_, _, rfl, ret1_row (ty := 61) rfl (by simp) ?_⟩
  rw [List.all_eq_true]
  intro e he
  obtain ⟨x, _, rfl⟩ := List.mem_map.1 he
  rfl
theorem ans18e : Ans Try.prog 18 [cpV []] (cpV []) := by
  intro ρ I w xs hr hl hrt
  simp only [cpV, List.map_nil, Rt] at hrt
  obtain ⟨⟨x, hx, hxr⟩, _⟩ := hrt
  have hxs : xs = #[x] := by
    apply Array.ext
    · simpa using hl.symm
    · intro i h1 h2
      obtain rfl : i = 0 := by simp at h2; omega
      rw [Array.getElem?_eq_getElem h1] at hx
      exact Option.some.inj hx
  subst hxs
  simp only [RV] at hxr
  obtain ⟨ad, cap, rfl, _, _⟩ := hxr
  have q46 : ∀ (w : World) (a : Option Addr) (n c n' c' : Nat), (binOp .eql 46 (.slice a n c) (.slice none n' c')).run Try.prog w = .ok (.bool a.isNone) w := fun w a n c n' c' => Lib.run_eql_slice_nil w _ _ a n c n' c' un46
  refine calls_of_wp Try.func18 rfl ?_
  simp only [Try.ntmps18, List.size_toArray, List.length_cons, List.length_nil, Nat.reduceAdd, Nat.reduceSub, Array.replicate_succ, Array.replicate_zero, List.push_toArray, List.append_toArray, List.nil_append, List.cons_append]
  cases ad with
  | none =>
    go_wp2
    go_ret
    exact ⟨.ret (cpV []) [], ⟨[], rfl⟩, .slice none 0 0, ρ, I, rfl, hr, Step.refl _ _ _ _, by
      show RV 0 ρ I w (.isl 3 []) _
      simp only [RV]
      exact ⟨none, 0, rfl, Nat.le_refl _, .inl trivial⟩⟩
  | some ad =>
    go_wp2
    go_ret
    obtain ⟨r1, s1⟩ := hr.beside (.cells #[] 61)
    exact ⟨.ret (cpV []) [], ⟨[], rfl⟩, .slice (some ⟨w.heap.size, 0, none⟩) 0 0, ρ, I, rfl, r1, s1, by
      show RV 0 ρ I _ (.isl 3 []) _
      simp only [RV]
      exact ⟨_, 0, rfl, Nat.le_refl _, .inl trivial⟩⟩
theorem ans18 (c : List Act) (hl : c.length ≤ 200000) : Ans Try.prog 18 [cpV c] (cpV c) := by
  cases c with
  | nil => exact ans18e
  | cons a r => exact ans18c a r hl
end Go.Proofs.Ytggdnepfahknbaa
