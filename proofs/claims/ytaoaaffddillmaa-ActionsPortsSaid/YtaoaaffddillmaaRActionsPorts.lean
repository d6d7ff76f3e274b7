/- The row ActionsPorts, out of the engine's contract. No condition. -/
import Derived.Test.YtaoaaffddillmaaRows
import Derived.Test.YtaoaaffddillmaaLt
namespace Go.Proofs.Ytaoaaffddillmaa.actionsPorts
open Go Ab Go.ChangeShapes Go.WideShapes Go.ChangeAt Go.RowKit
open Go.ChangeMaps (open_string shut_string)
set_option linter.unusedSimpArgs false
set_option linter.unusedVariables false
theorem own : ownKnob Try.prog.godebug = none := by kernel_rfl
theorem laidOut : laidOutB Try.prog = true := by kernel_rfl
theorem ag24 : isAggT Try.prog 24 = true := by kernel_rfl
theorem cs27 : Try.prog.cellsOf 27 = 1 := by kernel_rfl
theorem cs35 : Try.prog.cellsOf 35 = 1 := by kernel_rfl
set_option maxRecDepth 100000 in
theorem lifted (os : Os) (started : os.Started) (H : Type) (enc : TypeId × Value → H) :
    ReturnsInHanded {} Try.checked os 6 .any (Rows.actionsPortsSpec.pre6 enc Try.prog Try.f6 Rows.actionsPortsRow.domain false) (Rows.actionsPortsSpec.post enc Try.prog Try.f6 false true false false) := by
  refine returnsInHanded_of_change_sized (C := Try.checked) own started (by kernel_rfl) Try.func6
    (ChangeSpec.witness6 (enc := enc) (C := Try.checked) false ⟨#[], #[.agg #[.int .u64 0, .int .u64 0, .int .u64 0, .int .u64 0, .int .u64 0, .int .u64 0, .int .u64 0, .int .u64 0, .int .u64 0, .int .u64 0, .int .u64 0], .slice none 0 0, .slice none 0 0, .slice none 0 0], []⟩ 8 (by kernel_rfl) (by kernel_rfl) (by kernel_rfl) (by kernel_rfl)) ?_
  intro W base args ds gs before hval0 hW hcnd hsz0 _
  have hval : ∀ (j : Nat) t v, Try.f6.params[j]? = some t → args[j]? = some v → Value.okWide Try.prog W .any base t v := hval0
  have hW' := hW
  obtain ⟨p, q, hA0, hV, rfl, hfz, hnd⟩ := hW
  have hA : DataW.TrodAll enc Try.prog W 0 (fun _ => true) true Try.f6.params.toList args.toList ds p := hA0
  rw [Try.params6] at hA hval
  have hsz : (DataW.weightsEach Try.prog (Try.f6.params.toList ++ Rows.actionsPortsSpec.plain.varTypes Try.prog) (ds ++ gs)).all (· ≤ reachBytes) = true := hsz0
  rw [Try.params6] at hsz
  obtain ⟨v0, vs0, d0, ds0, p0, q0, hargs, rfl, rfl, h0, r0⟩ := trodAll_cons hA
  obtain ⟨v1, vs1, d1, ds1, p1, q1, rfl, rfl, rfl, h1, r1⟩ := trodAll_cons r0
  obtain ⟨v2, vs2, d2, ds2, p2, q2, rfl, rfl, rfl, h2, r2⟩ := trodAll_cons r1
  obtain ⟨v3, vs3, d3, ds3, p3, q3, rfl, rfl, rfl, h3, r3⟩ := trodAll_cons r2
  obtain ⟨rfl, rfl, rfl⟩ := trodAll_nil r3
  obtain rfl : args = #[v0, v1, v2, v3] := by cases args; simp_all
  obtain ⟨rfl, rfl⟩ := trodVars_none hV
  have lt0 : ∀ x ∈ p0, x.block < W.heap.size := by obtain ⟨m, hm⟩ := h0; exact DataW.trod_lt m _ _ _ hm
  have k0 := h0
  have w0 : ∀ q ∈ DataW.weights Try.prog 24 d0, q ≤ reachBytes := fun q hq => by simpa using List.all_eq_true.1 hsz q (DataW.weights_mem_each (j := 0) (t := 24) rfl rfl q hq)
  obtain ⟨u0, o0, rv0⟩ := rd_agg ag24 pl24 (hval 0 24 v0 rfl rfl) h0 w0
  obtain ⟨a0, b0, rfl⟩ := op24 o0
  have lt1 : ∀ x ∈ p1, x.block < W.heap.size := by obtain ⟨m, hm⟩ := h1; exact DataW.trod_lt m _ _ _ hm
  have k1 := h1
  have w1 : ∀ q ∈ DataW.weights Try.prog 27 d1, q ≤ reachBytes := fun q hq => by simpa using List.all_eq_true.1 hsz q (DataW.weights_mem_each (j := 1) (t := 27) rfl rfl q hq)
  obtain ⟨u1, o1, rv1⟩ := rd_slice Try.underlying27 cs27 pl27 (hval 1 27 v1 rfl rfl) h1 w1
  obtain ⟨a1, b1, e1⟩ := op27 o1
  obtain rfl := (List.cons.inj e1).1
  have lt2 : ∀ x ∈ p2, x.block < W.heap.size := by obtain ⟨m, hm⟩ := h2; exact DataW.trod_lt m _ _ _ hm
  have k2 := h2
  have w2 : ∀ q ∈ DataW.weights Try.prog 35 d2, q ≤ reachBytes := fun q hq => by simpa using List.all_eq_true.1 hsz q (DataW.weights_mem_each (j := 2) (t := 35) rfl rfl q hq)
  obtain ⟨u2, o2, rv2⟩ := rd_slice Try.underlying35 cs35 pl35 (hval 2 35 v2 rfl rfl) h2 w2
  obtain ⟨a2, b2, e2⟩ := op35 o2
  obtain rfl := (List.cons.inj e2).1
  have lt3 : ∀ x ∈ p3, x.block < W.heap.size := by obtain ⟨m, hm⟩ := h3; exact DataW.trod_lt m _ _ _ hm
  have k3 := h3
  have w3 : ∀ q ∈ DataW.weights Try.prog 35 d3, q ≤ reachBytes := fun q hq => by simpa using List.all_eq_true.1 hsz q (DataW.weights_mem_each (j := 3) (t := 35) rfl rfl q hq)
  obtain ⟨u3, o3, rv3⟩ := rd_slice Try.underlying35 cs35 pl35 (hval 3 35 v3 rfl rfl) h3 w3
  obtain ⟨a3, b3, e3⟩ := op35 o3
  obtain rfl := (List.cons.inj e3).1
  clear hA0 hval0 hsz0 hsz
  refine (ans_true (ans6 a0 a1 a2 a3 b0 b1 b2 b3) (w := W) rfl ⟨⟨v0, rfl, rv0⟩, ⟨v1, rfl, rv1⟩, ⟨v2, rfl, rv2⟩, ⟨v3, rfl, rv3⟩, trivial⟩).mono fun e W' ⟨he, bel⟩ => ?_
  subst he
  exact ⟨_, rfl, _, _, _, [], _, [], hW', trodAll_mk1 (shut_bool Try.underlying4 _), (trodAll_cons_mk (Below.trod laidOut (by kernel_rfl) (of_decide_eq_true (by kernel_rfl)) k0 bel lt0) (trodAll_cons_mk (Below.trod laidOut (by kernel_rfl) (of_decide_eq_true (by kernel_rfl)) k1 bel lt1) (trodAll_cons_mk (Below.trod laidOut (by kernel_rfl) (of_decide_eq_true (by kernel_rfl)) k2 bel lt2) (trodAll_cons_mk (Below.trod laidOut (by kernel_rfl) (of_decide_eq_true (by kernel_rfl)) k3 bel lt3) trodAll_mk0)))), rfl, bel.frame _, fun h => by cases h⟩
theorem over : Rows.actionsPortsRow.holds Try.pinned (OpenSpec.ofChange Rows.actionsPortsSpec) :=
  OpenClaim.holds_of_wide 6 Try.f6 rfl rfl rfl rfl rfl rfl rfl ⟨rfl, rfl, rfl, rfl, rfl⟩ rfl rfl rfl rfl rfl (by kernel_rfl) Try.func6 (by kernel_rfl)
    (of_decide_eq_true (by kernel_rfl)) (by unfold Func.isWrapper; first | (rw [if_pos (by decide +kernel)]; kernel_rfl) | (rw [if_neg (by decide +kernel)]; exact ⟨rfl, rfl⟩))
    (fun os started H enc _ => lifted os started H enc)
theorem proved : Rows.ActionsPortsSaid := over
#print axioms proved
end Go.Proofs.Ytaoaaffddillmaa.actionsPorts
namespace Go.Proofs.Ytaoaaffddillmaa
/-- The row, under a short name, for the claim. -/
theorem actionsPorts_holds : Rows.ActionsPortsSaid := actionsPorts.proved
end Go.Proofs.Ytaoaaffddillmaa

