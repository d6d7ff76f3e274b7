/- The rules that count, as the program finds them: the plain side, and how a range over a function is told. No condition. -/
import Derived.Test.YtggdnepfahknbaaYf
import Derived.Test.YtggdnepfahknbaaYh
namespace Go.Proofs.Ytggdnepfahknbaa
open Go Ab
set_option linter.unusedSimpArgs false
set_option linter.unusedVariables false
set_option maxRecDepth 20000

/-! ### The last rule of each place -/
def nowP (l : List Ru) : List (Ru × V) := l.foldl (fun es r => putP r (ruV r) es) []
theorem nowP_snoc (l : List Ru) (r : Ru) : nowP (l ++ [r]) = putP r (ruV r) (nowP l) := by simp [nowP, List.foldl_append]
theorem nowP_take {l : List Ru} {i : Nat} (h : i < l.length) : nowP (l.take (i + 1)) = putP l[i] (ruV l[i]) (nowP (l.take i)) := by
  rw [← List.take_append_getElem h, nowP_snoc]
theorem snoc_ind {p : List Ru → Prop} (h0 : p []) (h1 : ∀ l r, p l → p (l ++ [r])) : ∀ l, p l := by
  intro l
  have : ∀ l : List Ru, p l.reverse := by
    intro l
    induction l with
    | nil => exact h0
    | cons a r ih => rw [List.reverse_cons]; exact h1 _ _ ih
  have := this l.reverse
  rwa [List.reverse_reverse] at this
theorem nowP_get (p : Ru) : ∀ l : List Ru, getP p (nowP l) = (l.reverse.find? (pl p)).map ruV := by
  refine snoc_ind rfl fun l r ih => ?_
  rw [nowP_snoc, get_put, ih, List.reverse_append]
  simp only [List.reverse_cons, List.reverse_nil, List.nil_append, List.cons_append, List.find?_cons]
  cases pl p r <;> rfl
theorem nowP_wf : ∀ l : List Ru, (∀ r ∈ l, wfR r) → wfP (nowP l) := by
  refine snoc_ind (fun _ x hx => by cases hx) fun l r ih h => ?_
  rw [nowP_snoc]
  exact wfP.put (h r (by simp)) (ih fun x hx => h x (by simp [hx]))
/-! ### How often each place came, from the end on -/
def cntP : List Ru → List (Ru × V)
  | [] => []
  | r :: s => putP r (.int .i64 ((s.countP (pl r) + 1 : Nat) : Int)) (cntP s)
theorem cntP_get (p : Ru) : ∀ s : List Ru, (getP p (cntP s)).getD (.int .i64 0) = .int .i64 ((s.countP (pl p) : Nat) : Int)
  | [] => rfl
  | r :: s => by
    unfold cntP
    rw [get_put, List.countP_cons]
    cases h : pl p r with
    | true =>
      have : s.countP (pl p) = s.countP (pl r) := by
        congr 1
        funext c
        exact pl_congr h c
      simp [this]
    | false => simpa using cntP_get p s
theorem cntP_wf : ∀ s : List Ru, (∀ r ∈ s, wfR r) → wfP (cntP s)
  | [], _, x, hx => by cases hx
  | r :: s, h, x, hx => wfP.put (h r (by simp)) (cntP_wf s fun x hx => h x (by simp [hx])) x hx
theorem cnt_any (r : Ru) (s : List Ru) : decide (s.countP (pl r) + 1 = 1) = !s.any (pl r) := by
  rw [Bool.eq_iff_iff]
  simp only [decide_eq_true_eq, Bool.not_eq_true', List.any_eq_false]
  constructor
  · intro h x hx hp
    have := List.countP_pos_iff.2 ⟨x, hx, hp⟩
    omega
  · intro h
    have : s.countP (pl r) = 0 := by
      rw [List.countP_eq_zero]
      exact h
    omega

/-! ### A function with a range over a function -/
section
variable {P : Program} {nt K0 : Nat} {R L : List Nat} {a b : Code} {env : Env} {m : Mem} {Q Qr : Ex → Env → Mem → Prop}
@[congr] theorem WB_congr {tk : Prop} {c : Code} {env' : Env} {m' : Mem} (h1 : env = env') (h2 : m = m') (htk : tick = tk) : WB P nt K0 R c L env m Q Qr = WB P nt K0 R c L env' m' Q Qr := by rw [h1, h2]
theorem hr_seq : hasR (.seq a b) = (hasR a || hasR b) := rfl
theorem hr_region {id : Nat} {ops : Array Oper} {d : Bool} : hasR (.region id ops d) = false := rfl
theorem hr_loop {id : Nat} {c : Code} : hasR (.block id (.loop c)) = false := rfl
theorem hr_cond {c : Operand} : hasR (.cond c a b) = false := rfl
theorem hr_range {id : Nat} {g : Operand} {ps : Array Tmp} {asg : Code} : hasR (.block id (.rangeFunc g ps asg b)) = true := rfl
theorem wb_seqR (h : hasR a = true) : WB P nt K0 R (.seq a b) L env m Q Qr = WB P nt K0 R a [] env m Q (seqQ (fun env m => W P K0 R b (fun _ => []) L env m Qr) Qr) := by
  conv => lhs; unfold WB
  rw [h]
  rfl
theorem wb_seq (h : hasR a = false) : WB P nt K0 R (.seq a b) L env m Q Qr = W P K0 R a (fun _ => []) (lv R b (fun _ => []) L) env m (seqQ (fun env m => WB P nt K0 R b L env m Q Qr) Q) := by
  conv => lhs; unfold WB
  rw [h]
  rfl
theorem wb_range {id : Nat} {g : Operand} {ps : Array Tmp} {asg bd : Code} : WB P nt K0 R (.block id (.rangeFunc g ps asg bd)) L env m Q Qr = RFW P nt g ps asg bd env m fun m' => Qr .nrm env m' := rfl
def nrmQ (K : Mem → Prop) (ex : Ex) (_ : Env) (m : Mem) : Prop := match ex with
  | .nrm => K m
  | _ => False
@[congr] theorem nrmQ_congr {tk : Prop} {K : Mem → Prop} {ex ex' : Ex} {env' : Env} {m' : Mem} (h : ex = ex') (h2 : m = m') (htk : tick = tk) : nrmQ K ex env m = nrmQ K ex' env m' := by rw [h, h2]
theorem nrmQ_nrm {K : Mem → Prop} : nrmQ K .nrm env m = K m := rfl
def noQ (_ : Ex) (_ : Env) (_ : Mem) : Prop := False
theorem rfw_of {g : Operand} {ps : Array Tmp} {asg bd : Code} {K : Mem → Prop} (gf k tS sz : Nat) (es : List (List V)) (p0 p1 : Nat) (Inv : Nat → Mem → Prop) (hg : evO env g = .fn gf [] [.ptr k 0]) (hit : IterBack P gf tS sz) (hent : enterable P gf = true) (hps : ps = #[p0, p1]) (hp : (Nat.blt p0 nt && Nat.blt p1 nt) = true)
    (hn : es.length < 9223372036854775807) (hs : 0 < sz) (hk : m[k]? = some (.var tS [.isl sz es])) (hez : ∀ e ∈ es, e.length = sz) (hok : (codeOk nt asg && (codeOk nt bd && (noSc asg && noSc bd))) = true) (hI0 : Inv 0 m) (hInv : ∀ j m', Inv j m' → m'[k]? = some (.var tS [.isl sz es]))
    (hstep : ∀ j m' (hj : j < es.length), Inv j m' → W P m.length [] asg (fun _ => []) [] (put (put env (some p0) (.int .i64 ((es.length - 1 - j : Nat) : Int))) (some p1) (.agg (es[es.length - 1 - j]'(by omega)))) m' (seqQ (fun e2 m2 => W P m.length [] bd (fun _ => []) [] e2 m2 (nrmQ (Inv (j + 1)))) noQ))
    (hfin : ∀ m', Inv es.length m' → K m') : RFW P nt g ps asg bd env m K := by
  rw [Bool.and_eq_true, Nat.blt_eq, Nat.blt_eq] at hp
  refine ⟨gf, k, tS, sz, es, p0, p1, Inv, hg, hit, hent, hps, hp.1, hp.2, hn, hs, hk, hez, hok, hI0, hInv, fun j m' hj hi _ => ⟨es[es.length - 1 - j]'(by omega), List.getElem?_eq_getElem _, ?_⟩, hfin⟩
  refine W_mono _ _ _ _ _ _ _ (fun ex e2 m2 h => ?_) (hstep j m' hj hi)
  cases ex with
  | nrm =>
    refine W_mono _ _ _ _ _ _ _ (fun ex e3 m3 h3 => ?_) h
    cases ex <;> exact h3
  | exit _ => exact h
  | ret => exact h
  | pan _ => exact h
end

theorem st36n (mm : Mem) (z : List V) (r : Ru) (hz : z.length = 25) : storeK 25 (mm ++ [.var 36 z]) (.ptr mm.length 0) (ruV r) = some (mm ++ [.var 36 (ruC r)]) := by
  have h1 : (cellsOfV (ruV r)).length = 25 ∧ cellsB (ruV r) = true := ⟨rfl, rfl⟩
  have h6 : 0 + (cellsOfV (ruV r)).length ≤ z.length := by rw [hz]; exact Nat.le_refl 25
  have h0 : (mm ++ [B.var 36 z])[mm.length]? = some (.var 36 z) := by simp
  unfold storeK
  rw [if_pos h1]
  simp only [h0]
  rw [if_pos h6]
  have : splice z 0 (cellsOfV (ruV r)) = ruC r := splice_all (by rw [hz]; rfl)
  rw [this]
  simp
theorem snd25 (l : List Ru) (m : Mem) : Snd Try.prog 25 [rsV l] m fun r => r = .ret (.fn 35 [] [.ptr m.length 0]) (m ++ [.var 22 [rsV l]]) := by
  refine Snd_of_W fol rfl rfl (by kernel_rfl) (by kernel_rfl) ?_
  have nv : ∀ m : Mem, newV 22 m (rsV l) = some (.ptr m.length 0, m ++ [.var 22 [rsV l]]) := fun m => newV_one rfl
  have rs25 : ∀ (env : Env) (m : Mem), resV Try.prog Try.prog.funcs[25] env m = some (env 2) := fun _ _ => rfl
  simp -implicitDefEqProofs only [sims.1, fx.1, keeps.1, tick_on, calleeK, extractV, oneV, faddrK, nonnil, b_shr, b_shl, fieldK, Nat.reduceAdd, Nat.reduceMul, Nat.reduceSub, Nat.reduceEqDiff, Nat.reduceLT, Nat.reduceLeDiff, Nat.reduceBEq, Nat.reduceBNe, reduceIte, Int.reduceEq, Int.reduceLT, Int.reduceLE, Int.reduceNe, Int.reduceToNat, nv, rs25]
end Go.Proofs.Ytggdnepfahknbaa
