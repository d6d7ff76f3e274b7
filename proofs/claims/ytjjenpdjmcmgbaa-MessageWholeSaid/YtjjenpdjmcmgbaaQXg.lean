/- A rule's lists of actions, read. No condition. -/
import Derived.Test.YtjjenpdjmcmgbaaQXf
namespace Go.Proofs.Ytjjenpdjmcmgbaa
open Go Ab
set_option linter.unusedSimpArgs false
set_option linter.unusedVariables false
set_option maxRecDepth 20000
theorem rdAc_byt {r : List Nat} {p : Act × List Nat} (h : Byt r) (e : rdAc r = some p) : Byt p.2 := by
  unfold rdAc at e
  cases e1 : rdN 1 r with
  | none => rw [e1] at e; cases e
  | some a =>
    rw [e1] at e
    simp only [Option.bind_some] at e
    cases e2 : rdN 1 a.2 with
    | none => rw [e2] at e; cases e
    | some b =>
      rw [e2] at e
      simp only [Option.bind_some] at e
      cases e3 : rdN 8 b.2 with
      | none => rw [e3] at e; cases e
      | some n =>
        rw [e3] at e
        cases e
        exact rdN_byt (rdN_byt (rdN_byt h e1) e2) e3
theorem rdMany_byt {α : Type} {pe : List Nat → Option (α × List Nat)} (hP : ∀ r p, Byt r → pe r = some p → Byt p.2) {rest : List Nat} (h : Byt rest) : ∀ {n : Nat} {t : List α × List Nat}, rdMany pe rest n = some t → Byt t.2
  | 0, t, e => by cases e; exact h
  | n + 1, t, e => by
    simp only [rdMany] at e
    cases h1 : rdMany pe rest n with
    | none => rw [h1] at e; cases e
    | some u =>
      rw [h1] at e
      simp only [Option.bind_some] at e
      cases g : pe u.2 with
      | none => rw [g] at e; cases e
      | some a =>
        rw [g] at e
        cases e
        exact hP _ _ (rdMany_byt hP h h1) g
theorem rdL_byt {α : Type} {pe : List Nat → Option (α × List Nat)} (hP : ∀ r p, Byt r → pe r = some p → Byt p.2) {rest : List Nat} (h : Byt rest) {t : List α × List Nat} (e : rdL pe rest = some t) : Byt t.2 := by
  unfold rdL at e
  cases h1 : rdN 2 rest with
  | none => rw [h1] at e; cases e
  | some u =>
    rw [h1] at e
    exact rdMany_byt hP (rdN_byt h h1) e
/-- The coder's name in a variable of its own. -/
def Nm (m : Mem) (c k : Nat) : Prop := m[k]? = some (.var 69 [.ptr c 0])
theorem snd72x {m : Mem} {c q ty o k : Nat} {l : List V} {rest : List Nat} (hc : Cr m c rest) (hB : Byt rest) (hk : Nm m c k) (hkc : k ≠ c) (hq : m[q]? = some (.var ty l)) (hqc : q ≠ c) (hkq : k ≠ q) (ho : l[o]? = some .nils) :
    Snd Try.prog 72 [.ptr c 0, .ptr q o, .fn 73 [] [.ptr k 0]] m (RQ c q ty l m (cellR l o ((rdL rdAc rest).map fun t => (cpV t.1, t.2)))) :=
  LQ_RQ (s := 3) (E := 123) (List.getElem?_eq_some_iff.1 hq).1 hc.lt hqc (List.getElem?_eq_some_iff.1 ho).1 (snd72r0 acC (fun a => .agg (acC a)) rdAc hc hB hq hqc ho en73
    (fun m' q' rest' h1 h2 h3 h4 h5 h6 => snd73r h2 h3 (h1.2 k _ hkc hkq hk) h4 h5 hkc (by have := (List.getElem?_eq_some_iff.1 hk).1; omega))
    (fun _ _ => rdAc_byt) (fun _ => rfl) (fun _ => rfl) (fun _ => rfl) (fun _ => rfl) (fun _ => rfl))
set_option maxHeartbeats 1000000 in
theorem snd71r {m : Mem} {c q k : Nat} {rest : List Nat} (hc : Cr m c rest) (hB : Byt rest) (hk : Nm m c k) (hkc : k ≠ c) (hq : m[q]? = some (.var 99 [.nils])) (hqc : q ≠ c) (hkq : k ≠ q) :
    Snd Try.prog 71 [.ptr q 0, .ptr k 0] m (RQ c q 99 [.nils] m ((rdL rdAc rest).map fun t => ([cpV t.1], t.2))) := by
  refine Snd_of_W fol rfl rfl (by kernel_rfl) (by kernel_rfl) ?_
  have hk' : m[k]? = some (.var 69 [.ptr c 0]) := hk
  simp -implicitDefEqProofs only [sims.1, fx.1, keeps.1, tick_on, calleeK, extractV, oneV, faddrK, nonnil, b_shr, b_shl, fieldK, Nat.reduceAdd, Nat.reduceMul, Nat.reduceSub, Nat.reduceEqDiff, Nat.reduceLT, Nat.reduceLeDiff, Nat.reduceBEq, Nat.reduceBNe, reduceIte, Int.reduceEq, Int.reduceLT, Int.reduceLE, Int.reduceNe, Int.reduceToNat, hk']
  refine callD_r (snd72x (o := 0) hc hB hk hkc hq hqc hkq rfl) en72 ?_ ?_
  · intro l' r' m1 e k1 c1 q1
    cases d : rdL rdAc rest with
    | none => rw [d] at e; cases e
    | some t =>
    rw [d] at e
    cases e
    simp -implicitDefEqProofs only [sims.1, fx.1, keeps.1, tick_on, calleeK, extractV, oneV, faddrK, nonnil, b_shr, b_shl, fieldK, Nat.reduceAdd, Nat.reduceMul, Nat.reduceSub, Nat.reduceEqDiff, Nat.reduceLT, Nat.reduceLeDiff, Nat.reduceBEq, Nat.reduceBNe, reduceIte, Int.reduceEq, Int.reduceLT, Int.reduceLE, Int.reduceNe, Int.reduceToNat]
    exact ⟨m1, rfl, k1, c1, q1⟩
  · intro l' m1 e k1 q1 hl
    cases d : rdL rdAc rest with
    | some t => rw [d] at e; cases e
    | none => exact ⟨m1, l', rfl, k1, q1, hl⟩
theorem snd70x {m : Mem} {c q ty o k : Nat} {l : List V} {rest : List Nat} (hc : Cr m c rest) (hB : Byt rest) (hk : Nm m c k) (hkc : k ≠ c) (hq : m[q]? = some (.var ty l)) (hqc : q ≠ c) (hkq : k ≠ q) (ho : l[o]? = some .nils) :
    Snd Try.prog 70 [.ptr c 0, .ptr q o, .fn 71 [] [.ptr k 0]] m (RQ c q ty l m (cellR l o ((rdL (rdL rdAc) rest).map fun t => (cpsV t.1, t.2)))) :=
  LQ_RQ (s := 1) (E := 99) (List.getElem?_eq_some_iff.1 hq).1 hc.lt hqc (List.getElem?_eq_some_iff.1 ho).1 (snd70r0 (fun c => [cpV c]) cpV (rdL rdAc) hc hB hq hqc ho en71
    (fun m' q' rest' h1 h2 h3 h4 h5 h6 => snd71r h2 h3 (h1.2 k _ hkc hkq hk) hkc h4 h5 (by have := (List.getElem?_eq_some_iff.1 hk).1; omega))
    (fun _ _ h => rdL_byt (fun _ _ => rdAc_byt) h) (fun _ => rfl) (fun a => by simp [stys, sty, cpV]) (fun _ => rfl) (fun _ => rfl) (fun _ => rfl))
end Go.Proofs.Ytjjenpdjmcmgbaa
