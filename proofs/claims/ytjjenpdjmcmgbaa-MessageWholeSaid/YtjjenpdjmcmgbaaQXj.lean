/- A rule, read. No condition. -/
import Derived.Test.YtjjenpdjmcmgbaaQXi
namespace Go.Proofs.Ytjjenpdjmcmgbaa
open Go Ab
set_option linter.unusedSimpArgs false
set_option linter.unusedVariables false
set_option maxRecDepth 20000
def rk4 (a : Int) (w : Nat → Nat) (L : V) (ck : Nat) : List V := .int .i64 a :: (mC w ++ [L, .int .u64 (ck : Int)])
/-- A target's cells: a rule's stand between A and B. -/
def R4 (A B : List V) (a : Int) (w : Nat → Nat) (L : V) (ck : Nat) : List V := A ++ (rk4 a w L ck ++ B)
theorem rk4_len (a : Int) (w : Nat → Nat) (L : V) (ck : Nat) : (rk4 a w L ck).length = 25 := by simp [rk4, mC_length]
theorem R4_len (A B : List V) (a : Int) (w : Nat → Nat) (L : V) (ck : Nat) : (R4 A B a w L ck).length = A.length + 25 + B.length := by simp [R4, rk4_len]; omega
theorem mid_at {A B x : List V} {j : Nat} (h : j < x.length) : (A ++ (x ++ B))[A.length + j]? = x[j]? := by
  rw [List.getElem?_append_right (by omega), Nat.add_sub_cancel_left, List.getElem?_append_left h]
theorem mid_set {A B x : List V} {j : Nat} (v : V) (h : j < x.length) : (A ++ (x ++ B)).set (A.length + j) v = A ++ (x.set j v ++ B) := by
  rw [List.set_append_right _ _ (by omega), Nat.add_sub_cancel_left, List.set_append_left _ _ h]
section
variable {A B : List V} {a : Int} {w : Nat → Nat} {L : V} {ck : Nat}
theorem R4_at0 : (R4 A B a w L ck)[A.length]? = some (.int .i64 a) := mid_at (j := 0) (by rw [rk4_len]; omega)
theorem rk4_23 : (rk4 a w L ck)[23]? = some L := by
  show (mC w ++ [L, .int .u64 (ck : Int)])[22]? = _
  rw [List.getElem?_append_right (by rw [mC_length]; omega), mC_length]
  rfl
theorem rk4_24 : (rk4 a w L ck)[24]? = some (.int .u64 (ck : Int)) := by
  show (mC w ++ [L, .int .u64 (ck : Int)])[23]? = _
  rw [List.getElem?_append_right (by rw [mC_length]; omega), mC_length]
  rfl
theorem R4_at23 : (R4 A B a w L ck)[A.length + 23]? = some L := by rw [R4, mid_at (by rw [rk4_len]; omega), rk4_23]
theorem R4_at24 : (R4 A B a w L ck)[A.length + 24]? = some (.int .u64 (ck : Int)) := by rw [R4, mid_at (by rw [rk4_len]; omega), rk4_24]
theorem R4_set0 (a' : Int) : (R4 A B a w L ck).set A.length (.int .i64 a') = R4 A B a' w L ck := mid_set (j := 0) _ (by rw [rk4_len]; omega)
theorem R4_set23 (L' : V) : (R4 A B a w L ck).set (A.length + 23) L' = R4 A B a w L' ck := by
  rw [R4, mid_set _ (by rw [rk4_len]; omega)]
  show A ++ ((V.int .i64 a :: (mC w ++ [L, .int .u64 (ck : Int)]).set 22 L') ++ B) = _
  rw [List.set_append_right _ _ (by rw [mC_length]; omega), mC_length]
  rfl
theorem R4_set24 (ck' : Nat) : (R4 A B a w L ck).set (A.length + 24) (.int .u64 (ck' : Int)) = R4 A B a w L ck' := by
  rw [R4, mid_set _ (by rw [rk4_len]; omega)]
  show A ++ ((V.int .i64 a :: (mC w ++ [L, .int .u64 (ck : Int)]).set 23 _) ++ B) = _
  rw [List.set_append_right _ _ (by rw [mC_length]; omega), mC_length]
  rfl
theorem R4_putM (w' : Nat → Nat) : putM (R4 A B a w L ck) (A.length + 1) w' = R4 A B a w' L ck := by
  have e : ∀ u, R4 A B a u L ck = (A ++ [.int .i64 a]) ++ (mC u ++ ([L, .int .u64 (ck : Int)] ++ B)) := fun u => by simp [R4, rk4]
  have l1 : (A ++ [V.int .i64 a]).length = A.length + 1 := by simp
  unfold putM
  rw [e w, e w', ← l1, List.take_left, show (A ++ [V.int .i64 a]).length + 22 = (A ++ [V.int .i64 a]).length + (mC w).length from by rw [mC_length], List.drop_length_add_append, List.drop_left]
end
/-- A rule's parser. -/
def rdR (rest : List Nat) : Option (Ru × List Nat) := (rdN 4 rest).bind fun a => (rdN 8 a.2).bind fun b => (rdM b.2).bind fun w => (rdL (rdL rdAc) w.2).map fun t => (⟨IntKind.i32.wrap (a.1 : Int), w.1, t.1, b.1⟩, t.2)
theorem rdFs_byt {bits : Nat} {rest : List Nat} (h : Byt rest) : ∀ {j : Nat} {t : (Nat → Nat) × List Nat}, rdFs bits rest j = some t → Byt t.2
  | 0, t, e => by cases e; exact h
  | j + 1, t, e => by
    simp only [rdFs] at e
    cases h1 : rdFs bits rest j with
    | none => rw [h1] at e; cases e
    | some u =>
      rw [h1] at e
      simp only [Option.bind_some] at e
      split at e
      · cases e; exact rdFs_byt h h1
      · cases g : rdN (sz j) u.2 with
        | none => rw [g] at e; cases e
        | some a =>
          rw [g] at e
          simp only [Option.bind_some] at e
          cases g2 : rdN (sz j) a.2 with
          | none => rw [g2] at e; cases e
          | some b =>
            rw [g2] at e
            simp only [Option.bind_some] at e
            split at e
            · cases e
            · cases e
              exact rdN_byt (rdN_byt (rdFs_byt h h1) g) g2
theorem rdM_byt {rest : List Nat} (h : Byt rest) {t : (Nat → Nat) × List Nat} (e : rdM rest = some t) : Byt t.2 := by
  unfold rdM at e
  cases h1 : rdN 2 rest with
  | none => rw [h1] at e; cases e
  | some u =>
    rw [h1] at e
    simp only [Option.bind_some] at e
    split at e
    · exact rdFs_byt (rdN_byt h h1) e
    · cases e
theorem rdLL_byt {rest : List Nat} (h : Byt rest) {t : List (List Act) × List Nat} (e : rdL (rdL rdAc) rest = some t) : Byt t.2 :=
  rdL_byt (fun _ _ h => rdL_byt (fun _ _ => rdAc_byt) h) h e
theorem rdR_byt {rest : List Nat} {p : Ru × List Nat} (h : Byt rest) (e : rdR rest = some p) : Byt p.2 := by
  unfold rdR at e
  cases h1 : rdN 4 rest with
  | none => rw [h1] at e; cases e
  | some a =>
  rw [h1] at e
  simp only [Option.bind_some] at e
  cases h2 : rdN 8 a.2 with
  | none => rw [h2] at e; cases e
  | some b =>
  rw [h2] at e
  simp only [Option.bind_some] at e
  cases h3 : rdM b.2 with
  | none => rw [h3] at e; cases e
  | some w =>
  rw [h3] at e
  simp only [Option.bind_some] at e
  cases h4 : rdL (rdL rdAc) w.2 with
  | none => rw [h4] at e; cases e
  | some t =>
  rw [h4] at e
  cases e
  exact rdLL_byt (rdM_byt (rdN_byt (rdN_byt h h1) h2) h3) h4
theorem i32w (x : Int) : IntKind.i64.wrap (IntKind.i32.wrap x) = IntKind.i32.wrap x := by
  simp [IntKind.wrap, IntKind.bits, IntKind.signed]; omega
end Go.Proofs.Ytjjenpdjmcmgbaa
