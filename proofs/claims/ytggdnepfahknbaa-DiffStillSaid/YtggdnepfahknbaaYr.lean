/- Arguments of law24: lists of rules. No condition. -/
import Derived.Test.YtggdnepfahknbaaYq
namespace Go.Proofs.Ytggdnepfahknbaa
open Go Ab
set_option linter.unusedSimpArgs false
set_option linter.unusedVariables false
set_option maxRecDepth 20000

theorem cl_u64 {n : Nat} {vs : List V} {f : Nat → Int} (h : inK .u64 n f) (e : vs = cl .u64 n f) : ∃ g : Nat → Nat, U64 n g ∧ vs = cl .u64 n fun i => (g i : Int) := by
  obtain ⟨g, h1, h2⟩ := cl_nat h
  exact ⟨g, h1, e.trans h2⟩
theorem op31 {d : Nat} {l : List V} (h : rdT Try.prog (d + 2) 31 l) : ∃ g : Nat → Nat, U64 11 g ∧ l = cl .u64 11 fun i => (g i : Int) := by
  obtain ⟨f, h1, h2⟩ := rd_cl Try.underlying31 Try.underlying29 h
  exact cl_u64 h1 h2
theorem cl_two (f g : Nat → Int) (n k : Nat) : cl .u64 n f ++ cl .u64 k g = cl .u64 (n + k) fun i => if i < n then f i else g (i - n) := by
  apply List.ext_getElem?
  intro i
  rcases Nat.lt_or_ge i n with hi | hi
  · rw [List.getElem?_append_left (by simpa using hi), cl_get hi, cl_get (by omega), if_pos hi]
  · rw [List.getElem?_append_right (by simpa using hi), cl_length]
    by_cases h : i < n + k
    · rw [cl_get (by omega), cl_get h, if_neg (by omega)]
    · rw [List.getElem?_eq_none (by simp; omega), List.getElem?_eq_none (by simp; omega)]
theorem op33 {d : Nat} {l : List V} (h : rdT Try.prog (d + 3) 33 l) : ∃ g : Nat → Nat, U64 22 g ∧ l = mC g := by
  obtain ⟨ps, rfl, k⟩ := rd_str Try.underlying33 h
  clear h
  have k : rdF (rdT Try.prog (d + 2)) [31, 31] ps := k
  match ps, k with
  | [l1, l2], ⟨h1, h2, _⟩ =>
    obtain ⟨f, k1, rfl⟩ := op31 h1
    obtain ⟨g, k2, rfl⟩ := op31 h2
    refine ⟨fun i => if i < 11 then f i else g (i - 11), fun i hi => ?_, ?_⟩
    · simp only
      split
      · exact k1 i (by omega)
      · exact k2 (i - 11) (by omega)
    · show cl .u64 11 (fun i => (f i : Int)) ++ (cl .u64 11 (fun i => (g i : Int)) ++ []) = _
      rw [List.append_nil]
      unfold mC
      rw [cl_two]
      refine cl_congr fun i _ => ?_
      simp only
      split <;> rfl
  | [], h => exact h.elim
  | [_], h => exact h.2.elim
  | _ :: _ :: _ :: _, h => exact h.2.2.elim
theorem nat_u64 {x : Int} (h : (Lit.int .u64 x).wf = true) : ∃ n : Nat, x = (n : Int) ∧ n < 18446744073709551616 := by
  simp [Lit.wf, IntKind.min, IntKind.max, IntKind.bits, IntKind.signed] at h
  exact ⟨x.toNat, by omega, by omega⟩
theorem op61 {d : Nat} {l : List V} (h : rdT Try.prog (d + 2) 61 l) : ∃ a : Act, wfA a ∧ l = acC a := by
  obtain ⟨ps, rfl, k⟩ := rd_str Try.underlying61 h
  clear h
  have k : rdF (rdT Try.prog (d + 1)) [38, 38, 29] ps := k
  match ps, k with
  | [l1, l2, l3], ⟨h1, h2, h3, _⟩ =>
    obtain ⟨x, rfl, hx⟩ := rd_int Try.underlying38 h1
    obtain ⟨y, rfl, hy⟩ := rd_int Try.underlying38 h2
    obtain ⟨z, rfl, hz⟩ := rd_int Try.underlying29 h3
    obtain ⟨n, rfl, _⟩ := nat_u64 hz
    exact ⟨⟨x, y, n⟩, ⟨hx, hy, hz⟩, rfl⟩
  | [], h => exact h.elim
  | [_], h => exact h.2.elim
  | [_, _], h => exact h.2.2.elim
  | _ :: _ :: _ :: _ :: _, h => exact h.2.2.2.elim
theorem co61 : Try.prog.cellsOf 61 = 3 := by kernel_rfl
theorem bo61 : Nat.blt 0 (Try.prog.bytesOf 61) = true := by kernel_rfl
theorem co46 : Try.prog.cellsOf 46 = 1 := by kernel_rfl
theorem bo46 : Nat.blt 0 (Try.prog.bytesOf 46) = true := by kernel_rfl
theorem co36 : Try.prog.cellsOf 36 = 25 := by kernel_rfl
theorem bo36 : Nat.blt 0 (Try.prog.bytesOf 36) = true := by kernel_rfl
theorem small_of {n b : Nat} (hb : Nat.blt 0 b = true) (h : n * b ≤ reachBytes) : n < lim := by
  have h4 : 0 < b := by simpa using hb
  have h5 : n ≤ n * b := Nat.le_mul_of_pos_right _ h4
  have h6 : reachBytes < lim := by decide
  omega
theorem op46 {d : Nat} {l : List V} (h : rdT Try.prog (d + 3) 46 l) : ∃ c : List Act, wfC c ∧ l = [cpV c] := by
  obtain ⟨es, rfl, h1, h2⟩ := rd_isl Try.underlying46 h
  obtain ⟨c, h3, rfl⟩ := rd_map acC wfA (fun l h => op61 h) h2
  rw [List.length_map] at h1
  exact ⟨c, ⟨small_of bo61 h1, h3⟩, by rw [co61]; rfl⟩
theorem op34 {d : Nat} {l : List V} (h : rdT Try.prog (d + 4) 34 l) : ∃ c : List (List Act), wfL c ∧ l = [cpsV c] := by
  obtain ⟨es, rfl, h1, h2⟩ := rd_isl Try.underlying34 h
  obtain ⟨c, h3, rfl⟩ := rd_map (fun c => [cpV c]) wfC (fun l h => op46 h) h2
  rw [List.length_map] at h1
  exact ⟨c, ⟨small_of bo46 h1, h3⟩, by rw [co46]; rfl⟩
theorem op36 {d : Nat} {l : List V} (h : rdT Try.prog (d + 5) 36 l) : ∃ r : Ru, wfR r ∧ l = ruC r := by
  obtain ⟨ps, rfl, k⟩ := rd_str Try.underlying36 h
  clear h
  have k : rdF (rdT Try.prog (d + 4)) [3, 33, 34, 29] ps := k
  match ps, k with
  | [l1, l2, l3, l4], ⟨h1, h2, h3, h4, _⟩ =>
    obtain ⟨x, rfl, hx⟩ := rd_int Try.underlying3 h1
    obtain ⟨m, hm, rfl⟩ := op33 (d := d + 1) h2
    obtain ⟨c, hc, rfl⟩ := op34 h3
    obtain ⟨z, rfl, hz⟩ := rd_int Try.underlying29 h4
    obtain ⟨n, rfl, _⟩ := nat_u64 hz
    exact ⟨⟨x, m, c, n⟩, ⟨hx, hm, hc⟩, rfl⟩
  | [], h => exact h.elim
  | [_], h => exact h.2.elim
  | [_, _], h => exact h.2.2.elim
  | [_, _, _], h => exact h.2.2.2.elim
  | _ :: _ :: _ :: _ :: _ :: _, h => exact h.2.2.2.2.elim
theorem op22 {d : Nat} {l : List V} (h : rdT Try.prog (d + 6) 22 l) : ∃ c : List Ru, ((∀ x ∈ c, wfR x) ∧ c.length < lim) ∧ l = [rsV c] := by
  obtain ⟨es, rfl, h1, h2⟩ := rd_isl Try.underlying22 h
  obtain ⟨c, h3, rfl⟩ := rd_map ruC wfR (fun l h => op36 h) h2
  rw [List.length_map] at h1
  exact ⟨c, ⟨h3, small_of bo36 h1⟩, by rw [co36]; rfl⟩
theorem pl22 : plainT Try.prog 9 22 = true := by kernel_rfl
theorem lim_lt {n : Nat} (h : n < lim) : n < 9223372036854775807 := Nat.lt_trans h (by decide)
theorem ans3r (was now : List Ru) (h0 : (∀ x ∈ was, wfR x) ∧ was.length < lim) (h1 : (∀ x ∈ now, wfR x) ∧ now.length < lim) : Ans Try.prog 3 [rsV was, rsV now] (.bool true) := ans3 was now h0.1 h1.1 (lim_lt h0.2) (lim_lt h1.2)
end Go.Proofs.Ytggdnepfahknbaa
