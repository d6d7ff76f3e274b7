/- The arguments of the laws, as they are read. No condition. -/
import Derived.Test.YtaoaaffddillmaaLs
import Derived.Test.YtaoaaffddillmaaAm8
namespace Go.Proofs.Ytaoaaffddillmaa
open Go Ab
set_option linter.unusedSimpArgs false
set_option linter.unusedVariables false
set_option maxRecDepth 20000

theorem co42 : Try.prog.cellsOf 42 = 1 := by kernel_rfl
theorem co45 : Try.prog.cellsOf 45 = 3 := by kernel_rfl
theorem co48 : Try.prog.cellsOf 48 = 1 := by kernel_rfl
theorem bo42 : Try.prog.bytesOf 42 = 24 := by kernel_rfl
theorem bo45 : Try.prog.bytesOf 45 = 16 := by kernel_rfl
theorem bo48 : Try.prog.bytesOf 48 = 2 := by kernel_rfl
theorem reach_lim {n b : Nat} (h : n * b ≤ reachBytes) (hb : 0 < b) : n < lim := by
  have h1 : reachBytes < 2 ^ 47 := reachBytes_lt
  have h2 : n * 1 ≤ n * b := Nat.mul_le_mul_left n hb
  unfold lim
  omega

theorem op45 {d : Nat} {l : List V} (h : rdT Try.prog (d + 2) 45 l) : ∃ a, wfA a ∧ l = acC a := by
  obtain ⟨ps, rfl, k⟩ := rd_str Try.underlying45 h
  clear h
  have k : rdF (rdT Try.prog (d + 1)) [43, 43, 22] ps := k
  match ps, k with
  | [l1, l2, l3], ⟨h1, h2, h3, _⟩ =>
    obtain ⟨x, rfl, hx⟩ := rd_int Try.underlying43 h1
    obtain ⟨y, rfl, hy⟩ := rd_int Try.underlying43 h2
    obtain ⟨z, rfl, hz⟩ := rd_int Try.underlying22 h3
    have hz0 : 0 ≤ z := by
      simp [Lit.wf, IntKind.min, IntKind.max, IntKind.bits, IntKind.signed] at hz
      omega
    have ez : ((z.toNat : Nat) : Int) = z := by omega
    refine ⟨⟨x, y, z.toNat⟩, ⟨hx, hy, ?_⟩, ?_⟩
    · show (Lit.int .u64 ((z.toNat : Nat) : Int)).wf = true
      rw [ez]; exact hz
    · show _ = [V.int .i8 x, .int .i8 y, .int .u64 ((z.toNat : Nat) : Int)]
      rw [ez]; rfl
  | [], h => exact h.elim
  | [_], h => exact h.2.elim
  | [_, _], h => exact h.2.2.elim
  | _ :: _ :: _ :: _ :: _, h => exact h.2.2.2.elim

theorem op42 {d : Nat} {l : List V} (h : rdT Try.prog (d + 3) 42 l) : ∃ c, wfC c ∧ l = [cpV c] := by
  obtain ⟨es, rfl, h1, h2⟩ := rd_isl Try.underlying42 h
  obtain ⟨c, h3, rfl⟩ := rd_map acC wfA (fun l h => op45 h) h2
  rw [List.length_map, bo45] at h1
  exact ⟨c, ⟨reach_lim h1 (by omega), h3⟩, by rw [co45]; rfl⟩

theorem op27 {d : Nat} {l : List V} (h : rdT Try.prog (d + 4) 27 l) : ∃ c, wfL c ∧ l = [cpsV c] := by
  obtain ⟨es, rfl, h1, h2⟩ := rd_isl Try.underlying27 h
  obtain ⟨c, h3, rfl⟩ := rd_map (fun c => [cpV c]) wfC (fun l h => op42 h) h2
  rw [List.length_map, bo42] at h1
  exact ⟨c, ⟨reach_lim h1 (by omega), h3⟩, by rw [co42]; rfl⟩

theorem op35 {d : Nat} {l : List V} (h : rdT Try.prog (d + 2) 35 l) : ∃ ps, wfP ps ∧ l = [ptV ps] := by
  obtain ⟨es, rfl, h1, h2⟩ := rd_isl Try.underlying35 h
  obtain ⟨c, h3, rfl⟩ := rd_map ptC (fun p => p < 65536) (fun l h => by
    obtain ⟨z, rfl, hz⟩ := rd_int Try.underlying48 h
    have hz0 : 0 ≤ z ∧ z < 65536 := by
      simp [Lit.wf, IntKind.min, IntKind.max, IntKind.bits, IntKind.signed] at hz
      omega
    refine ⟨z.toNat, by omega, ?_⟩
    show _ = [V.int .u16 ((z.toNat : Nat) : Int)]
    rw [show ((z.toNat : Nat) : Int) = z by omega]) h2
  rw [List.length_map, bo48] at h1
  exact ⟨c, ⟨reach_lim h1 (by omega), h3⟩, by rw [co48]; rfl⟩

theorem cl_u64 {n : Nat} {vs : List V} {f : Nat → Int} (h : inK .u64 n f) (e : vs = cl .u64 n f) : ∃ g : Nat → Nat, U64 n g ∧ vs = cl .u64 n fun i => (g i : Int) := by
  obtain ⟨g, h1, h2⟩ := cl_nat h
  exact ⟨g, h1, e.trans h2⟩

theorem op24 {d : Nat} {l : List V} (h : rdT Try.prog (d + 2) 24 l) : ∃ g : Hd, U64 11 g ∧ l = hdC g := by
  obtain ⟨f, h1, h2⟩ := rd_cl Try.underlying24 Try.underlying22 h
  exact cl_u64 h1 h2

theorem cl_two (f g : Nat → Int) (n k : Nat) : cl .u64 n f ++ cl .u64 k g = cl .u64 (n + k) fun i => if i < n then f i else g (i - n) := by
  apply List.ext_getElem?
  intro i
  rcases Nat.lt_or_ge i n with hi | hi
  · rw [List.getElem?_append_left (by simpa using hi), cl_get hi, cl_get (by omega), if_pos hi]
  · rw [List.getElem?_append_right (by simpa using hi), cl_length]
    by_cases h : i < n + k
    · rw [cl_get (by omega), cl_get h, if_neg (by omega)]
    · rw [List.getElem?_eq_none (by simp; omega), List.getElem?_eq_none (by simp; omega)]

theorem op26 {d : Nat} {l : List V} (h : rdT Try.prog (d + 3) 26 l) : ∃ g : Nat → Nat, U64 22 g ∧ l = cl .u64 22 fun i => (g i : Int) := by
  obtain ⟨ps, rfl, k⟩ := rd_str Try.underlying26 h
  clear h
  have k : rdF (rdT Try.prog (d + 2)) [24, 24] ps := k
  match ps, k with
  | [l1, l2], ⟨h1, h2, _⟩ =>
    obtain ⟨f, k1, rfl⟩ := op24 h1
    obtain ⟨g, k2, rfl⟩ := op24 h2
    refine ⟨fun i => if i < 11 then f i else g (i - 11), fun i hi => ?_, ?_⟩
    · simp only
      split
      · exact k1 i (by omega)
      · exact k2 (i - 11) (by omega)
    · show hdC f ++ (hdC g ++ []) = _
      rw [List.append_nil]
      unfold hdC
      rw [cl_two]
      refine cl_congr fun i _ => ?_
      simp only
      split <;> rfl
  | [], h => exact h.elim
  | [_], h => exact h.2.elim
  | _ :: _ :: _ :: _, h => exact h.2.2.elim

theorem op29 {d : Nat} {l : List V} (h : rdT Try.prog (d + 5) 29 l) : ∃ r : Rul, (U64 22 r.m ∧ wfL r.l) ∧ l = ruC r := by
  obtain ⟨ps, rfl, k⟩ := rd_str Try.underlying29 h
  clear h
  have k : rdF (rdT Try.prog (d + 4)) [3, 26, 27, 22] ps := k
  match ps, k with
  | [l1, l2, l3, l4], ⟨h1, h2, h3, h4, _⟩ =>
    obtain ⟨x, rfl, hx⟩ := rd_int Try.underlying3 h1
    obtain ⟨m, hm, rfl⟩ := op26 (d := d + 1) h2
    obtain ⟨c, hc, rfl⟩ := op27 h3
    obtain ⟨z, rfl, hz⟩ := rd_int Try.underlying22 h4
    have hz0 : 0 ≤ z := by
      simp [Lit.wf, IntKind.min, IntKind.max, IntKind.bits, IntKind.signed] at hz
      omega
    refine ⟨⟨x, m, c, z.toNat⟩, ⟨hm, hc⟩, ?_⟩
    show [V.int .i64 x] ++ (cl .u64 22 (fun i => (m i : Int)) ++ ([cpsV c] ++ ([.int .u64 z] ++ []))) = .int .i64 x :: (cl .u64 22 (fun i => (m i : Int)) ++ [cpsV c, .int .u64 ((z.toNat : Nat) : Int)])
    rw [show ((z.toNat : Nat) : Int) = z by omega]
    rfl
  | [], h => exact h.elim
  | [_], h => exact h.2.elim
  | [_, _], h => exact h.2.2.elim
  | [_, _, _], h => exact h.2.2.2.elim
  | _ :: _ :: _ :: _ :: _ :: _, h => exact h.2.2.2.2.elim

theorem pl27 : plainT Try.prog 9 27 = true := by kernel_rfl
theorem pl35 : plainT Try.prog 9 35 = true := by kernel_rfl
theorem pl29 : plainT Try.prog 9 29 = true := by kernel_rfl
theorem pl24 : plainT Try.prog 9 24 = true := by kernel_rfl
end Go.Proofs.Ytaoaaffddillmaa
