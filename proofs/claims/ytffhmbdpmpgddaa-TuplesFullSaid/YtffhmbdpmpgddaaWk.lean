/- Arguments of law09: rules and headers; a rule put behind a list of rules. No condition. -/
import Derived.Test.YtffhmbdpmpgddaaWi
namespace Go.Proofs.Ytffhmbdpmpgddaa
open Go Ab
set_option linter.unusedSimpArgs false
set_option linter.unusedVariables false
set_option maxRecDepth 20000

def wfR (r : Ru) : Prop := U64 22 r.w ∧ nf r.cp = true ∧ nf r.ck = true
theorem nfs_ru {r : Ru} (h : wfR r) : nfs (ruC r) = true := by
  unfold ruC
  have : ∀ l : List Nat, nfs (l.map (fun i => V.int .u64 ((r.w i : Nat) : Int)) ++ [r.cp, r.ck]) = true := fun l => by
    induction l with
    | nil => simp [nfs, h.2.1, h.2.2]
    | cons a l ih => simp only [List.map_cons, List.cons_append, nfs, nf, ih, Bool.and_self]
  have h2 := this (List.range 22)
  simp only [nfs, nf, Bool.true_and]
  exact h2
theorem zE32 : ((zeroE Try.prog 32).map fun x => (x.2.1, Nat.ble x.2.2 1000)) = some (25, true) := by kernel_rfl
theorem un22 : Try.prog.underlying 22 = some (.slice 32) := by kernel_rfl
theorem bs22 {r : Ru} (h : wfR r) (m : Mem) : bsliceV Try.prog 22 1 [(0, .agg (ruC r))] m = some (.sl 25 m.length 0 1, m ++ [.row 32 25 [ruC r]]) := by
  have h1 : zeroE Try.prog 32 = some (.int .i64 0 :: (cl .u64 22 (fun _ => 0) ++ [.nils, .int .u64 0]), 25, 216) := by kernel_rfl
  have hs : stys ([(0, V.agg (ruC r))].map (·.2)) = true := by
    have : nfs [V.agg (ruC r)] = true := by simp only [nfs, nf, nfs_ru h, Bool.and_self]
    simp [stys, this]
  have hl : (ruC r).length = 25 := rfl
  unfold bsliceV
  simp only [un22, h1, frzQ_nf _ m hs]
  rfl

theorem cl_u64 {n : Nat} {vs : List V} {f : Nat → Int} (h : inK .u64 n f) (e : vs = cl .u64 n f) : ∃ g : Nat → Nat, U64 n g ∧ vs = cl .u64 n fun i => (g i : Int) := by
  obtain ⟨g, h1, h2⟩ := cl_nat h
  exact ⟨g, h1, e.trans h2⟩
theorem op25 {d : Nat} {l : List V} (h : rdT Try.prog (d + 2) 25 l) : ∃ g : Nat → Nat, U64 11 g ∧ l = hC g := by
  obtain ⟨f, h1, h2⟩ := rd_cl Try.underlying25 Try.underlying23 h
  exact cl_u64 h1 h2
theorem cl_two (f g : Nat → Int) (n k : Nat) : cl .u64 n f ++ cl .u64 k g = cl .u64 (n + k) fun i => if i < n then f i else g (i - n) := by
  apply List.ext_getElem?
  intro i
  rcases Nat.lt_or_ge i n with hi | hi
  · rw [List.getElem?_append_left (by simpa using hi), cl_get hi, cl_get (by omega), if_pos hi]
  · rw [List.getElem?_append_right (by simpa using hi), cl_length]
    by_cases h : i < n + k
    · rw [cl_get (by omega), cl_get h, if_neg (by omega)]
    · rw [List.getElem?_eq_none (by simp; omega), List.getElem?_eq_none (by simp; omega)]
theorem op29 {d : Nat} {l : List V} (h : rdT Try.prog (d + 3) 29 l) : ∃ g : Nat → Nat, U64 22 g ∧ l = cl .u64 22 fun i => (g i : Int) := by
  obtain ⟨ps, rfl, k⟩ := rd_str Try.underlying29 h
  clear h
  have k : rdF (rdT Try.prog (d + 2)) [25, 25] ps := k
  match ps, k with
  | [l1, l2], ⟨h1, h2, _⟩ =>
    obtain ⟨f, k1, rfl⟩ := op25 h1
    obtain ⟨g, k2, rfl⟩ := op25 h2
    refine ⟨fun i => if i < 11 then f i else g (i - 11), fun i hi => ?_, ?_⟩
    · simp only
      split
      · exact k1 i (by omega)
      · exact k2 (i - 11) (by omega)
    · show hC f ++ (hC g ++ []) = _
      rw [List.append_nil]
      unfold hC
      rw [cl_two]
      refine cl_congr fun i _ => ?_
      simp only
      split <;> rfl
  | [], h => exact h.elim
  | [_], h => exact h.2.elim
  | _ :: _ :: _ :: _, h => exact h.2.2.elim
theorem nfss_all : ∀ {es : List (List V)}, (∀ l ∈ es, nfs l = true) → nfss es = true
  | [], _ => rfl
  | l :: r, h => by
    simp only [nfss, h l (by simp), nfss_all (es := r) fun x hx => h x (by simp [hx]), Bool.and_self]
theorem nf_act {d : Nat} {l : List V} (h : rdT Try.prog (d + 4) 30 l) : ∃ v, nf v = true ∧ l = [v] := by
  obtain ⟨es, rfl, _, h2⟩ := rd_isl Try.underlying30 h
  refine ⟨_, ?_, rfl⟩
  simp only [nf]
  refine nfss_all fun l hl => ?_
  obtain ⟨es2, rfl, _, h3⟩ := rd_isl Try.underlying107 (h2 l hl)
  simp only [nfs, nf, Bool.and_true]
  refine nfss_all fun l hl => ?_
  have h4 := h3 l hl
  obtain ⟨ps, rfl, k⟩ := rd_str Try.underlying110 h4
  clear h4
  have k : rdF (rdT Try.prog (d + 1)) [79, 79, 23] ps := k
  match ps, k with
  | [l1, l2, l3], ⟨h1, h2, h3, _⟩ =>
    obtain ⟨x, rfl, _⟩ := rd_int Try.underlying79 h1
    obtain ⟨y, rfl, _⟩ := rd_int Try.underlying79 h2
    obtain ⟨z, rfl, _⟩ := rd_int Try.underlying23 h3
    rfl
  | [], h => exact h.elim
  | [_], h => exact h.2.elim
  | [_, _], h => exact h.2.2.elim
  | _ :: _ :: _ :: _ :: _, h => exact h.2.2.2.elim
theorem op32 {d : Nat} {l : List V} (h : rdT Try.prog (d + 5) 32 l) : ∃ r : Ru, wfR r ∧ l = ruC r := by
  obtain ⟨ps, rfl, k⟩ := rd_str Try.underlying32 h
  clear h
  have k : rdF (rdT Try.prog (d + 4)) [3, 29, 30, 23] ps := k
  match ps, k with
  | [l1, l2, l3, l4], ⟨h1, h2, h3, h4, _⟩ =>
    obtain ⟨x, rfl, hx⟩ := rd_int Try.underlying3 h1
    obtain ⟨m, hm, rfl⟩ := op29 (d := d + 1) h2
    obtain ⟨c, hc, rfl⟩ := nf_act h3
    obtain ⟨z, rfl, hz⟩ := rd_int Try.underlying23 h4
    exact ⟨⟨x, m, c, .int .u64 z⟩, ⟨hm, hc, rfl⟩, rfl⟩
  | [], h => exact h.elim
  | [_], h => exact h.2.elim
  | [_, _], h => exact h.2.2.elim
  | [_, _, _], h => exact h.2.2.2.elim
  | _ :: _ :: _ :: _ :: _ :: _, h => exact h.2.2.2.2.elim
theorem co32 : Try.prog.cellsOf 32 = 25 := by kernel_rfl
theorem bo32 : Nat.blt 0 (Try.prog.bytesOf 32) = true := by kernel_rfl
theorem op22 {d : Nat} {l : List V} (h : rdT Try.prog (d + 6) 22 l) : ∃ c : List Ru, ((∀ x ∈ c, wfR x) ∧ c.length < 9223372036854775807) ∧ l = [.isl 25 (c.map ruC)] := by
  obtain ⟨es, rfl, h1, h2⟩ := rd_isl Try.underlying22 h
  obtain ⟨c, h3, rfl⟩ := rd_map ruC wfR (fun l h => op32 h) h2
  rw [List.length_map] at h1
  have h4 : 0 < Try.prog.bytesOf 32 := by simpa using bo32
  have h5 : c.length ≤ c.length * Try.prog.bytesOf 32 := Nat.le_mul_of_pos_right _ h4
  have h6 : reachBytes < 9223372036854775807 := by decide
  exact ⟨c, ⟨h3, by omega⟩, by rw [co32]⟩
theorem pl22 : plainT Try.prog 9 22 = true := by kernel_rfl
theorem pl25 : plainT Try.prog 9 25 = true := by kernel_rfl
end Go.Proofs.Ytffhmbdpmpgddaa
