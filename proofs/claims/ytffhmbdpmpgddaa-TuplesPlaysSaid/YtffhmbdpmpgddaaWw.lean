/- TuplesPlays: its arguments. No condition. -/
import Derived.Test.YtffhmbdpmpgddaaWv
namespace Go.Proofs.Ytffhmbdpmpgddaa
open Go Ab
set_option linter.unusedSimpArgs false
set_option linter.unusedVariables false

theorem op47 {d : Nat} {l : List V} (h : rdT Try.prog (d + 6) 47 l) : ∃ x : De, wfD x ∧ l = deC x := by
  obtain ⟨ps, rfl, k⟩ := rd_str Try.underlying47 h
  clear h
  have k : rdF (rdT Try.prog (d + 5)) [3, 32, 3, 25] ps := k
  match ps, k with
  | [l1, l2, l3, l4], ⟨h1, h2, h3, h4, _⟩ =>
    obtain ⟨x, rfl, hx⟩ := rd_int Try.underlying3 h1
    obtain ⟨r, hr, rfl⟩ := op32 h2
    obtain ⟨y, rfl, hy⟩ := rd_int Try.underlying3 h3
    obtain ⟨g, hg, rfl⟩ := op25 (d := d + 3) h4
    exact ⟨⟨x, r, y, g⟩, ⟨hr, hg⟩, by simp only [List.flatten_cons, List.flatten_nil, List.append_nil]; rfl⟩
  | [], h => exact h.elim
  | [_], h => exact h.2.elim
  | [_, _], h => exact h.2.2.elim
  | [_, _, _], h => exact h.2.2.2.elim
  | _ :: _ :: _ :: _ :: _ :: _, h => exact h.2.2.2.2.elim
theorem co47 : Try.prog.cellsOf 47 = 38 := by kernel_rfl
theorem bo47 : Nat.blt 0 (Try.prog.bytesOf 47) = true := by kernel_rfl
theorem op41 {d : Nat} {l : List V} (h : rdT Try.prog (d + 7) 41 l) : ∃ c : List De, ((∀ x ∈ c, wfD x) ∧ c.length < 9223372036854775807) ∧ l = [.isl 38 (c.map deC)] := by
  obtain ⟨es, rfl, h1, h2⟩ := rd_isl Try.underlying41 h
  obtain ⟨c, h3, rfl⟩ := rd_map deC wfD (fun l h => op47 h) h2
  rw [List.length_map] at h1
  have h4 : 0 < Try.prog.bytesOf 47 := by simpa using bo47
  have h5 : c.length ≤ c.length * Try.prog.bytesOf 47 := Nat.le_mul_of_pos_right _ h4
  have h6 : reachBytes < 9223372036854775807 := by decide
  exact ⟨c, ⟨h3, by omega⟩, by rw [co47]⟩
theorem pl41 : plainT Try.prog 9 41 = true := by kernel_rfl
theorem ans4r (l : List De) (h : (∀ x ∈ l, wfD x) ∧ l.length < 9223372036854775807) : Ans Try.prog 4 [.isl 38 (l.map deC)] (.bool true) := ans4i l h.1 h.2
end Go.Proofs.Ytffhmbdpmpgddaa
