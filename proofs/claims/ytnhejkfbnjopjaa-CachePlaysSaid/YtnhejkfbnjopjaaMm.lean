/- The arguments of the cache's laws, as they are read. No condition. -/
import Derived.Test.YtnhejkfbnjopjaaMl
namespace Go.Proofs.Ytnhejkfbnjopjaa
open Go Ab
set_option linter.unusedSimpArgs false
set_option linter.unusedVariables false
set_option maxRecDepth 20000

theorem co24 : Try.prog.cellsOf 24 = 11 := by kernel_rfl
theorem co3 : Try.prog.cellsOf 3 = 1 := by kernel_rfl
theorem co46 : Try.prog.cellsOf 46 = 13 := by kernel_rfl
theorem bo24 : Try.prog.bytesOf 24 = 88 := by kernel_rfl
theorem bo3 : Try.prog.bytesOf 3 = 8 := by kernel_rfl
theorem bo46 : Try.prog.bytesOf 46 = 104 := by kernel_rfl
theorem reach_lim {n b : Nat} (h : n * b ≤ reachBytes) (hb : 0 < b) : n < 281474976710656 := by
  have h1 : reachBytes < 2 ^ 47 := reachBytes_lt
  have h2 : n * 1 ≤ n * b := Nat.mul_le_mul_left n hb
  omega
theorem op53 {d : Nat} {l : List V} (h : rdT Try.prog (d + 3) 53 l) : ∃ c : List Hd, ((∀ o ∈ c, U64h o) ∧ c.length < 281474976710656) ∧ l = [hdsV c] := by
  obtain ⟨es, rfl, h1, h2⟩ := rd_isl Try.underlying53 h
  obtain ⟨c, h3, rfl⟩ := rd_map hdC U64h (fun l h => op24 h) h2
  rw [List.length_map, bo24] at h1
  exact ⟨c, ⟨h3, reach_lim h1 (by omega)⟩, by rw [co24]; rfl⟩
theorem op54 {d : Nat} {l : List V} (h : rdT Try.prog (d + 2) 54 l) : ∃ c : List Int, c.length < 281474976710656 ∧ l = [intsV c] := by
  obtain ⟨es, rfl, h1, h2⟩ := rd_isl Try.underlying54 h
  obtain ⟨c, h3, rfl⟩ := rd_map (fun n => [V.int .i64 n]) (fun _ => True) (fun l h => by
    obtain ⟨z, rfl, _⟩ := rd_int Try.underlying3 h
    exact ⟨z, trivial, rfl⟩) h2
  rw [List.length_map, bo3] at h1
  exact ⟨c, reach_lim h1 (by omega), by rw [co3]; rfl⟩
theorem pl53 : plainT Try.prog 9 53 = true := by kernel_rfl
theorem pl54 : plainT Try.prog 9 54 = true := by kernel_rfl
theorem pl40 : plainT Try.prog 9 40 = true := by kernel_rfl

/-- What is done to a cache. -/
structure Do where
  d : Int
  h : Hd
  id : Int
def doC (x : Do) : List V := .int .i64 x.d :: (hdC x.h ++ [.int .i64 x.id])
def dosV (l : List Do) : V := .isl 13 (l.map doC)
theorem op46 {d : Nat} {l : List V} (h : rdT Try.prog (d + 3) 46 l) : ∃ x : Do, U64h x.h ∧ l = doC x := by
  obtain ⟨ps, rfl, k⟩ := rd_str Try.underlying46 h
  clear h
  have k : rdF (rdT Try.prog (d + 2)) [3, 24, 3] ps := k
  match ps, k with
  | [l1, l2, l3], ⟨h1, h2, h3, _⟩ =>
    obtain ⟨x, rfl, _⟩ := rd_int Try.underlying3 h1
    obtain ⟨g, hg, rfl⟩ := op24 h2
    obtain ⟨z, rfl, _⟩ := rd_int Try.underlying3 h3
    exact ⟨⟨x, g, z⟩, hg, rfl⟩
  | [], h => exact h.elim
  | [_], h => exact h.2.elim
  | [_, _], h => exact h.2.2.elim
  | _ :: _ :: _ :: _ :: _, h => exact h.2.2.2.elim
theorem op40 {d : Nat} {l : List V} (h : rdT Try.prog (d + 4) 40 l) : ∃ c : List Do, ((∀ o ∈ c, U64h o.h) ∧ c.length < 281474976710656) ∧ l = [dosV c] := by
  obtain ⟨es, rfl, h1, h2⟩ := rd_isl Try.underlying40 h
  obtain ⟨c, h3, rfl⟩ := rd_map doC (fun x => U64h x.h) (fun l h => op46 h) h2
  rw [List.length_map, bo46] at h1
  exact ⟨c, ⟨h3, reach_lim h1 (by omega)⟩, by rw [co46]; rfl⟩
end Go.Proofs.Ytnhejkfbnjopjaa
