/- slices.Delete on the rows of a table: the library's contract. No condition. -/
import Derived.Test.YtffhmbdpmpgddaaFx
import Derived.Shelf.SlicesE.Delete
namespace Go.Proofs.Ytffhmbdpmpgddaa
open Go Ab
set_option linter.unusedSimpArgs false
set_option linter.unusedVariables false
set_option maxRecDepth 20000

def ren31 : Go.Shelf.Ren := ⟨fun | 45 => 31 | n => n, fun | 22 => 53 | 23 => 58 | n => n, fun n => n⟩
theorem lay31 : SlLaysE.n45 Try.prog ren31 where
  mixed := by kernel_rfl
  f45 := ⟨"slices.Delete[[]*tollbridge/tuples.row,*tollbridge/tuples.row]", by decide, Try.func31.trans (congrArg some (by kernel_rfl))⟩
  t0 := Try.underlying0
  a0 := Try.isAgg0
  z0 := Try.sizeOf0
  v0 := Try.zeroValue0
  t3 := Try.underlying3
  a3 := Try.isAgg3
  z3 := Try.sizeOf3
  v3 := Try.zeroValue3
  t4 := Try.underlying4
  a4 := Try.isAgg4
  z4 := Try.sizeOf4
  v4 := Try.zeroValue4
  t22 := Try.underlying53
  a22 := Try.isAgg53
  z22 := Try.sizeOf53
  v22 := Try.zeroValue53
  a23 := Try.isAgg58
  z23 := Try.sizeOf58

section
variable {P : Program} {ρ : Pl} {I : Nat → Prop} {w : World} {m : Mem}
theorem Same.ahead (w : World) (n : Nat) : Same w (Go.Sort.ahead w n) := ⟨rfl, rfl, rfl, rfl⟩
def adr (ρ : Pl) (x : Nat) : Option Addr := some ⟨(ρ x).1, (ρ x).2 + 0, none⟩
theorem put_heap {w : World} {b o : Nat} {d : Array (Option Addr)} {c : Array Value} {ty : TypeId} {fr : Nat × Nat} (h : w.heap[b]? = some (.cells c ty fr)) :
    (Go.Sort.putRow Value.pointer w b o d).heap[b]? = some (.cells (Go.Sort.putCells Value.pointer o d c) ty fr) := by
  show (w.heap.modify b _)[b]? = _
  rw [Array.getElem?_modify, if_pos rfl, h]
  rfl
theorem put_other {w : World} {b o k : Nat} {d : Array (Option Addr)} (h : k ≠ b) : (Go.Sort.putRow Value.pointer w b o d).heap[k]? = w.heap[k]? := by
  show (w.heap.modify b _)[k]? = _
  rw [Array.getElem?_modify, if_neg (Ne.symm h)]
theorem put_cell {o j : Nat} {d : Array (Option Addr)} {c : Array Value} {a : Option Addr} (hc : o + d.size ≤ c.size) (h : d[j]? = some a) : (Go.Sort.putCells Value.pointer o d c)[o + j]? = some (.pointer a) := by
  obtain ⟨h1, h2⟩ := Array.getElem?_eq_some_iff.1 h
  unfold Go.Sort.putCells
  rw [Array.getElem?_mapIdx, Array.getElem?_eq_getElem (by omega)]
  simp only [Option.map_some]
  rw [if_pos ⟨by omega, by omega⟩, show o + j - o = j by omega, getElem!_def, h]
end
theorem snd31 {m : Mem} {q i : Nat} {rs : List Nat} (hq : m[q]? = some (.row 58 1 (rs.map fun x => [V.ptr x 0]))) (hi : i < rs.length) :
    Snd Try.prog 31 [.sl 1 q 0 rs.length, .int .i64 (i : Int), .int .i64 ((i + 1 : Nat) : Int)] m fun r => r = .ret (.sl 1 q 0 (rs.length - 1)) (m.set q (.row 58 1 ((rs.eraseIdx i).map fun x => [V.ptr x 0]))) := by
  intro ρ I w xs hr hl hrt
  simp only [Rt, RV] at hrt
  obtain ⟨⟨x0, g0, q1, o, cap, rfl, ⟨q2, q2'⟩, q3, c, ty', q4, q5⟩, ⟨x1, g1, rfl⟩, ⟨x2, g2, rfl⟩, _⟩ := hrt
  simp only [Nat.zero_add, Nat.reduceAdd] at g0 g1 g2
  have hxs : xs = #[.slice (some ⟨(ρ q).1, o, none⟩) rs.length cap, .int .i64 (i : Int), .int .i64 ((i + 1 : Nat) : Int)] := by
    apply Array.ext_getElem?
    intro k
    match k with
    | 0 => rw [g0]; rfl
    | 1 => rw [g1]; rfl
    | 2 => rw [g2]; rfl
    | k + 3 =>
      rw [Array.getElem?_eq_none (by simp only [List.length_cons, List.length_nil] at hl; omega), Array.getElem?_eq_none (by simp)]
  subst hxs
  obtain ⟨c0, b1, b2, b3⟩ := hr.blk _ _ hq
  rw [b1] at q4
  cases q4
  have ho : o = (ρ q).2 := by rcases q3 with q3 | q3 <;> omega
  subst ho
  rw [List.length_map, Nat.mul_one] at b2
  have hel : ∀ j x, rs[j]? = some x → x < m.length ∧ c[(ρ q).2 + j]? = some (.pointer (adr ρ x)) := by
    intro j x hx
    obtain ⟨_, e2⟩ := b3.get j [V.ptr x 0] (by rw [List.getElem?_map, hx]; rfl)
    simp only [Rc, RV] at e2
    obtain ⟨⟨y, e3, _, e4, rfl⟩, _⟩ := e2
    rw [Nat.mul_one] at e3
    exact ⟨e4, e3⟩
  obtain ⟨d, hd⟩ : ∃ d : Array (Option Addr), d = (rs.map (adr ρ)).toArray := ⟨_, rfl⟩
  have hds : d.size = rs.length := by rw [hd]; simp
  have hdg : ∀ j, j < d.size → ∃ x, rs[j]? = some x ∧ d[j]! = adr ρ x := fun j hj => by
    have hj' : j < rs.length := by omega
    refine ⟨rs[j], List.getElem?_eq_getElem hj', ?_⟩
    rw [getElem!_def, hd]
    simp [hj']
  have hH : Go.Sort.Holds Value.pointer w (ρ q).1 (ρ q).2 d := fun j hj => by
    obtain ⟨x, h1, h2⟩ := hdg j hj
    refine ⟨by rw [cell_at b1, h2]; exact (hel j x h1).2, ?_⟩
    simp only [World.frozen?, b1]
    simp
  have hcon := AnyE.slices_Delete lay31 Value.pointer (fun _ => rfl) none Try.zeroValue58 (Try.prog.info? 58).get! (by kernel_rfl) (by kernel_rfl) (ρ q).1 (ρ q).2 cap i (i + 1) d w hH (by omega) q2' (by omega) (by omega)
  rw [hds] at hcon
  refine Calls.mono hcon ?_
  rintro e w' ⟨rfl, n, rfl⟩
  obtain ⟨s1, s2⟩ := hr.same (Same.ahead w n)
  obtain ⟨d', hd'⟩ : ∃ d' : Array (Option Addr), d' = (d.toList.take i ++ d.toList.drop (i + 1) ++ List.replicate (i + 1 - i) none).toArray := ⟨_, rfl⟩
  rw [← hd']
  have hd's : d'.size = rs.length := by rw [hd']; simp; omega
  have hb1 : (Go.Sort.ahead w n).heap[(ρ q).1]? = some (.cells c _ (0, 0)) := b1
  have hcs : (Go.Sort.putCells Value.pointer (ρ q).2 d' c).size = c.size := by simp [Go.Sort.putCells]
  obtain ⟨k1, k2⟩ := s1.write (w' := Go.Sort.putRow Value.pointer (Go.Sort.ahead w n) (ρ q).1 (ρ q).2 d') (live_of hq rfl) (.row 58 1 ((rs.eraseIdx i).map fun x => [V.ptr x 0])) rfl rfl rfl
    (by show (Array.modify _ _ _).size = _; simp) (fun k hk => put_other hk) (fun c' ty2 h2 => by
      rw [hb1] at h2
      cases h2
      exact ⟨_, put_heap hb1, hcs⟩) (fun hk => by
      refine ⟨_, put_heap hb1, ?_, Rcc.mk fun j u hu => ?_⟩
      · rw [hcs, List.length_map, Nat.mul_one, List.length_eraseIdx]
        split <;> omega
      · rw [List.getElem?_map, Option.map_eq_some_iff] at hu
        obtain ⟨x, h1, rfl⟩ := hu
        have hx : x ∈ rs := List.mem_of_mem_eraseIdx (List.mem_of_getElem? h1)
        obtain ⟨jx, hjx⟩ := List.getElem?_of_mem hx
        refine ⟨rfl, ?_⟩
        simp only [Rc, RV, and_true]
        refine ⟨.pointer (adr ρ x), ?_, rfl, (hel jx x hjx).1, rfl⟩
        rw [Nat.mul_one]
        refine put_cell (by omega) ?_
        rw [hd', hd]
        simp only [List.getElem?_toArray, List.map_take, List.map_drop]
        rw [show (rs.map (adr ρ)).take i ++ (rs.map (adr ρ)).drop (i + 1) = (rs.eraseIdx i).map (adr ρ) by rw [List.eraseIdx_eq_take_drop_succ, List.map_append, List.map_take, List.map_drop]]
        rw [List.getElem?_append_left (by rw [List.length_map]; exact (List.getElem?_eq_some_iff.1 h1).1), List.getElem?_map, h1]
        rfl)
  refine ⟨_, rfl, _, ρ, I, by simp only [endOf]; rfl, k1, s2.trans k2, ?_⟩
  simp only [CR.val, RV]
  rw [show i + 1 - i = 1 by omega]
  refine ⟨?_, (ρ q).2, cap, rfl, ⟨by omega, q2'⟩, .inr (by simp), _, _, put_heap hb1, ?_⟩
  · show q < (m.set q _).length
    rw [List.length_set]
    exact q1
  · rw [hcs]
    exact q5
end Go.Proofs.Ytffhmbdpmpgddaa
