/- A row anywhere in memory, as the sorts see it. No condition. -/
import Derived.Test.YtggdnepfahknbaaSb
import Derived.Test.YtggdnepfahknbaaAm9
namespace Go.Proofs.Ytggdnepfahknbaa
open Go Ab
set_option linter.unusedSimpArgs false
set_option linter.unusedVariables false
set_option maxRecDepth 20000

theorem ltNat (j k : Nat) : decide ((j : Int) < (k : Int)) = decide (j < k) := by rw [Bool.eq_iff_iff]; simp
theorem leNat (j k : Nat) : decide ((j : Int) ≤ (k : Int)) = decide (j ≤ k) := by rw [Bool.eq_iff_iff]; simp
theorem eqNat (j k : Nat) : decide ((j : Int) = (k : Int)) = decide (j = k) := by rw [Bool.eq_iff_iff]; simp; omega
theorem beqNat (j k : Nat) : ((j : Int) == (k : Int)) = decide (j = k) := by rw [Bool.eq_iff_iff]; simp; omega
def big : Nat := 4611686018427387904
theorem addN (a b : Nat) (h : a + b < 9223372036854775808) : IntKind.i64.wrap ((a : Int) + (b : Int)) = ((a + b : Nat) : Int) := by
  simp [IntKind.wrap, IntKind.bits, IntKind.signed]; omega
theorem subN (a b : Nat) (h : b ≤ a) (h2 : a < 9223372036854775808) : IntKind.i64.wrap ((a : Int) - (b : Int)) = ((a - b : Nat) : Int) := by
  simp [IntKind.wrap, IntKind.bits, IntKind.signed]; omega
theorem add1N (a : Nat) (h : a < 9223372036854775807) : IntKind.i64.wrap ((a : Int) + 1) = ((a + 1 : Nat) : Int) := addN a 1 (by omega)
theorem sub1N (a : Nat) (h : 0 < a) (h2 : a < 9223372036854775808) : IntKind.i64.wrap ((a : Int) - 1) = ((a - 1 : Nat) : Int) := subN a 1 (by omega) h2
theorem addKN (a k : Nat) (h : a + k < 9223372036854775808) : IntKind.i64.wrap ((a : Int) + (k : Int)) = ((a + k : Nat) : Int) := addN a k h
theorem mul2N (a : Nat) (h : 2 * a < 9223372036854775808) : IntKind.i64.wrap (2 * (a : Int)) = ((2 * a : Nat) : Int) := by
  simp [IntKind.wrap, IntKind.bits, IntKind.signed]; omega
/-- The middle, as the code reckons it. -/
theorem halfN (a : Nat) (h : a < 9223372036854775808) : IntKind.i64.wrap ((IntKind.u64.wrap (a : Int)).fdiv (2 ^ (min 1 IntKind.u64.bits))) = ((a / 2 : Nat) : Int) := by
  have h1 : IntKind.u64.wrap (a : Int) = (a : Int) := by simp [IntKind.wrap, IntKind.bits, IntKind.signed]; omega
  rw [h1]
  have h2 : (2 : Int) ^ (min 1 IntKind.u64.bits) = 2 := by rfl
  rw [h2, Int.fdiv_eq_ediv_of_nonneg _ (by omega)]
  simp [IntKind.wrap, IntKind.bits, IntKind.signed]; omega

/-- Memory with a row at q. -/
def RW (m : Mem) (q ty sz : Nat) (es : List (List V)) : Mem := m.set q (.row ty sz es)
theorem rw_len (m : Mem) (q ty sz : Nat) (es : List (List V)) : (RW m q ty sz es).length = m.length := by simp [RW]
theorem rw_at {m : Mem} {q ty sz : Nat} {es : List (List V)} (h : q < m.length) : (RW m q ty sz es)[q]? = some (.row ty sz es) := by
  unfold RW; rw [List.getElem?_set_self h]
theorem rw_ne {m : Mem} {q k ty sz : Nat} {es : List (List V)} (h : q ≠ k) : (RW m q ty sz es)[k]? = m[k]? := by
  unfold RW; rw [List.getElem?_set_ne h]
theorem rw_id {m : Mem} {q ty sz : Nat} {es : List (List V)} (h : m[q]? = some (.row ty sz es)) : RW m q ty sz es = m := by
  unfold RW
  apply List.ext_getElem?
  intro k
  rw [List.getElem?_set]
  by_cases hk : q = k
  · subst hk
    rw [if_pos rfl, h, if_pos (List.getElem?_eq_some_iff.1 h).1]
  · rw [if_neg hk]

theorem accB_lt {all : Array Oper} {acc : List (Nat × Info × Nat)} {o : Oper} {inf : Info} {len : Nat} (h1 : ∀ n ∈ inf.rd ++ inf.wr, n < len) (h2 : acc.all (fun x => waits all o x.1 || indep x.2.1 x.2.2 inf) = true) : accB all acc o inf len = true := by
  unfold accB
  rw [Bool.and_eq_true]
  refine ⟨?_, h2⟩
  rw [List.all_eq_true]
  intro n hn
  rw [Nat.blt_eq]
  exact h1 n hn
theorem rd_ep {m : Mem} {q ty sz : Nat} {es : List (List V)} (hq : q < m.length) {s i o : Nat} : ∀ n ∈ (Info.mk (nms (.ep s q i o)) [] false).rd ++ (Info.mk (nms (.ep s q i o)) [] false).wr, n < (RW m q ty sz es).length := by
  intro n hn
  simp [nms] at hn
  rw [rw_len, hn]; exact hq
theorem wr_ep {m : Mem} {q ty sz : Nat} {es : List (List V)} (hq : q < m.length) {s i o : Nat} : ∀ n ∈ (Info.mk [] (nms (.ep s q i o)) false).rd ++ (Info.mk [] (nms (.ep s q i o)) false).wr, n < (RW m q ty sz es).length := by
  intro n hn
  simp [nms] at hn
  rw [rw_len, hn]; exact hq

section
variable {α : Type}
/-- Elements, how they stand as cells and as values. -/
structure Elt (agg : Bool) (sz : Nat) (enc : α → List V) (ev : α → V) : Prop where
  len : ∀ a, (enc a).length = sz
  part : ∀ a, partK agg sz (enc a) 0 = some (ev a)
  cells : ∀ a, cellsOfV (ev a) = enc a
  cb : ∀ a, cellsB (ev a) = true

variable {agg : Bool} {sz : Nat} {enc : α → List V} {ev : α → V}
theorem row_at {f : Nat → α} {n i : Nat} (h : i < n) : ((seg f 0 n).map enc)[i]? = some (enc (f i)) := by
  rw [List.getElem?_map, seg_get f (by omega), Nat.zero_add]
  rfl
theorem row_set {f : Nat → α} {n i : Nat} {x : α} : ((seg f 0 n).map enc).set i (enc x) = (seg (up f i x) 0 n).map enc := by
  rw [← seg_set, List.map_set]
theorem row_len {f : Nat → α} {n : Nat} : ((seg f 0 n).map enc).length = n := by rw [List.length_map, seg_len]; omega
theorem row_ld (hS : Elt agg sz enc ev) {m : Mem} {q ty : Nat} (hq : q < m.length) {f : Nat → α} {n i : Nat} (h : i < n) : loadK agg sz (RW m q ty sz ((seg f 0 n).map enc)) (.ep sz q i 0) = some (ev (f i)) := by
  rw [loadK_ep, rw_at hq]
  simp only [Option.bind_some, if_true, row_at h]
  exact hS.part _
theorem row_st (hS : Elt agg sz enc ev) {m : Mem} {q ty : Nat} (hq : q < m.length) {f : Nat → α} {n i : Nat} {x : α} (h : i < n) : storeK sz (RW m q ty sz ((seg f 0 n).map enc)) (.ep sz q i 0) (ev x) = some (RW m q ty sz ((seg (up f i x) 0 n).map enc)) := by
  have h1 := hS.len x
  have h2 := hS.len (f i)
  unfold storeK
  rw [hS.cells, if_pos ⟨h1, hS.cb x⟩]
  simp only [rw_at hq, if_true, row_at h]
  rw [if_pos (by omega), splice_all (by omega), row_set]
  unfold RW
  rw [List.set_set]
theorem row_ia {q n i : Nat} {kk : IntKind} (h : i < n) : iaddrS sz (.sl sz q 0 n) (.int kk (i : Int)) = some (.ep sz q i 0) := by
  simp only [iaddrS]
  rw [if_pos ⟨by omega, by omega⟩]
  simp

/-- What a sort's comparison does, wherever the elements stand. -/
def Cmp (P : Program) (lt : α → α → Bool) (ev : α → V) (c : FuncId) (fi caps : List V) (M : (Nat → α) → Mem) : Prop :=
  ∀ (g : Nat → α) (x y : α) (K : V → Prop), (∀ z : Int, decide (z < 0) = lt x y → K (.int .i64 z)) → callQ P c (fi ++ [ev x, ev y] ++ caps) (M g) K

variable {lt : α → α → Bool}
theorem ins_step (ho : Ord α lt) {f : Nat → α} {a i j : Nat} (h1 : a ≤ j) (h2 : j ≤ i) (hs : srf lt f a i) (hb : ∀ y, j ≤ y → y < i → lt (f i) (f y) = true) (he : j = a ∨ ∃ k, j = k + 1 ∧ lt (f i) (f k) = false) :
    seg (rot f j i (i + 1)) a (i + 1) = mrg lt (seg f a i) [f i] := by
  rw [seg_app _ h1 (show j ≤ i + 1 by omega), seg_rot h2 (Nat.le_succ i), seg_one, seg_ext (g := f) fun x _ hx => rot_out (.inl hx)]
  rw [seg_app f h1 h2]
  have e1 : mrg lt (seg f a j) [f i] = seg f a j ++ [f i] := mrg_before _ _ fun x hx y hy => by
    rw [List.mem_singleton.1 hy]
    obtain ⟨k, k1, k2, rfl⟩ := mem_seg.1 hx
    rcases he with rfl | ⟨k', rfl, hk⟩
    · omega
    · exact ho.ntr _ _ _ hk (hs k k' k1 (by omega) (by omega))
  have := mrg_split (lt := lt) (seg f a j) (seg f j i) [f i] [] (fun _ _ _ h => by cases h) fun x hx y hy => by
    rw [List.mem_singleton.1 hy]
    obtain ⟨k, k1, k2, rfl⟩ := mem_seg.1 hx
    exact hb k k1 k2
  rw [List.append_nil, mrg_nil_r, e1] at this
  rw [this, List.append_assoc]
end
end Go.Proofs.Ytggdnepfahknbaa
