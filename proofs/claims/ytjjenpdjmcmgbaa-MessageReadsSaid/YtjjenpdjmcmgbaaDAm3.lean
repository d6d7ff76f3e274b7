/- Rows and maps that are made; what a map tells, takes and gives up; the lesser and the greater of two. No condition. The end of a row is cleared: it is let go. No condition. A map's entry that is read and written in one. No condition. One operation of the evaluator, and that it answers as the machine does. No condition. Calls of the evaluator: what a callee sees of memory, and how it comes back. No condition. A region's operations in the order of the text, calls among them. No condition. -/
import Derived.Test.YtjjenpdjmcmgbaaDAm2
import Derived.WideMake
import Derived.WideKeyRuns
import Derived.DeepKeys3
import Derived.Maps.RangeRun
namespace Go.Proofs.Ytjjenpdjmcmgbaa.Ab
open Go
set_option linter.unusedSimpArgs false
set_option linter.unusedVariables false
section
variable {P : Program} {ρ : Pl} {I : Nat → Prop} {w : World} {m : Mem}
def minmaxV (mx : Bool) : V → V → Option V
  | .int k a, .int k' b => if k = k' then some (.int k (bif mx then (if b > a then b else a) else (if b < a then b else a))) else none
  | _, _ => none
theorem minV_sound {N : Nat} {x y v : V} {a b : Value} (ha : RV N ρ I w x a) (hb : RV N ρ I w y b) (h : minmaxV false x y = some v) (ts : Array TypeId) (ty : TypeId) :
    ∃ z, (Builtin.min_ ts ty #[a, b]).run P w = .ok z w ∧ RV N ρ I w v z := by
  unfold minmaxV at h
  split at h
  · rename_i k p k' q
    split at h
    · rename_i hk
      subst hk
      cases h
      simp only [RV] at ha hb
      subst ha; subst hb
      exact ⟨.int k (if q < p then q else p), by simp [Builtin.min_, Builtin.min2], by simp [RV]⟩
    · cases h
  · cases h
theorem maxV_sound {N : Nat} {x y v : V} {a b : Value} (ha : RV N ρ I w x a) (hb : RV N ρ I w y b) (h : minmaxV true x y = some v) (ts : Array TypeId) (ty : TypeId) :
    ∃ z, (Builtin.max_ ts ty #[a, b]).run P w = .ok z w ∧ RV N ρ I w v z := by
  unfold minmaxV at h
  split at h
  · rename_i k p k' q
    split at h
    · rename_i hk
      subst hk
      cases h
      simp only [RV] at ha hb
      subst ha; subst hb
      exact ⟨.int k (if q > p then q else p), by simp [Builtin.max_, Builtin.max2], by simp [RV]⟩
    · cases h
  · cases h
def makeSliceV (P : Program) (t : TypeId) (x y : V) (m : Mem) : Option (V × Mem) := match P.underlying t with
  | some (.slice e) => match zeroE P e with
    | some (z, sz, by_) => match x, y with
      | .int .i64 n, .int .i64 k => if n = k ∧ 0 ≤ n ∧ n ≤ 140737488355328 ∧ by_ * n ≤ 140737488355328 then some (.sl sz m.length 0 n.toNat, m ++ [.row e sz (List.replicate n.toNat z)]) else none
      | _, _ => none
    | none => none
  | _ => none
theorem makeSliceV_sound (hr : Rep ρ I m w) {t : TypeId} {x y v : V} {a b : Value} {m' : Mem} (hx : RV m.length ρ I w x a) (hy : RV m.length ρ I w y b) (h : makeSliceV P t x y m = some (v, m')) : Came P ρ I m w (Instr.makeSlice t a b) v m' := by
  unfold makeSliceV at h
  split at h
  · rename_i e hu
    split at h
    · rename_i z sz by_ hz
      split at h
      · rename_i n k
        split at h
        · rename_i hc
          obtain ⟨rfl, hc1, hc2, hc3⟩ := hc
          cases h
          simp only [RV] at hx hy
          subst hx; subst hy
          obtain ⟨len, rfl⟩ : ∃ len : Nat, n = (len : Int) := ⟨n.toNat, by omega⟩
          obtain ⟨i, zv, z1, z2, z3, z4, z5, z6, z7, z8⟩ := zeroE_sound hz m.length ρ I w
          have hw : IntKind.i64.wrap (len : Int) = (len : Int) := by simp [IntKind.wrap, IntKind.bits, IntKind.signed]; omega
          have hrow : Rcc m.length ρ I w (List.replicate len z) ((Array.range (len * sz)).map (zv.cells[· % zv.cells.size]!)) 0 sz := Rcc.mk fun k u hu => by
            rw [List.getElem?_replicate] at hu
            split at hu
            · rename_i hk
              cases hu
              refine ⟨z7, Rc.mk fun j y hy => ?_⟩
              have hj := (List.getElem?_eq_some_iff.1 hy).1
              obtain ⟨q, q1, q2⟩ := z6.get j y hy
              refine ⟨q, ?_, q2⟩
              have hlt : 0 + k * sz + j < len * sz := by
                have := Nat.mul_le_mul_right sz (show k + 1 ≤ len from hk)
                rw [Nat.add_mul] at this; omega
              rw [Array.getElem?_map, Array.getElem?_range, if_pos hlt]
              simp only [Option.map_some, z8, Nat.zero_add] at q1 ⊢
              rw [Nat.mul_comm, Nat.mul_add_mod, Nat.mod_eq_of_lt (by omega)]
              congr 1
              rw [getElem!_def, q1]
            · cases hu
          obtain ⟨k1, k2⟩ := hr.alloc (.cells ((Array.range (len * sz)).map (zv.cells[· % zv.cells.size]!)) e) (.row e sz (List.replicate len z)) (fun hk => ⟨_, heap_alloc_new w _, by simp, Rcc.keep hk _ _ _ _ hrow⟩)
          have hz0 : len * sz = 0 → (Array.range (len * sz)).map ((#[] : Array Value)[· % (#[] : Array Value).size]!) = (Array.range (len * sz)).map (zv.cells[· % zv.cells.size]!) := by
            intro e; rw [e]; apply Array.ext <;> simp
          refine ⟨.slice (some ⟨w.heap.size, 0, none⟩) len len, w.alloc (.cells ((Array.range (len * sz)).map (zv.cells[· % zv.cells.size]!)) e), _, _, ?_, k1, k2, ?_⟩
          · have h48 : (2 : Int) ^ 48 = 281474976710656 := by decide
            have hroom : ¬ (len * i.bytes > roomBytes) := by
              have : (by_ : Int) * (len : Int) = ((len * by_ : Nat) : Int) := by simp [Int.mul_comm]
              rw [this] at hc3
              rw [z4]
              unfold roomBytes
              omega
            have g1 : ¬ ((len : Int) < 0) := by omega
            have g2 : ¬ ((i.bytes : Int) * (len : Int) > 2 ^ 48) := by rw [z4, h48]; omega
            have g3 : ¬ ((len : Int) > (len : Int)) := by omega
            have hcond : (decide ((len : Int) < 0) || decide ((i.bytes : Int) * (len : Int) > 2 ^ 48) || decide ((len : Int) < 0) || decide ((len : Int) > (len : Int))) = false := by
              simp only [decide_eq_false g1, decide_eq_false g2, decide_eq_false g3]; rfl
            by_cases h0 : len * sz = 0
            · have hz0' := hz0 h0
              simp only [Instr.makeSlice, Sem.run_bind, run_underlying hu, Result.andThen_ok, asInt, asIntOf, Sem.run_pure, run_sizeOf' z1, zeroValue, typeInfo, run_program, z1, hw, hcond, Bool.false_eq_true, askRoom, hroom, if_false, Int.toNat_natCast, z3, h0, if_true]
              rw [h0] at hz0'
              rw [hz0']
              rfl
            · simp only [Instr.makeSlice, Sem.run_bind, run_underlying hu, Result.andThen_ok, asInt, asIntOf, Sem.run_pure, run_sizeOf' z1, zeroValue, typeInfo, run_program, z1, z2, hw, hcond, Bool.false_eq_true, askRoom, hroom, if_false, Int.toNat_natCast, z3, h0]
              rfl
          · simp only [RV]
            refine ⟨by simp, 0, len, by rw [Pl.put_self]; simp, by omega, .inr (by rw [Pl.put_self]; simp), _, e, by rw [Pl.put_self]; exact heap_alloc_new w _, .inr (by simp)⟩
        · cases h
      · cases h
    · cases h
  · cases h
def convM (P : Program) (m : Mem) (s d : TypeId) (x : V) : Option V := match x with
  | .sl sz n off len => match P.underlying s, P.underlying d with
    | some (.slice e), some .string => (match P.underlying e with
      | some (.int .u8) => if sz = 1 then ((contV m 1 (.sl sz n off len)).bind numsV).map fun xs => .str (strOfNums xs) else none
      | _ => none)
    | _, _ => none
  | x => convV P s d x
theorem convM_int {s d : TypeId} {k : IntKind} {n : Int} : convM P m s d (.int k n) = convV P s d (.int k n) := rfl
theorem convM_nils {s d : TypeId} : convM P m s d .nils = convV P s d .nils := rfl
theorem convM_isl {s d : TypeId} {sz : Nat} {es : List (List V)} : convM P m s d (.isl sz es) = convV P s d (.isl sz es) := rfl
def bnm : V → List Nat
  | .sl _ n _ _ => [n]
  | _ => []
theorem convM_loc {s d : TypeId} {x : V} {m2 : Mem} (h : ∀ n, n ∈ bnm x → m2[n]? = m[n]?) : convM P m2 s d x = convM P m s d x := by
  cases x <;> try rfl
  rename_i sz n off len
  have e := h n (by simp [bnm])
  simp only [convM, contV, e]
theorem convM_sound (hr : Rep ρ I m w) {src dst : TypeId} {x v : V} {a : Value} (ha : RV m.length ρ I w x a) (h : convM P m src dst x = some v) : ∃ c, (convert src dst a).run P w = .ok c w ∧ RV m.length ρ I w v c := by
  unfold convM at h
  split at h
  · rename_i sz n off len
    split at h
    · rename_i e h1 h2
      split at h
      · rename_i h3
        split at h
        · rename_i hs
          subst hs
          rw [Option.map_eq_some_iff] at h
          obtain ⟨xs, hx, rfl⟩ := h
          rw [Option.bind_eq_some_iff] at hx
          obtain ⟨es, hc, hx⟩ := hx
          have hes := numsV_spec hx
          simp only [contV] at hc
          cases hm : m[n]? with
          | none => simp [hm] at hc
          | some b =>
            cases b with
            | row ty sz' l =>
              simp only [hm] at hc
              cases hq : Nat.beq 1 1 && (Nat.beq 1 sz' && Nat.ble (off + len) l.length) with
              | false =>
                exfalso
                rw [hq] at hc
                cases hc
              | true =>
                simp only [Bool.and_eq_true, Nat.beq_eq, Nat.ble_eq] at hq
                obtain ⟨_, q1, q2⟩ := hq
                have hl : es = (l.drop off).take len := by
                  have hq' : (Nat.beq 1 1 && (Nat.beq 1 sz' && Nat.ble (off + len) l.length)) = true := by simp [← q1]; omega
                  rw [hq'] at hc
                  exact (Option.some.inj hc).symm
                have hlen : xs.length = len := by
                  have : es.length = xs.length := by rw [hes, List.length_map]
                  rw [← this, hl, List.length_take, List.length_drop]; omega
                simp only [RV] at ha
                obtain ⟨_, o, cap, rfl, hlc, ho, _⟩ := ha
                subst hlen
                obtain ⟨c, g1, g2, g3⟩ := hr.blk _ _ hm
                rcases Nat.eq_zero_or_pos xs.length with h0 | h0
                · have hxs : xs = [] := List.length_eq_zero_iff.1 h0
                  subst hxs
                  refine ⟨.string (strOfNums []), ?_, by simp only [RV]⟩
                  rw [run_convert_bytes_string w src dst e _ _ cap h1 h3 h2, run_bytesToString w _ _ cap [] (by simp [loadCells, loadCellsFrom])]
                  rfl
                · have hoo : o = (ρ n).2 + off * 1 := by rcases ho with ho | ho <;> first | omega | exact ho
                  refine ⟨_, run_convert_bytes_arg w src e h1 h3 (ρ n).1 o xs.length cap xs rfl (fun i hi => ?_) dst h2, by simp only [RV]⟩
                  rw [cell_of_row w (ρ n).1 _ c ty (0, 0) g1]
                  have hget : l[off + i]? = some [V.int .u8 xs[i]] := by
                    have : es[i]? = some [V.int .u8 xs[i]] := by rw [hes]; simp [hi]
                    rw [hl, List.getElem?_take_of_lt hi, List.getElem?_drop] at this
                    exact this
                  obtain ⟨_, q⟩ := g3.get (off + i) _ hget
                  obtain ⟨y, r1, _, r2⟩ := q.get 0 _ rfl
                  simp only [RV] at r2
                  subst r2
                  rw [hoo, show (ρ n).2 + off * 1 + i = (ρ n).2 + (off + i) * sz' + 0 by rw [← q1]; omega, r1]
                  simp [List.getD, hi]
            | _ => simp [hm] at hc
        · cases h
      · cases h
    · cases h
  · exact convV_sound ha h
def appendMV (P : Program) (t u : TypeId) (s : V) (n : Int) (m : Mem) : Option (V × Mem) :=
  match P.underlying t, P.underlying u with
  | some (.slice e), some (.int _) => match zeroE P e with
    | some (z, sz, by_) => match s with
      | .nils => if 0 < n ∧ n ≤ 140737488355328 ∧ by_ * n ≤ 140737488355328 then some (.sl sz m.length 0 n.toNat, m ++ [.row e sz (List.replicate n.toNat z)]) else none
      | _ => none
    | none => none
  | _, _ => none
def appendA (P : Program) (t u : TypeId) (s x : V) (m : Mem) : Option (V × Mem) := match x with
  | .int _ n => appendMV P t u s n m
  | x => appendV P t u s x m
theorem appendA_of {t u : TypeId} {s x : V} {sz : Nat} {l : List (List V)} (h : contV m sz x = some l) : appendA P t u s x m = appendV P t u s x m := by
  cases x <;> first | rfl | (simp [contV] at h)
theorem run_append_make {t u e : TypeId} {k k' : IntKind} {i : TypeInfo} {z : Value} (ht : P.underlying t = some (.slice e)) (hu : P.underlying u = some (.int k)) (hi : P.info? e = some i) (hz : i.zero = some z) (hs : 0 < i.size)
    {n : Nat} (h0 : 0 < n) (h1 : n ≤ 140737488355328) (hb : n * i.bytes ≤ 140737488355328) (ty : TypeId) :
    (Builtin.append_ #[t, u] ty #[.slice none 0 0, .int k' (n : Int)]).run P w =
      .ok (.slice (some ⟨w.heap.size, 0, none⟩) (0 + n) (grownCap w (0 + n) 0 e))
        (w.drew.alloc (.cells (Builtin.zeroCells z.cells n ++ Builtin.zeroCells z.cells (grownCap w (0 + n) 0 e - (0 + n))) e)) := by
  have hfit := growslice_fits (need := 0 + n) (old := 0) (bytes := i.bytes) (by omega) (by simpa using hb)
  have h48' : ¬ (281474976710656 < Builtin.nextslicecap (0 + n) 0 * i.bytes) := by omega
  have hw : IntKind.i64.wrap (n : Int) = (n : Int) := by simp [IntKind.wrap, IntKind.bits, IntKind.signed]; omega
  have g1 : ¬ ((n : Int) < 0) := by omega
  have g2 : ¬ ((2 : Int) ^ 48 < (n : Int) * (i.bytes : Int)) := by
    have : (n : Int) * (i.bytes : Int) = ((n * i.bytes : Nat) : Int) := by simp
    have h48 : (2 : Int) ^ 48 = 281474976710656 := by decide
    rw [this, h48]; omega
  have g3 : ¬ (n * i.size = 0) := by
    have := Nat.mul_pos h0 hs
    omega
  have g3' : ¬ (n = 0 ∨ i.size = 0) := by omega
  have g4 : ¬ (9223372036854775807 < (n : Int)) := by omega
  have g5 : ¬ n = 0 := by omega
  have g6 : ¬ i.size = 0 := by omega
  have g7 : ¬ (281474976710656 < (n : Int) * (i.bytes : Int)) := by
    have : (n : Int) * (i.bytes : Int) = ((n * i.bytes : Nat) : Int) := by simp
    rw [this]; omega
  simp only [Nat.zero_add] at h48' ⊢
  simp [Builtin.append_, run_underlying ht, run_underlying hu, sizeOf, typeInfo, zeroValue, hi, hz, asInt, asIntOf, hw, g1, g3, g4, g5, g7, h48', Question.forced, newRow, grownCap, Builtin.firstCells]
theorem appendMV_sound (hr : Rep ρ I m w) {t u : TypeId} {s v : V} {n : Int} {k' : IntKind} {a : Value} {m' : Mem} (hs : RV m.length ρ I w s a) (h : appendMV P t u s n m = some (v, m')) (ty : TypeId) :
    Came P ρ I m w (Builtin.append_ #[t, u] ty #[a, .int k' n]) v m' := by
  unfold appendMV at h
  split at h
  · rename_i e k hu hu2
    split at h
    · rename_i z sz by_ hz
      split at h
      · split at h
        · rename_i hc
          obtain ⟨hc1, hc2, hc3⟩ := hc
          cases h
          simp only [RV] at hs
          subst hs
          obtain ⟨len, rfl⟩ : ∃ len : Nat, n = (len : Int) := ⟨n.toNat, by omega⟩
          obtain ⟨i, zv, z1, z2, z3, z4, z5, z6, z7, z8⟩ := zeroE_sound hz m.length ρ I w
          have hb : len * i.bytes ≤ 140737488355328 := by
            have : (by_ : Int) * (len : Int) = ((len * by_ : Nat) : Int) := by simp [Int.mul_comm]
            rw [this] at hc3
            rw [z4]; omega
          have hrun := run_append_make (P := P) (w := w) (k' := k') hu hu2 z1 z2 (by rw [z3]; exact z5) (n := len) (by omega) (by omega) hb ty
          have hcap : 0 + len ≤ grownCap w (0 + len) 0 e := grownCap_ge w (0 + len) 0 e
          have hrow : ∀ q : Nat, Rcc m.length ρ I w (List.replicate len z) (Builtin.zeroCells zv.cells len ++ Builtin.zeroCells zv.cells q) 0 sz := fun q => Rcc.mk fun k u hu => by
            rw [List.getElem?_replicate] at hu
            split at hu
            · rename_i hk
              cases hu
              refine ⟨z7, Rc.mk fun j y hy => ?_⟩
              have hj := (List.getElem?_eq_some_iff.1 hy).1
              obtain ⟨q, q1, q2⟩ := z6.get j y hy
              refine ⟨q, ?_, q2⟩
              have hlt : 0 + k * sz + j < len * sz := by
                have := Nat.mul_le_mul_right sz (show k + 1 ≤ len from hk)
                rw [Nat.add_mul] at this; omega
              rw [Array.getElem?_append_left (by rw [size_zeroCells, z8]; exact hlt)]
              unfold Builtin.zeroCells
              rw [Array.getElem?_map, z8, Array.getElem?_range, if_pos hlt]
              simp only [Option.map_some, Nat.zero_add] at q1 ⊢
              rw [Nat.mul_comm, Nat.mul_add_mod, Nat.mod_eq_of_lt (by omega)]
              congr 1
              rw [getElem!_def, q1]
            · cases hu
          have hnr : Rep ρ I m w.drew ∧ Step ρ I m w ρ I m w.drew := hr.same (Same.drew w)
          obtain ⟨k1, k2⟩ := hnr.1.alloc (.cells (Builtin.zeroCells zv.cells len ++ Builtin.zeroCells zv.cells (grownCap w (0 + len) 0 e - (0 + len))) e) (.row e sz (List.replicate len z)) (fun hk => ⟨_, heap_alloc_new w.drew _, by
            rw [Array.size_append, size_zeroCells, size_zeroCells, z8, List.length_replicate]
            simp only [Nat.zero_add]
            omega, Rcc.keep hk _ _ _ _ (Rcc.keep hnr.2.keeps _ _ _ _ (hrow _))⟩)
          refine ⟨_, _, _, _, hrun, k1, hnr.2.trans k2, ?_⟩
          simp only [RV]
          refine ⟨by simp, 0, grownCap w (0 + len) 0 e, by rw [Pl.put_self]; simp, ⟨by simpa using hcap, grownCap_le w _ _ (by omega)⟩, .inr (by rw [Pl.put_self]; simp), _, e, by rw [Pl.put_self]; exact heap_alloc_new w.drew _, .inr ?_⟩
          rw [Array.size_append, size_zeroCells, size_zeroCells, z8, ← Nat.add_mul]
          simp only [Nat.zero_add] at hcap ⊢
          rw [show len + (grownCap w len 0 e - len) = grownCap w len 0 e by omega]
          exact Nat.le_refl _
        · cases h
      · cases h
    · cases h
  · cases h
theorem appendA_sound (hr : Rep ρ I m w) {t u : TypeId} {s x v : V} {a b : Value} {m' : Mem} (hs : RV m.length ρ I w s a) (hx : RV m.length ρ I w x b) (h : appendA P t u s x m = some (v, m')) (ty : TypeId) :
    Came P ρ I m w (Builtin.append_ #[t, u] ty #[a, b]) v m' := by
  unfold appendA at h
  split at h
  · simp only [RV] at hx
    subst hx
    exact appendMV_sound hr hs h ty
  · exact appendV_sound hr hs hx h ty
theorem newMap_sound (hr : Rep ρ I m w) (t : TypeId) : Came P ρ I m w (Instr.makeMap t none) (.mp m.length) (m ++ [.map [] [] 0]) := by
  obtain ⟨k1, k2⟩ := hr.alloc (.map #[] 0) (.map [] [] 0) (fun _ => ⟨rfl, #[], heap_alloc_new w _, by simp [Re], rfl⟩)
  exact ⟨_, _, _, _, run_makeMap_plain w t, k1, k2, by simp only [RV]; exact ⟨by simp, by rw [Pl.put_self]⟩⟩
/-- Where a key stands among a map's entries. -/
def eqK (P : Program) (t : TypeId) : V → V → Option Bool
  | .int k a, .int k' b => match P.underlying t with | some (.int _) => bif decide (k = k') then some (a == b) else none | _ => none
  | x, y => eqV P t x y
def findV (P : Program) (k : TypeId) (key : V) : List (V × V) → Nat → Option (Option (Nat × V))
  | [], _ => some none
  | (k', v) :: r, i => match eqK P k key k' with
    | some true => some (some (i, v))
    | some false => findV P k key r (i + 1)
    | none => none
/-- A key that may be asked for: an array or a struct of plain cells. -/
def keyV (P : Program) (k : TypeId) : V → Bool
  | .agg l => isAggT P k && (P.keyTypeAt 8 k && (litsV P k l).isSome)
  | .int _ _ => match P.underlying k with
    | some (.int _) => true
    | _ => false
  | _ => false
theorem findNow_run {kt : TypeId} {kk : IntKind} (hu : P.underlying kt = some (.int kk)) (k : IntKind) (a : Int) : ∀ (es : List MapEntry) (i : Nat) (r : Option (Nat × Value)), Instr.findNow (.int kk) (.int k a) es i = some r → (Instr.findAsking kt (.int k a) es i).run P w = .ok r w
  | [], i, r, h => by
    simp only [Instr.findNow] at h
    cases h
    simp [Instr.findAsking]
  | e :: es, i, r, h => by
    simp only [Instr.findNow] at h
    cases hs : Instr.sameNow (.int kk) (.int k a) e.key with
    | none => rw [hs] at h; cases h
    | some b =>
      have hE : (Op.equal kt (.int k a) e.key).run P w = .ok b w := by
        cases hk : e.key with
        | int k' b' =>
          rw [hk] at hs
          simp only [Instr.sameNow] at hs
          split at hs
          · rename_i hkk
            subst hkk
            cases hs
            exact equal_at _ _ _ _ fun d => by simp [Op.equalIn, run_underlying hu]
          · cases hs
        | _ => rw [hk] at hs; simp [Instr.sameNow] at hs
      rw [hs] at h
      cases b with
      | true =>
        cases h
        simp [Instr.findAsking, hE]
      | false =>
        have ih := findNow_run hu k a es (i + 1) r h
        simp [Instr.findAsking, hE, ih]
theorem eqK_sound {N : Nat} {t : TypeId} {x y : V} {a b : Value} {r : Bool} (ha : RV N ρ I w x a) (hb : RV N ρ I w y b) (h : eqK P t x y = some r) : (Op.equal t a b).run P w = .ok r w := by
  unfold eqK at h
  split at h
  · simp only [RV] at ha hb
    subst ha; subst hb
    split at h
    · rename_i k p k' q _ _ hu
      cases hk : decide (k = k') with
      | false => rw [hk] at h; cases h
      | true =>
        rw [hk] at h
        simp only [cond_true, Option.some.injEq] at h
        subst h
        have hk := of_decide_eq_true hk
        subst hk
        exact equal_at _ _ _ _ fun d => by simp [Op.equalIn, run_underlying hu]
    · cases h
  · exact (eqV_sound ha hb h).1
theorem find_sound {N : Nat} {k : TypeId} {key : V} {x : Value} (hk : RV N ρ I w key x) : ∀ {es : List (V × V)} {ents : List MapEntry} {i : Nat} {r : Option (Nat × V)}, Re N ρ I w es ents → findV P k key es i = some r →
    ∃ q, (Instr.findAsking k x ents i).run P w = .ok q w ∧ match r, q with
      | none, none => True
      | some (j, v), some (j', y) => j = j' ∧ i ≤ j ∧ j < i + es.length ∧ RV N ρ I w v y
      | _, _ => False
  | [], [], i, r, _, h => by cases h; exact ⟨none, by simp [Instr.findAsking], trivial⟩
  | [], _ :: _, _, _, he, _ => by simp [Re] at he
  | _ :: _, [], _, _, he, _ => by simp [Re] at he
  | (k', v) :: es, e :: ents, i, r, he, h => by
    simp only [Re] at he
    unfold findV at h
    cases hq : eqK P k key k' with
    | none => rw [hq] at h; cases h
    | some b =>
      rw [hq] at h
      have hE := eqK_sound hk he.1 hq
      cases b with
      | true =>
        cases h
        exact ⟨some (i, e.val), by simp [Instr.findAsking, hE], rfl, Nat.le_refl _, by simp, he.2.1⟩
      | false =>
        obtain ⟨q, q1, q2⟩ := find_sound (i := i + 1) hk he.2.2 h
        refine ⟨q, by simp [Instr.findAsking, hE, q1], ?_⟩
        cases r with
        | none =>
          cases q with
          | none => trivial
          | some p' => exact q2.elim
        | some p =>
          cases q with
          | none => exact q2.elim
          | some p' =>
            obtain ⟨j, v'⟩ := p
            obtain ⟨j', y⟩ := p'
            obtain ⟨h1, h2, h3, h4⟩ := q2
            exact ⟨h1, by omega, by simp only [List.length_cons]; omega, h4⟩
theorem key_runs {N : Nat} {k : TypeId} {key : V} {x : Value} (hk : RV N ρ I w key x) (h : keyV P k key = true) (em : Bool) (es : List MapEntry) :
    (Instr.checkKey em 10000 k x).run P w = .ok () w ∧ (Instr.findKey k x es).run P w = (Instr.findAsking k x es).run P w := by
  unfold keyV at h
  split at h
  · rename_i l
    simp only [Bool.and_eq_true, Option.isSome_iff_exists] at h
    obtain ⟨h1, h2, la, h3⟩ := h
    simp only [RV] at hk
    obtain ⟨c, rfl, h4, h5⟩ := hk
    have hlit := litsV_sound h4 h5 h3
    unfold isAggT at h1
    refine ⟨?_, ?_⟩
    · have hC : CheckAt P em 10000 k := by
        have := run_checkKey_deep em 9992 8 k h2
        rwa [show 9992 + 8 = 10000 from rfl] at this
      refine hC w 9 (.agg c) la ?_ hlit
      cases hu : P.underlying k with
      | none => rw [hu] at h1; cases h1
      | some u =>
        rw [hu] at h1
        unfold Program.keyLits at hlit
        rw [hu] at hlit
        unfold Value.formed
        cases u <;> first
          | (cases h1; done)
          | (simp only at hlit
             split at hlit
             · rename_i hc
               simp only [hu, beq_iff_eq]
               first | (simpa using hc) | (have hc1 := hc.1; simpa using hc1)
             · cases hlit)
    · refine run_findKey_eq w ?_ _ es
      cases hu : P.underlying k with
      | none => rw [hu] at h1; cases h1
      | some u => rw [hu] at h1; cases u <;> first | rfl | (cases h1; done)
  · rename_i kk a
    simp only [RV] at hk
    subst hk
    split at h
    · rename_i _ kk' hu
      refine ⟨?_, ?_⟩
      · have gen : ∀ d, (Instr.checkKey em (d + 1) k (.int kk a)).run P w = .ok () w := fun d => by simp [Instr.checkKey, run_underlying hu]
        exact gen 9999
      · cases hn : Instr.findNow (.int kk') (.int kk a) es 0 with
        | none => simp [Instr.findKey, run_underlying hu, hn]
        | some r => simp [Instr.findKey, run_underlying hu, hn, findNow_run hu kk a es 0 r hn]
    · cases h
  · cases h
/-- The value of a type that nothing was put for. -/
def zeroV (P : Program) (e : TypeId) : Option V := match P.info? e with
  | some i => i.zero.map constV
  | none => none
def lookupV (P : Program) (t : TypeId) (m : Mem) (x key : V) (ok : Bool) : Option V := match P.underlying t with
  | some (.map k e) => bif keyV P k key then match x with
    | .mp n => match m[n]? with
      | some (.map es bs clk) => match findV P k key es 0 with
        | some (some (_, v)) => some (bif ok then .tup [v, .bool true] else v)
        | some none => (zeroV P e).map fun z => bif ok then .tup [z, .bool false] else z
        | none => none
      | _ => none
    | _ => none
    else none
  | _ => none
theorem lookupV_sound (hr : Rep ρ I m w) {t : TypeId} {x key v : V} {a b : Value} {ok : Bool} (hx : RV m.length ρ I w x a) (hk : RV m.length ρ I w key b) (h : lookupV P t m x key ok = some v) :
    ∃ y, (Instr.lookup t a b ok).run P w = .ok y w ∧ RV m.length ρ I w v y := by
  unfold lookupV at h
  split at h
  · rename_i k e hu
    cases hkv : keyV P k key with
    | false => rw [hkv] at h; cases h
    | true =>
      rw [hkv] at h
      simp only [cond_true] at h
      split at h
      · rename_i n
        split at h
        · rename_i es bs clk hm
          simp only [RV] at hx
          obtain ⟨h1, rfl⟩ := hx
          obtain ⟨h2, ents, h3, h4, h5⟩ := hr.blk n _ hm
          obtain ⟨c1, c2⟩ := key_runs hk hkv ents.isEmpty ents.toList
          have tupR : ∀ {u : V} {y : Value} {c : Bool}, RV m.length ρ I w u y → RV m.length ρ I w (bif ok then .tup [u, .bool c] else u) (if ok then .tuple #[y, .bool c] else y) := by
            intro u y c hu
            cases ok with
            | false => exact hu
            | true =>
              simp only [cond_true, if_true, RV]
              exact ⟨_, rfl, rfl, by simp only [Rt]; exact ⟨⟨y, rfl, hu⟩, ⟨.bool c, rfl, by simp [RV]⟩, trivial⟩⟩
          split at h
          · rename_i j u hf
            cases h
            obtain ⟨q, q1, q2⟩ := find_sound hk h4 hf
            cases q with
            | none => exact q2.elim
            | some p =>
              obtain ⟨j', y⟩ := p
              obtain ⟨_, _, _, q3⟩ := q2
              refine ⟨_, ?_, tupR (c := true) q3⟩
              simp [Instr.lookup, run_underlying hu, MapKept.run_getObj_map h3, c1, c2, q1]
          · rename_i hf
            obtain ⟨q, q1, q2⟩ := find_sound hk h4 hf
            cases q with
            | some p => exact q2.elim
            | none =>
              unfold zeroV at h
              cases hi : P.info? e with
              | none => simp [hi] at h
              | some i =>
                cases hz : i.zero with
                | none => simp [hi, hz] at h
                | some z =>
                  simp only [hi, hz, Option.map_some, Option.some.injEq] at h
                  subst h
                  refine ⟨_, ?_, tupR (c := false) (RV_constV _ _ _ _ z)⟩
                  simp [Instr.lookup, run_underlying hu, MapKept.run_getObj_map h3, c1, c2, q1, zeroValue, typeInfo, hi, hz]
          · cases h
        · cases h
      · cases h
  · cases h
/-- Two rows of whole numbers that are the same. -/
def sameIs : List V → List V → Bool
  | [], [] => true
  | .int k a :: r, .int k' a' :: r' => decide (k = k') && (decide (a = a') && sameIs r r')
  | _, _ => false
def sameK : V → V → Bool
  | .agg l, .agg l' => sameIs l l'
  | .int k a, .int k' a' => decide (k = k') && decide (a = a')
  | _, _ => false
theorem sameIs_cells {N : Nat} : ∀ {l l' : List V} {c c' : Array Value} {o : Nat}, sameIs l l' = true → Rc N ρ I w l c o → Rc N ρ I w l' c' o → ∀ i, i < l.length → ∃ k a, c[o + i]? = some (.int k a) ∧ c'[o + i]? = some (.int k a)
  | [], _, _, _, _, _, _, _, i, hi => by simp at hi
  | .int k a :: r, .int k' a' :: r', c, c', o, h, h1, h2, i, hi => by
    simp only [sameIs, Bool.and_eq_true, decide_eq_true_eq] at h
    obtain ⟨rfl, rfl, h3⟩ := h
    simp only [Rc] at h1 h2
    obtain ⟨⟨x, x1, _, x2⟩, x3⟩ := h1
    obtain ⟨⟨y, y1, _, y2⟩, y3⟩ := h2
    simp only [RV] at x2 y2
    subst x2; subst y2
    cases i with
    | zero => exact ⟨k, a, x1, y1⟩
    | succ i =>
      obtain ⟨k2, a2, z1, z2⟩ := sameIs_cells h3 x3 y3 i (by simpa using hi)
      exact ⟨k2, a2, by rw [← z1]; congr 1; omega, by rw [← z2]; congr 1; omega⟩
theorem sameIs_len : ∀ {l l' : List V}, sameIs l l' = true → l.length = l'.length
  | [], [], _ => rfl
  | [], _ :: _, h => by simp [sameIs] at h
  | .int _ _ :: r, .int _ _ :: r', h => by
    simp only [sameIs, Bool.and_eq_true] at h
    simp [sameIs_len h.2.2]
/-- The key that stays. -/
theorem stays_run {N : Nat} {k0 key : V} {x y : Value} (h : sameK k0 key = true) (hx : RV N ρ I w k0 x) (hy : RV N ρ I w key y) : (Instr.keyThatStays x y).run P w = .ok y w := by
  cases k0 with
  | agg l =>
    cases key with
    | agg l' =>
      simp only [RV] at hx hy
      obtain ⟨c, rfl, h1, h2⟩ := hx
      obtain ⟨c', rfl, h3, h4⟩ := hy
      have hl := sameIs_len h
      have hc := sameIs_cells h h2 h4
      have hs : Instr.sameBits 10000 (.agg c) (.agg c') = true := by
        show Instr.sameBits (9999 + 1) (.agg c) (.agg c') = true
        simp only [Instr.sameBits, Bool.and_eq_true, beq_iff_eq, List.all_eq_true]
        refine ⟨by omega, ?_⟩
        intro p hp
        obtain ⟨i, hi, e⟩ := List.getElem_of_mem hp
        rw [List.getElem_zip] at e
        have hi2 : i < l.length := by simp at hi; omega
        obtain ⟨k, a, z1, z2⟩ := hc i hi2
        rw [← e]
        simp only [Nat.zero_add] at z1 z2
        have e1 : c.toList[i]'(by simp at hi ⊢; omega) = .int k a := by
          have := (Array.getElem?_eq_some_iff.1 z1).2
          simpa using this
        have e2 : c'.toList[i]'(by simp at hi ⊢; omega) = .int k a := by
          have := (Array.getElem?_eq_some_iff.1 z2).2
          simpa using this
        simp only [e1, e2]
        simp [Instr.sameBits]
      simp [Instr.keyThatStays, hs]
    | _ => simp [sameK] at h
  | int k a =>
    cases key with
    | int k' a' =>
      simp only [sameK, Bool.and_eq_true, decide_eq_true_eq] at h
      obtain ⟨rfl, rfl⟩ := h
      simp only [RV] at hx hy
      subst hx; subst hy
      have hs : Instr.sameBits 10000 (.int k a) (.int k a) = true := by
        show Instr.sameBits (9999 + 1) (.int k a) (.int k a) = true
        simp [Instr.sameBits]
      simp [Instr.keyThatStays, hs]
    | _ => simp [sameK] at h
  | _ => simp [sameK] at h
/-- A key is put into a map. -/
def putV (P : Program) (t : TypeId) (m : Mem) (x key v : V) : Option Mem := match P.underlying t with
  | some (.map k e) => bif keyV P k key then match x with
    | .mp n => match m[n]? with
      | some (.map es bs clk) => match findV P k key es 0 with
        | some none => some (m.set n (.map (es ++ [(key, v)]) (bs ++ [clk]) (clk + 1)))
        | some (some (i, _)) => match es[i]? with
          | some (k0, _) => bif sameK k0 key then some (m.set n (.map (es.set i (key, v)) bs clk)) else none
          | none => none
        | none => none
      | _ => none
    | _ => none
    else none
  | _ => none
theorem Re_get {N : Nat} : ∀ {es : List (V × V)} {ents : List MapEntry} {i : Nat} {k v : V}, Re N ρ I w es ents → es[i]? = some (k, v) → ∃ e, ents[i]? = some e ∧ RV N ρ I w k e.key ∧ RV N ρ I w v e.val
  | [], _, _, _, _, _, h => by simp at h
  | _ :: _, [], _, _, _, h, _ => by simp [Re] at h
  | (_, _) :: es, e :: ents, 0, _, _, h, hi => by
    simp only [Re] at h
    simp at hi
    obtain ⟨rfl, rfl⟩ := hi
    exact ⟨e, rfl, h.1, h.2.1⟩
  | (_, _) :: es, _ :: ents, i + 1, _, _, h, hi => by
    simp only [Re] at h
    obtain ⟨e, h1, h2, h3⟩ := Re_get (es := es) (ents := ents) (i := i) h.2.2 (by simpa using hi)
    exact ⟨e, by simpa using h1, h2, h3⟩
theorem Re_set {N : Nat} : ∀ {es : List (V × V)} {ents : List MapEntry} (i : Nat) {k v : V} {e : MapEntry}, Re N ρ I w es ents → RV N ρ I w k e.key → RV N ρ I w v e.val → Re N ρ I w (es.set i (k, v)) (ents.set i e)
  | [], [], _, _, _, _, _, _, _ => by simp [Re]
  | [], _ :: _, _, _, _, _, h, _, _ => by simp [Re] at h
  | _ :: _, [], _, _, _, _, h, _, _ => by simp [Re] at h
  | (_, _) :: es, _ :: ents, 0, _, _, _, h, h1, h2 => by
    simp only [Re] at h
    simp only [List.set_cons_zero, Re]
    exact ⟨h1, h2, h.2.2⟩
  | (_, _) :: es, _ :: ents, i + 1, _, _, _, h, h1, h2 => by
    simp only [Re] at h
    simp only [List.set_cons_succ, Re]
    exact ⟨h.1, h.2.1, Re_set i h.2.2 h1 h2⟩
theorem Re_snoc {N : Nat} : ∀ {es : List (V × V)} {ents : List MapEntry} {k v : V} {e : MapEntry}, Re N ρ I w es ents → RV N ρ I w k e.key → RV N ρ I w v e.val → Re N ρ I w (es ++ [(k, v)]) (ents ++ [e])
  | [], [], _, _, _, _, h1, h2 => ⟨h1, h2, trivial⟩
  | [], _ :: _, _, _, _, h, _, _ => by simp [Re] at h
  | _ :: _, [], _, _, _, h, _, _ => by simp [Re] at h
  | (_, _) :: es, _ :: ents, _, _, _, h, h1, h2 => by
    simp only [Re] at h
    exact ⟨h.1, h.2.1, Re_snoc h.2.2 h1 h2⟩
theorem Re_erase {N : Nat} : ∀ {es : List (V × V)} {ents : List MapEntry} (i : Nat), Re N ρ I w es ents → Re N ρ I w (es.eraseIdx i) (ents.eraseIdx i)
  | [], [], _, _ => by simp [Re]
  | [], _ :: _, _, h => by simp [Re] at h
  | _ :: _, [], _, h => by simp [Re] at h
  | (_, _) :: es, _ :: ents, 0, h => by simp only [Re] at h; exact h.2.2
  | (_, _) :: es, _ :: ents, i + 1, h => by
    simp only [Re] at h
    exact ⟨h.1, h.2.1, Re_erase i h.2.2⟩
theorem Re_len {N : Nat} : ∀ {es : List (V × V)} {ents : List MapEntry}, Re N ρ I w es ents → es.length = ents.length
  | [], [], _ => rfl
  | [], _ :: _, h => by simp [Re] at h
  | _ :: _, [], h => by simp [Re] at h
  | (_, _) :: es, _ :: ents, h => by
    simp only [Re] at h
    simp [Re_len h.2.2]
theorem map_eraseIdx {α β : Type} (f : α → β) : ∀ (l : List α) (i : Nat), (l.eraseIdx i).map f = (l.map f).eraseIdx i
  | [], _ => rfl
  | _ :: _, 0 => rfl
  | a :: l, i + 1 => by simp [map_eraseIdx f l i]
/-- A map's block is written. -/
theorem Rep.putMap (hr : Rep ρ I m w) {n : Nat} {es es' : List (V × V)} {bs bs' : List Nat} {ents ents' : Array MapEntry} {clk clk' : Nat} (hm : m[n]? = some (.map es bs clk)) (hh : w.heap[(ρ n).1]? = some (.map ents clk))
    (he : ∀ w', Keeps m.length ρ I w m.length ρ I w' → Re m.length ρ I w' es' ents'.toList) (hb : ents'.toList.map (·.born) = bs') :
    Rep ρ I (m.set n (.map es' bs' clk')) { w with heap := w.heap.setIfInBounds (ρ n).1 (.map ents' clk') } ∧ Step ρ I m w ρ I (m.set n (.map es' bs' clk')) { w with heap := w.heap.setIfInBounds (ρ n).1 (.map ents' clk') } := by
  have hlt : (ρ n).1 < w.heap.size := (Array.getElem?_eq_some_iff.1 hh).1
  obtain ⟨h2, _, _, _, _⟩ := hr.blk n _ hm
  refine hr.write (live_of hm rfl) (.map es' bs' clk') rfl rfl rfl (by simp) (fun k hk => by simp [Ne.symm hk]) (fun c ty h => by rw [hh] at h; cases h) (fun hk => ⟨h2, ents', by simp [hlt], he _ hk, hb⟩)
theorem putV_sound (hr : Rep ρ I m w) {t : TypeId} {x key v : V} {a b c : Value} {m' : Mem} (hx : RV m.length ρ I w x a) (hk : RV m.length ρ I w key b) (hv : RV m.length ρ I w v c) (h : putV P t m x key v = some m') :
    CameU P ρ I m w (Instr.mapUpdate t a b c) m' := by
  unfold putV at h
  split at h
  · rename_i k e hu
    cases hkv : keyV P k key with
    | false => rw [hkv] at h; cases h
    | true =>
      rw [hkv] at h
      simp only [cond_true] at h
      split at h
      · rename_i n
        split at h
        · rename_i es bs clk hm
          simp only [RV] at hx
          obtain ⟨h1, rfl⟩ := hx
          obtain ⟨h2, ents, h3, h4, h5⟩ := hr.blk n _ hm
          obtain ⟨c1, c2⟩ := key_runs hk hkv false ents.toList
          split at h
          · rename_i hf
            cases h
            obtain ⟨q, q1, q2⟩ := find_sound hk h4 hf
            cases q with
            | some p => exact q2.elim
            | none =>
              obtain ⟨k1, k2⟩ := hr.putMap (es' := es ++ [(key, v)]) (bs' := bs ++ [clk]) (ents' := ents.push { key := b, val := c, born := clk }) (clk' := clk + 1) hm h3 (fun w' hk' => by
                rw [Array.toList_push]
                exact Re_snoc (Re.keep hk' _ _ h4) (RV.keep hk' _ _ hk) (RV.keep hk' _ _ hv)) (by rw [Array.toList_push, List.map_append, h5]; rfl)
              refine ⟨_, ρ, I, ?_, k1, k2⟩
              simp [Instr.mapUpdate, run_underlying hu, MapKept.run_getObj_map h3, c1, c2, q1, MapKept.run_setObj_map _ h3]
          · rename_i i u' hf
            split at h
            · rename_i k0 u0 hi
              cases hsk : sameK k0 key with
              | false => rw [hsk] at h; cases h
              | true =>
                rw [hsk] at h
                cases h
                obtain ⟨q, q1, q2⟩ := find_sound hk h4 hf
                cases q with
                | none => exact q2.elim
                | some p =>
                  obtain ⟨j', y⟩ := p
                  obtain ⟨rfl, _, q3, _⟩ := q2
                  obtain ⟨e0, g1, g2, g3⟩ := Re_get h4 hi
                  have hst := stays_run (P := P) hsk g2 hk
                  have g1' : ents[i]? = some e0 := by simpa using g1
                  obtain ⟨k1, k2⟩ := hr.putMap (es' := es.set i (key, v)) (bs' := bs) (ents' := ents.modify i fun e => { e with key := b, val := c }) (clk' := clk) hm h3 (fun w' hk' => by
                    have hm2 : (ents.modify i fun e => { e with key := b, val := c }).toList = ents.toList.set i { e0 with key := b, val := c } := by
                      rw [Array.toList_modify]
                      apply List.ext_getElem?
                      intro n'
                      rw [List.getElem?_modify, List.getElem?_set]
                      by_cases hn' : i = n'
                      · subst hn'
                        have hlt : i < ents.toList.length := by
                          have := (Array.getElem?_eq_some_iff.1 g1').1
                          simpa using this
                        simp [g1]
                        simpa using hlt
                      · simp [hn']
                    rw [hm2]
                    exact Re_set i (Re.keep hk' _ _ h4) (RV.keep hk' _ _ hk) (RV.keep hk' _ _ hv)) (by
                    rw [Array.toList_modify, ← h5]
                    apply List.ext_getElem?
                    intro n'
                    rw [List.getElem?_map, List.getElem?_map, List.getElem?_modify]
                    by_cases hn' : i = n' <;> simp [hn'] <;> cases ents[n']? <;> simp)
                  refine ⟨_, ρ, I, ?_, k1, k2⟩
                  simp [Instr.mapUpdate, run_underlying hu, MapKept.run_getObj_map h3, c1, c2, q1, MapKept.run_setObj_map _ h3, g1', hst]
            · cases h
          · cases h
        · cases h
      · cases h
  · cases h
/-- A key is taken out of a map. -/
def delV (P : Program) (t : TypeId) (m : Mem) (x key : V) : Option Mem := match P.underlying t with
  | some (.map k e) => bif keyV P k key then match x with
    | .mp n => match m[n]? with
      | some (.map es bs clk) => match findV P k key es 0 with
        | some (some (i, _)) => some (m.set n (.map (es.eraseIdx i) (bs.eraseIdx i) clk))
        | some none => some (m.set n (.map es bs clk))
        | none => none
      | _ => none
    | _ => none
    else none
  | _ => none
theorem delV_sound (hr : Rep ρ I m w) {t u : TypeId} {x key : V} {a b : Value} {m' : Mem} (hx : RV m.length ρ I w x a) (hk : RV m.length ρ I w key b) (h : delV P t m x key = some m') (ty : TypeId) :
    Came P ρ I m w (Builtin.delete_ #[t, u] ty #[a, b]) (.tup []) m' := by
  unfold delV at h
  split at h
  · rename_i k e hu
    cases hkv : keyV P k key with
    | false => rw [hkv] at h; cases h
    | true =>
      rw [hkv] at h
      simp only [cond_true] at h
      split at h
      · rename_i n
        split at h
        · rename_i es bs clk hm
          simp only [RV] at hx
          obtain ⟨h1, rfl⟩ := hx
          obtain ⟨h2, ents, h3, h4, h5⟩ := hr.blk n _ hm
          obtain ⟨c1, c2⟩ := key_runs hk hkv ents.isEmpty ents.toList
          split at h
          · rename_i i u' hf
            cases h
            obtain ⟨q, q1, q2⟩ := find_sound hk h4 hf
            cases q with
            | none => exact q2.elim
            | some p =>
              obtain ⟨j', y⟩ := p
              obtain ⟨rfl, _, q3, _⟩ := q2
              have hlen := Re_len h4
              have hlt : i < ents.size := by simp at hlen; omega
              have this : (ents.eraseIdxIfInBounds i).toList = ents.toList.eraseIdx i := by simp
              obtain ⟨k1, k2⟩ := hr.putMap (es' := es.eraseIdx i) (bs' := bs.eraseIdx i) (ents' := ents.eraseIdxIfInBounds i) (clk' := clk) hm h3 (fun w' hk' => by
                rw [this]
                exact Re_erase i (Re.keep hk' _ _ h4)) (by rw [← h5, this, map_eraseIdx])
              refine ⟨.tuple #[], _, ρ, I, ?_, k1, k2, by simp only [RV]; exact ⟨_, rfl, rfl, by simp [Rt]⟩⟩
              simp [Builtin.delete_, run_underlying hu, MapKept.run_getObj_map h3, c1, c2, q1, MapKept.run_setObj_map _ h3]
          · rename_i hf
            cases h
            obtain ⟨q, q1, q2⟩ := find_sound hk h4 hf
            cases q with
            | some p => exact q2.elim
            | none =>
              obtain ⟨k1, k2⟩ := hr.putMap (es' := es) (bs' := bs) (ents' := ents) (clk' := clk) hm h3 (fun w' hk' => Re.keep hk' _ _ h4) h5
              refine ⟨.tuple #[], _, ρ, I, ?_, k1, k2, by simp only [RV]; exact ⟨_, rfl, rfl, by simp [Rt]⟩⟩
              simp [Builtin.delete_, run_underlying hu, MapKept.run_getObj_map h3, c1, c2, q1, MapKept.run_setObj_map _ h3]
          · cases h
        · cases h
      · cases h
  · cases h
/-- The iterator of a range over a map. -/
def rangeV (P : Program) (t : TypeId) (m : Mem) (x : V) : Option (V × Mem) := match P.underlying t with
  | some (.map _ _) => match x with
    | .mp n => match m[n]? with
      | some (.map _ _ clk) => some (.ptr m.length 0, m ++ [.iter n clk [] clk])
      | _ => none
    | _ => none
  | _ => none
theorem rangeV_sound (hr : Rep ρ I m w) {t : TypeId} {x v : V} {a : Value} {m' : Mem} (hx : RV m.length ρ I w x a) (h : rangeV P t m x = some (v, m')) : Came P ρ I m w (Instr.range t a) v m' := by
  unfold rangeV at h
  split at h
  · rename_i k e hu
    split at h
    · rename_i n
      split at h
      · rename_i es bs clk hm
        cases h
        simp only [RV] at hx
        obtain ⟨h1, rfl⟩ := hx
        obtain ⟨h2, ents, h3, h4, h5⟩ := hr.blk n _ hm
        obtain ⟨k1, k2⟩ := hr.alloc (.mapIter (some (ρ n).1) clk #[] clk) (.iter n clk [] clk) (fun hk => ⟨rfl, Nat.lt_succ_of_lt h1, by
          have e1 := hk.rho n h1
          rw [e1]
          exact heap_alloc_new w _⟩)
        refine ⟨_, _, _, _, ?_, k1, k2, by simp only [RV]; exact ⟨by simp, by rw [Pl.put_self]⟩⟩
        simp [Instr.range, run_underlying hu, MapKept.run_getObj_map h3, newObj, Sem.run]
      · cases h
    · cases h
  · cases h
theorem Re_born {N : Nat} : ∀ {es : List (V × V)} {ents : List MapEntry} {bs : List Nat} {b : Nat} {p : (V × V) × Nat}, Re N ρ I w es ents → ents.map (·.born) = bs → (es.zip bs).find? (fun p => p.2 == b) = some p → ∃ e, ents.find? (fun e => e.born == b) = some e ∧ RV N ρ I w p.1.1 e.key ∧ RV N ρ I w p.1.2 e.val
  | [], _, _, _, _, _, _, h => by simp at h
  | _ :: _, [], _, _, _, h, _, _ => by simp [Re] at h
  | (k, v) :: es, e :: ents, bs, b, p, h, hb, hf => by
    simp only [Re] at h
    subst hb
    simp only [List.map_cons, List.zip_cons_cons, List.find?_cons] at hf ⊢
    cases hq : e.born == b with
    | true =>
      rw [hq] at hf
      cases hf
      exact ⟨e, rfl, h.1, h.2.1⟩
    | false =>
      rw [hq] at hf
      exact Re_born h.2.2 rfl hf
/-- The round's key and value. -/
def entryV (m : Mem) (x : V) : Option V := match x with
  | .ptr r 0 => match m[r]? with
    | some (.iter n _ seen last) => match m[n]? with
      | some (.map es bs clk) => bif Nat.beq clk last then match seen.getLast? with
          | some b => ((es.zip bs).find? fun p => p.2 == b).map fun p => .tup [p.1.1, p.1.2]
          | none => none
        else none
      | _ => none
    | _ => none
  | _ => none
theorem entryV_sound (hr : Rep ρ I m w) {x v : V} {a : Value} (hx : RV m.length ρ I w x a) (h : entryV m x = some v) : ∃ y, (Instr.entry a).run P w = .ok y w ∧ RV m.length ρ I w v y := by
  unfold entryV at h
  split at h
  · rename_i r
    split at h
    · rename_i n since seen last hi
      split at h
      · rename_i es bs clk hm
        cases hc : Nat.beq clk last with
        | false => rw [hc] at h; cases h
        | true =>
          rw [hc] at h
          have hc := Nat.eq_of_beq_eq_true hc
          subst hc
          simp only [cond_true] at h
          split at h
          · rename_i b hb
            rw [Option.map_eq_some_iff] at h
            obtain ⟨p, h1, rfl⟩ := h
            simp only [RV] at hx
            obtain ⟨_, rfl⟩ := hx
            obtain ⟨i1, i2, i3⟩ := hr.blk r _ hi
            obtain ⟨h2, ents, h3, h4, h5⟩ := hr.blk n _ hm
            obtain ⟨e, e1, e2, e3⟩ := Re_born h4 h5 h1
            have e1' : ents.find? (fun e => e.born == b) = some e := by rw [← Array.find?_toList]; exact e1
            refine ⟨.tuple #[e.key, e.val], ?_, ?_⟩
            · rw [i1]
              have hback : seen.toArray.back? = some b := by rw [← hb]; simp
              simp [Instr.entry, getObj, Sem.run, i3, h3, hb, e1', Result.andThen]
            · simp only [RV]
              exact ⟨_, rfl, rfl, by simp only [Rt]; exact ⟨⟨_, rfl, e2⟩, ⟨_, rfl, e3⟩, trivial⟩⟩
          · cases h
      · cases h
    · cases h
  · cases h
/-- A step through a map: all that may come. -/
def nextV (m : Mem) (x : V) : Option (List (V × Mem)) := match x with
  | .ptr r 0 => match m[r]? with
    | some (.iter n since seen last) => match m[n]? with
      | some (.map es bs clk) => bif bs.all (fun b => Nat.blt b since) && Nat.ble since last then
          match (es.zip bs).filter (fun p => !seen.contains p.2) with
          | [] => some [(.tup [.bool false], m.set r .dead)]
          | l => some (l.map fun p => (.tup [.bool true, p.1.1, p.1.2], m.set r (.iter n since (seen ++ [p.2]) clk)))
        else none
      | _ => none
    | _ => none
  | _ => none
theorem Re_left {N : Nat} {seen : List Nat} : ∀ {es : List (V × V)} {ents : List MapEntry} {bs : List Nat}, Re N ρ I w es ents → ents.map (·.born) = bs →
    (∀ e ∈ ents, e.born ∉ seen → ∃ p ∈ (es.zip bs).filter (fun p => !seen.contains p.2), RV N ρ I w p.1.1 e.key ∧ RV N ρ I w p.1.2 e.val ∧ p.2 = e.born) ∧
    ((es.zip bs).filter (fun p => !seen.contains p.2) ≠ [] → ∃ e ∈ ents, e.born ∉ seen)
  | [], [], _, _, _ => ⟨fun e he => by simp at he, fun h => by simp at h⟩
  | [], _ :: _, _, h, _ => by simp [Re] at h
  | _ :: _, [], _, h, _ => by simp [Re] at h
  | (k, v) :: es, e :: ents, bs, h, hb => by
    simp only [Re] at h
    subst hb
    obtain ⟨i1, i2⟩ := Re_left (seen := seen) h.2.2 rfl
    simp only [List.map_cons, List.zip_cons_cons, List.filter_cons]
    refine ⟨fun x hx hn => ?_, fun hne => ?_⟩
    · rcases List.mem_cons.1 hx with rfl | hx
      · have : seen.contains x.born = false := by simpa using hn
        rw [this]
        exact ⟨((k, v), x.born), by simp, h.1, h.2.1, rfl⟩
      · obtain ⟨p, p1, p2⟩ := i1 x hx hn
        refine ⟨p, ?_, p2⟩
        split
        · exact List.mem_cons_of_mem _ p1
        · exact p1
    · by_cases hc : e.born ∈ seen
      · have : seen.contains e.born = true := by simpa using hc
        rw [this] at hne
        obtain ⟨x, x1, x2⟩ := i2 (by simpa using hne)
        exact ⟨x, List.mem_cons_of_mem _ x1, x2⟩
      · exact ⟨e, by simp, hc⟩
theorem nextV_sound (hr : Rep ρ I m w) {x : V} {a : Value} {outs : List (V × Mem)} (hx : RV m.length ρ I w x a) (h : nextV m x = some outs) (ty : TypeId) : ∃ p ∈ outs, Came P ρ I m w (Instr.next a false ty) p.1 p.2 := by
  unfold nextV at h
  split at h
  · rename_i r
    split at h
    · rename_i n since seen last hi
      split at h
      · rename_i es bs clk hm
        cases hc : bs.all (fun b => Nat.blt b since) && Nat.ble since last with
        | false => rw [hc] at h; cases h
        | true =>
          rw [hc] at h
          rw [Bool.and_eq_true] at hc
          simp only [cond_true] at h
          simp only [RV] at hx
          obtain ⟨_, rfl⟩ := hx
          obtain ⟨i1, i2, i3⟩ := hr.blk r _ hi
          obtain ⟨h2, ents, h3, h4, h5⟩ := hr.blk n _ hm
          have hold : ∀ x ∈ ents.toList, x.born < since := fun x hx => by
            have := List.all_eq_true.1 hc.1 x.born (by rw [← h5]; exact List.mem_map_of_mem hx)
            simpa using this
          obtain ⟨j1, j2⟩ := Re_left (seen := seen) h4 h5
          have hplace : (⟨(ρ r).1, (ρ r).2 + 0, none⟩ : Addr) = ⟨(ρ r).1, 0, none⟩ := by rw [i1]
          rw [hplace]
          rcases run_next_at (P := P) w ty (ρ r).1 (ρ n).1 since last seen.toArray ents clk i3 h3 hold (Nat.le_of_ble_eq_true hc.2) with ⟨l1, l2⟩ | ⟨e, l1, w1, l2, l3⟩
          · have hnil : (es.zip bs).filter (fun p => !seen.contains p.2) = [] := by
              apply Classical.byContradiction
              intro hne
              obtain ⟨e, e1, e2⟩ := j2 hne
              have : e ∈ (leftOf ents seen.toArray).toList := by
                simp only [leftOf, Array.toList_filter, List.mem_filter]
                exact ⟨e1, by simpa using e2⟩
              have hz : (leftOf ents seen.toArray).toList = [] := by
                rw [← List.length_eq_zero_iff]; simpa using l1
              rw [hz] at this
              cases this
            rw [hnil] at h
            cases h
            obtain ⟨k1, k2⟩ := hr.kill r
            exact ⟨_, List.mem_singleton.2 rfl, _, w, ρ, I, l2, k1, k2, by simp only [RV]; exact ⟨_, rfl, rfl, by simp only [Rt]; exact ⟨⟨.bool false, rfl, by simp only [RV]⟩, trivial⟩⟩⟩
          · have hmem : e ∈ ents.toList ∧ e.born ∉ seen := by
              simp only [leftOf, Array.toList_filter, List.mem_filter] at l1
              exact ⟨l1.1, by simpa using l1.2⟩
            obtain ⟨p, p1, p2, p3, p4⟩ := j1 e hmem.1 hmem.2
            have hw1 : w1.heap = w.heap ∧ w1.os = w.os ∧ w1.tape = w.tape ∧ w1.output = w.output := by
              rcases l2 with rfl | rfl <;> exact ⟨rfl, rfl, rfl, rfl⟩
            have hlt : (ρ r).1 < w.heap.size := (Array.getElem?_eq_some_iff.1 i3).1
            obtain ⟨k1, k2⟩ := hr.write (w' := ChangeMaps.setBlock w1 (ρ r).1 (.mapIter (some (ρ n).1) since (seen.toArray.push e.born) clk)) (live_of hi rfl) (.iter n since (seen ++ [p.2]) clk) hw1.2.1 hw1.2.2.1 hw1.2.2.2
              (by simp [ChangeMaps.setBlock, hw1.1]) (fun k hk => by simp [ChangeMaps.setBlock, hw1.1, Ne.symm hk]) (fun c ty h => by rw [i3] at h; cases h)
              (fun hk => ⟨i1, i2, by simp [ChangeMaps.setBlock, hw1.1, hlt, p4]⟩)
            have hout : (p.1, p.2) = p := rfl
            cases hf : (es.zip bs).filter (fun p => !seen.contains p.2) with
            | nil => rw [hf] at p1; cases p1
            | cons q l =>
              rw [hf] at h p1
              cases h
              refine ⟨_, List.mem_map_of_mem p1, _, _, ρ, I, l3, k1, k2, ?_⟩
              have hk := k2.keeps
              simp only [RV]
              exact ⟨_, rfl, rfl, by simp only [Rt]; exact ⟨⟨.bool true, rfl, by simp only [RV]⟩, ⟨_, rfl, RV.keep hk _ _ p2⟩, ⟨_, rfl, RV.keep hk _ _ p3⟩, trivial⟩⟩
      · cases h
    · cases h
  · cases h
end
end Go.Proofs.Ytjjenpdjmcmgbaa.Ab
namespace Go.Proofs.Ytjjenpdjmcmgbaa.Ab
open Go
set_option linter.unusedSimpArgs false
set_option linter.unusedVariables false
section
variable {P : Program} {ρ : Pl} {I : Nat → Prop} {w : World} {m : Mem}
theorem ones_zero {N : Nat} {l : List V} {z : Array Value} (h : Rc N ρ I w l z 0) (hl : l.length = z.size) (hz : 0 < z.size) (n : Nat) : ∀ v ∈ (Builtin.zeroCells z n).toList, v.oneCell' = true := by
  intro v hv
  simp only [Builtin.zeroCells, Array.toList_map, List.mem_map] at hv
  obtain ⟨i, _, rfl⟩ := hv
  have hlt := Nat.mod_lt i hz
  obtain ⟨x, h1, h2, _⟩ := h.get (i % z.size) l[i % z.size] (List.getElem?_eq_getElem (by omega))
  rw [Nat.zero_add] at h1
  rw [getElem!_def, h1]
  exact h2
def clearV (P : Program) (t : TypeId) (m : Mem) (x : V) : Option Mem := match P.underlying t with
  | some (.slice e) => match zeroE P e with
    | some (_, sz, _) => match x with
      | .nils => some m
      | .sl s n off len => match m[n]? with
        | some (.row ty s2 es) => bif Nat.beq s sz && (Nat.beq s2 sz && Nat.ble es.length (off + len)) then some (m.set n (.row ty s2 (es.take off))) else none
        | _ => none
      | _ => none
    | none => none
  | _ => none
theorem clearV_sound (hr : Rep ρ I m w) {t : TypeId} {x : V} {a : Value} {m' : Mem} (hx : RV m.length ρ I w x a) (h : clearV P t m x = some m') (ty : TypeId) :
    Came P ρ I m w (Builtin.clear_ #[t] ty #[a]) (.tup []) m' := by
  have htup : ∀ (N : Nat) (ρ : Pl) (I : Nat → Prop) (w : World), RV N ρ I w (.tup []) (.tuple #[]) := fun _ _ _ _ => by simp only [RV]; exact ⟨_, rfl, rfl, by simp [Rt]⟩
  unfold clearV at h
  split at h
  · rename_i e hu
    split at h
    · rename_i zl sz by_ hz
      obtain ⟨i, zv, z1, z2, z3, z4, z5, z6, z7, z8⟩ := zeroE_sound hz m.length ρ I w
      split at h
      · cases h
        simp only [RV] at hx
        subst hx
        exact ⟨.tuple #[], w, ρ, I, by simp [Builtin.clear_, run_underlying hu], hr, Step.refl _ _ _ _, htup _ _ _ _⟩
      · rename_i s n off len
        split at h
        · rename_i ty2 s2 es hm
          cases hc : Nat.beq s sz && (Nat.beq s2 sz && Nat.ble es.length (off + len)) with
          | false => rw [hc] at h; cases h
          | true =>
            rw [hc] at h
            simp only [cond_true, Option.some.injEq] at h
            subst h
            simp only [Bool.and_eq_true, Nat.beq_eq, Nat.ble_eq] at hc
            obtain ⟨rfl, rfl, hc⟩ := hc
            simp only [RV] at hx
            obtain ⟨q1, o, cap, rfl, q2, q3, c, ty', q4, q5⟩ := hx
            obtain ⟨c0, g1, g2, g3⟩ := hr.blk _ _ hm
            rw [g1] at q4
            cases q4
            have hlv := live_of hm rfl
            have hmul : ∀ a b : Nat, a ≤ b → a * s2 ≤ b * s2 := fun a b hab => Nat.mul_le_mul_right _ hab
            rcases Nat.eq_zero_or_pos len with h0 | h0
            · subst h0
              obtain ⟨k1, k2⟩ := hr.write (w' := w) hlv (.row ty2 s2 (es.take off)) rfl rfl rfl rfl (fun _ _ => rfl) (fun d ty3 hd => ⟨d, hd, rfl⟩) (fun hk => by
                rw [List.take_of_length_le (by omega)]
                exact ⟨c, g1, g2, g3⟩)
              exact ⟨.tuple #[], w, ρ, I, by simp [Builtin.clear_, run_underlying hu], k1, k2, htup _ _ _ _⟩
            · have ho : o = (ρ n).2 + off * s2 := by rcases q3 with q3 | q3 <;> first | omega | exact q3
              have hcs : o + cap * s2 ≤ c.size := by rcases q5 with q5 | q5 <;> first | omega | exact q5
              have hlc := hmul _ _ q2.1
              have hvl : (Builtin.zeroCells zv.cells len).toList.length = len * s2 := by rw [Array.length_toList, size_zeroCells, z8]
              have hst := run_storeCells_splice (P := P) g1 (Builtin.zeroCells zv.cells len).toList (o := o) (by rw [hvl]; omega) (ones_zero z6 (by rw [z7, z8]) (by omega) len)
              have hs2 : (splice c.toList o (Builtin.zeroCells zv.cells len).toList).toArray.size = c.size := by
                rw [List.size_toArray, splice_length (by rw [hvl, Array.length_toList]; omega), Array.length_toList]
              obtain ⟨f1, f2, f3, f4⟩ := setRow_facts g1 hs2
              obtain ⟨k1, k2⟩ := hr.write (w' := w.setRow (ρ n).1 (splice c.toList o (Builtin.zeroCells zv.cells len).toList).toArray) hlv (.row ty2 s2 (es.take off)) rfl rfl rfl f1 f2 f4 (fun hk => by
                have htl : (es.take off).length ≤ es.length := by simp; omega
                have h1 := hmul _ _ htl
                refine ⟨_, f3, by rw [hs2]; omega, Rcc.mk fun j u hu => ?_⟩
                rw [List.getElem?_take] at hu
                split at hu
                · rename_i hj
                  obtain ⟨u1, u2⟩ := (Rcc.keep hk _ _ _ _ g3).get j u hu
                  have := hmul (j + 1) off hj
                  rw [Nat.add_mul] at this
                  exact ⟨u1, Rc.splice_out u2 (by rw [hvl]; omega) (.inl (by omega))⟩
                · cases hu)
              refine ⟨.tuple #[], _, ρ, I, ?_, k1, k2, htup _ _ _ _⟩
              have hl0 : len ≠ 0 := by omega
              cases len with
              | zero => exact absurd rfl hl0
              | succ k => simp [Builtin.clear_, run_underlying hu, zeroValue, typeInfo, z1, z2, hst]
        · cases h
      · cases h
    · cases h
  · cases h
end
end Go.Proofs.Ytjjenpdjmcmgbaa.Ab
namespace Go.Proofs.Ytjjenpdjmcmgbaa.Ab
open Go
set_option linter.unusedSimpArgs false
set_option linter.unusedVariables false
section
variable {P : Program} {ρ : Pl} {I : Nat → Prop} {w : World} {m : Mem}
/-- A map's entry, laid where there was none: its value and its stamp. -/
def mentryV (P : Program) (t : TypeId) (m : Mem) (x key : V) : Option (V × Mem) := match P.underlying t with
  | some (.map k e) => bif keyV P k key then match x with
    | .mp n => match m[n]? with
      | some (.map es bs clk) => match findV P k key es 0 with
        | some none => (zeroV P e).map fun z => (.tup [z, .int .i64 clk], m.set n (.map (es ++ [(key, z)]) (bs ++ [clk]) (clk + 1)))
        | some (some (i, v)) => match es[i]?, bs[i]? with
          | some (k0, u), some b => bif sameK k0 key then some (.tup [v, .int .i64 b], m.set n (.map (es.set i (key, u)) bs clk)) else none
          | _, _ => none
        | none => none
      | _ => none
    | _ => none
    else none
  | _ => none
theorem tup2_RV {N : Nat} {u v : V} {x y : Value} (hu : RV N ρ I w u x) (hv : RV N ρ I w v y) : RV N ρ I w (.tup [u, v]) (.tuple #[x, y]) := by
  simp only [RV]
  exact ⟨_, rfl, rfl, by simp only [Rt]; exact ⟨⟨x, rfl, hu⟩, ⟨y, rfl, hv⟩, trivial⟩⟩
theorem mentryV_sound (hr : Rep ρ I m w) {t : TypeId} {x key v : V} {a b : Value} {m' : Mem} (hx : RV m.length ρ I w x a) (hk : RV m.length ρ I w key b) (h : mentryV P t m x key = some (v, m')) :
    Came P ρ I m w (Instr.mapEntry t a b) v m' := by
  unfold mentryV at h
  split at h
  · rename_i k e hu
    cases hkv : keyV P k key with
    | false => rw [hkv] at h; cases h
    | true =>
      rw [hkv] at h
      simp only [cond_true] at h
      split at h
      · rename_i n
        split at h
        · rename_i es bs clk hm
          simp only [RV] at hx
          obtain ⟨h1, rfl⟩ := hx
          obtain ⟨h2, ents, h3, h4, h5⟩ := hr.blk n _ hm
          obtain ⟨c1, c2⟩ := key_runs hk hkv false ents.toList
          split at h
          · rename_i hf
            obtain ⟨q, q1, q2⟩ := find_sound hk h4 hf
            cases q with
            | some p => exact q2.elim
            | none =>
              unfold zeroV at h
              cases hi : P.info? e with
              | none => simp [hi] at h
              | some i =>
                cases hz : i.zero with
                | none => simp [hi, hz] at h
                | some z =>
                  simp only [hi, hz, Option.map_some, Option.some.injEq, Prod.mk.injEq] at h
                  obtain ⟨rfl, rfl⟩ := h
                  obtain ⟨k1, k2⟩ := hr.putMap (es' := es ++ [(key, constV z)]) (bs' := bs ++ [clk]) (ents' := ents.push { key := b, val := z, born := clk }) (clk' := clk + 1) hm h3 (fun w' hk' => by
                    rw [Array.toList_push]
                    exact Re_snoc (Re.keep hk' _ _ h4) (RV.keep hk' _ _ hk) (RV_constV _ _ _ _ z)) (by rw [Array.toList_push, List.map_append, h5]; rfl)
                  refine ⟨.tuple #[z, .int .i64 (clk : Int)], _, ρ, I, ?_, k1, k2, tup2_RV (RV_constV _ _ _ _ z) (by simp only [RV])⟩
                  simp [Instr.mapEntry, run_underlying hu, MapKept.run_getObj_map h3, c1, c2, q1, MapKept.run_setObj_map _ h3, zeroValue, typeInfo, hi, hz, goInt]
          · rename_i i u hf
            split at h
            · rename_i k0 u0 b0 hi hb0
              cases hsk : sameK k0 key with
              | false => rw [hsk] at h; cases h
              | true =>
                rw [hsk] at h
                simp only [cond_true, Option.some.injEq, Prod.mk.injEq] at h
                obtain ⟨rfl, rfl⟩ := h
                obtain ⟨q, q1, q2⟩ := find_sound hk h4 hf
                cases q with
                | none => exact q2.elim
                | some p =>
                  obtain ⟨j', y⟩ := p
                  obtain ⟨rfl, _, q3, q4⟩ := q2
                  obtain ⟨e0, g1, g2, g3⟩ := Re_get h4 hi
                  have hst := stays_run (P := P) hsk g2 hk
                  have g1' : ents[i]? = some e0 := by simpa using g1
                  have hborn : e0.born = b0 := by
                    rw [← h5, List.getElem?_map, g1] at hb0
                    simpa using hb0
                  obtain ⟨k1, k2⟩ := hr.putMap (es' := es.set i (key, u0)) (bs' := bs) (ents' := ents.modify i fun e => { e with key := b }) (clk' := clk) hm h3 (fun w' hk' => by
                    have hm2 : (ents.modify i fun e => { e with key := b }).toList = ents.toList.set i { e0 with key := b } := by
                      rw [Array.toList_modify]
                      apply List.ext_getElem?
                      intro n'
                      rw [List.getElem?_modify, List.getElem?_set]
                      by_cases hn' : i = n'
                      · subst hn'
                        have hlt : i < ents.toList.length := by
                          have := (Array.getElem?_eq_some_iff.1 g1').1
                          simpa using this
                        simp [g1]
                        simpa using hlt
                      · simp [hn']
                    rw [hm2]
                    exact Re_set i (Re.keep hk' _ _ h4) (RV.keep hk' _ _ hk) (RV.keep hk' _ _ g3)) (by
                    rw [Array.toList_modify, ← h5]
                    apply List.ext_getElem?
                    intro n'
                    rw [List.getElem?_map, List.getElem?_map, List.getElem?_modify]
                    by_cases hn' : i = n' <;> simp [hn'] <;> cases ents[n']? <;> simp)
                  refine ⟨.tuple #[y, .int .i64 (b0 : Int)], _, ρ, I, ?_, k1, k2, tup2_RV (RV.keep k2.keeps _ _ q4) (by simp only [RV])⟩
                  simp [Instr.mapEntry, run_underlying hu, MapKept.run_getObj_map h3, c1, c2, q1, MapKept.run_setObj_map _ h3, g1', hst, hborn, goInt]
            · cases h
          · cases h
        · cases h
      · cases h
  · cases h
/-- An entry is written, by its stamp. -/
def estoreV (m : Mem) (x stamp v : V) : Option Mem := match x, stamp with
  | .mp n, .int _ s => match m[n]? with
    | some (.map es bs clk) => match bs.findIdx? (fun b : Nat => (b : Int) == s) with
      | some i => match es[i]? with
        | some (k0, _) => some (m.set n (.map (es.set i (k0, v)) bs clk))
        | none => none
      | none => none
    | _ => none
  | _, _ => none
theorem findIdx_map {α β : Type} (f : α → β) (p : β → Bool) : ∀ (l : List α), (l.map f).findIdx? p = l.findIdx? fun a => p (f a)
  | [] => rfl
  | a :: l => by simp [List.findIdx?_cons, findIdx_map f p l]
theorem estoreV_sound (hr : Rep ρ I m w) {t : TypeId} {x s v : V} {a b c : Value} {m' : Mem} (hx : RV m.length ρ I w x a) (hs : RV m.length ρ I w s b) (hv : RV m.length ρ I w v c) (h : estoreV m x s v = some m') :
    CameU P ρ I m w (Instr.entryStore t a b c) m' := by
  unfold estoreV at h
  split at h
  · rename_i n k s
    split at h
    · rename_i es bs clk hm
      simp only [RV] at hx hs
      obtain ⟨h1, rfl⟩ := hx
      subst hs
      obtain ⟨h2, ents, h3, h4, h5⟩ := hr.blk n _ hm
      split at h
      · rename_i i hi
        split at h
        · rename_i k0 u0 he
          cases h
          obtain ⟨e0, g1, g2, g3⟩ := Re_get h4 he
          have g1' : ents[i]? = some e0 := by simpa using g1
          have hfi : ents.findIdx? (fun e => (e.born : Int) == s) = some i := by
            rw [← h5, findIdx_map] at hi
            have e := List.findIdx?_toArray (p := fun e : MapEntry => (e.born : Int) == s) (l := ents.toList)
            rw [Array.toArray_toList] at e
            rw [e]
            exact hi
          obtain ⟨k1, k2⟩ := hr.putMap (es' := es.set i (k0, v)) (bs' := bs) (ents' := ents.modify i fun e => { e with val := c }) (clk' := clk) hm h3 (fun w' hk' => by
            have hm2 : (ents.modify i fun e => { e with val := c }).toList = ents.toList.set i { e0 with val := c } := by
              rw [Array.toList_modify]
              apply List.ext_getElem?
              intro n'
              rw [List.getElem?_modify, List.getElem?_set]
              by_cases hn' : i = n'
              · subst hn'
                have hlt : i < ents.toList.length := by
                  have := (Array.getElem?_eq_some_iff.1 g1').1
                  simpa using this
                simp [g1]
                simpa using hlt
              · simp [hn']
            rw [hm2]
            exact Re_set i (Re.keep hk' _ _ h4) (RV.keep hk' _ _ g2) (RV.keep hk' _ _ hv)) (by
            rw [Array.toList_modify, ← h5]
            apply List.ext_getElem?
            intro n'
            rw [List.getElem?_map, List.getElem?_map, List.getElem?_modify]
            by_cases hn' : i = n' <;> simp [hn'] <;> cases ents[n']? <;> simp)
          refine ⟨_, ρ, I, ?_, k1, k2⟩
          simp [Instr.entryStore, MapKept.run_getObj_map h3, MapKept.run_setObj_map _ h3, asInt, asIntOf, hfi]
        · cases h
      · cases h
    · cases h
  · cases h
end
end Go.Proofs.Ytjjenpdjmcmgbaa.Ab
namespace Go.Proofs.Ytjjenpdjmcmgbaa.Ab
open Go
set_option linter.unusedSimpArgs false
set_option linter.unusedVariables false
inductive Res where
  | val (v : V) (m : Mem)
  | skip (m : Mem)
  | any (outs : List (V × Mem))
def pickV (t : Bool) : V → V → V
  | .bool a, .bool b => .bool (bif t then a else b)
  | a, b => bif t then a else b
def nonnil : V → Bool
  | .ptr _ _ => true
  | .ep _ _ _ _ => true
  | .ip _ => true
  | .fn _ _ _ => true
  | .int _ _ => true
  | .bool _ => true
  | .sl _ _ _ _ => true
  | .isl _ _ => true
  | .mp _ => true
  | _ => false
def execD (P : Program) (e : Operand → V) (m : Mem) : Op → Option Res
  | .move x => some (.val (e x) m)
  | .assign x => some (.val (e x) m)
  | .pick c a b => match e c with
    | .bool t => some (.val (pickV t (e a) (e b)) m)
    | _ => none
  | .alloc t => (allocV P t m).map fun p => .val p.1 p.2
  | .box t x => (newV t m (e x)).map fun p => .val p.1 p.2
  | .build t ps => (buildV P t (ps.toList.map fun p => (p.1, e p.2))).map (.val · m)
  | .buildSlice t n ps => (bsliceV P t n (ps.toList.map fun p => (p.1, e p.2)) m).map fun p => .val p.1 p.2
  | .load t a => (loadV P m t (e a)).map (.val · m)
  | .store t a x => (storeV P t m (e a) (e x)).map .skip
  | .nilCheck x => bif nonnil (e x) then some (.val (e x) m) else none
  | .binOp op t x y _ => (binV P op t (e x) (e y)).map (.val · m)
  | .unOp op _ x => (unV op (e x)).map (.val · m)
  | .convert s d x => (convM P m s d (e x)).map (.val · m)
  | .makeFunc (.func f) a b => some (.val (.fn f (a.toList.map e) (b.toList.map e)) m)
  | .makeInterface t x => bif P.concrete t then some (.val (.ifc t (e x)) m) else none
  | .slice t x lo hi none => (sliceV P t (e x) (lo.map e) (hi.map e)).map (.val · m)
  | .fieldAddr t x f => (faddrV P t f (e x)).map (.val · m)
  | .field t x f => (fieldV P t f (e x)).map (.val · m)
  | .indexAddr t x i => (iaddrV P t (e x) (e i)).map (.val · m)
  | .index t x i => (indexV P t (e x) (e i)).map (.val · m)
  | .extract x i => (extractV i (e x)).map (.val · m)
  | .call { callee := .builtin .append, args, argTypes } => match args.toList, argTypes.toList with
    | [s, x], [t, u] => (appendA P t u (e s) (e x) m).map fun p => .val p.1 p.2
    | _, _ => none
  | .call { callee := .builtin .len, args, argTypes } => match args.toList, argTypes.toList with
    | [x], [t] => (lenV P m t (e x)).map (.val · m)
    | _, _ => none
  | .call { callee := .builtin .cap, args, argTypes } => match args.toList, argTypes.toList with
    | [x], [t] => (capV P t (e x)).map (.val · m)
    | _, _ => none
  | .call { callee := .builtin .min, args, .. } => match args.toList with
    | [x, y] => (minmaxV false (e x) (e y)).map (.val · m)
    | _ => none
  | .call { callee := .builtin .max, args, .. } => match args.toList with
    | [x, y] => (minmaxV true (e x) (e y)).map (.val · m)
    | _ => none
  | .call { callee := .builtin .delete, args, argTypes } => match args.toList, argTypes.toList with
    | [x, k], [t, u] => (delV P t m (e x) (e k)).map fun m' => .val (.tup []) m'
    | _, _ => none
  | .call { callee := .builtin .clear, args, argTypes } => match args.toList, argTypes.toList with
    | [x], [t] => (clearV P t m (e x)).map fun m' => .val (.tup []) m'
    | _, _ => none
  | .typeAssert x _ t true => (assertV P t (e x)).map (.val · m)
  | .makeSlice t x y => (makeSliceV P t (e x) (e y) m).map fun p => .val p.1 p.2
  | .makeMap t none => some (.val (.mp m.length) (m ++ [.map [] [] 0]))
  | .lookup t x k ok => (lookupV P t m (e x) (e k) ok).map (.val · m)
  | .mapUpdate t x k v => (putV P t m (e x) (e k) (e v)).map .skip
  | .insert t x k v => (putV P t m (e x) (e k) (e v)).map .skip
  | .mapEntry t x k => (mentryV P t m (e x) (e k)).map fun p => .val p.1 p.2
  | .entryStore t x k v => (estoreV m (e x) (e k) (e v)).map .skip
  | .range t x => (rangeV P t m (e x)).map fun p => .val p.1 p.2
  | .entry x => (entryV m (e x)).map (.val · m)
  | .next x false => (nextV m (e x)).map .any
  | _ => none
section
variable {P : Program} {ρ : Pl} {I : Nat → Prop} {w : World} {m : Mem}
def Done (P : Program) (ρ : Pl) (I : Nat → Prop) (m : Mem) (w : World) (q : Result Next) : Res → Prop
  | .val v m' => ∃ x w' ρ' I', q = .ok (.value x) w' ∧ Rep ρ' I' m' w' ∧ Step ρ I m w ρ' I' m' w' ∧ RV m'.length ρ' I' w' v x
  | .skip m' => ∃ w' ρ' I', q = .ok .skip w' ∧ Rep ρ' I' m' w' ∧ Step ρ I m w ρ' I' m' w'
  | .any l => ∃ p ∈ l, ∃ x w' ρ' I', q = .ok (.value x) w' ∧ Rep ρ' I' p.2 w' ∧ Step ρ I m w ρ' I' p.2 w' ∧ RV p.2.length ρ' I' w' p.1 x
theorem Done.of_came {s : Sem Value} {v : V} {m' : Mem} (h : Came P ρ I m w s v m') : Done P ρ I m w ((do pure (.value (← s)) : Sem Next).run P w) (.val v m') := by
  obtain ⟨x, w', ρ', I', h1, h2⟩ := h
  exact ⟨x, w', ρ', I', by simp [h1], h2⟩
theorem Done.of_pure {s : Sem Value} {v : V} (hr : Rep ρ I m w) (h : ∃ x, s.run P w = .ok x w ∧ RV m.length ρ I w v x) : Done P ρ I m w ((do pure (.value (← s)) : Sem Next).run P w) (.val v m) :=
  Done.of_came (Came.pure hr h)
theorem Done.value {x : Value} {v : V} (hr : Rep ρ I m w) (h : RV m.length ρ I w v x) : Done P ρ I m w (.ok (.value x) w) (.val v m) :=
  ⟨x, w, ρ, I, rfl, hr, Step.refl _ _ _ _, h⟩
theorem Rt_map {N : Nat} {e : Operand → V} {ev : Operand → Value} (he : ∀ x, RV N ρ I w (e x) (ev x)) (xs : Array Operand) : (xs.toList.map e).length = (xs.map ev).size ∧ Rt N ρ I w (xs.toList.map e) (xs.map ev) 0 :=
  ⟨by simp, Rt.mk fun i v hv => by
    simp only [List.getElem?_map, Option.map_eq_some_iff] at hv
    obtain ⟨x, h1, rfl⟩ := hv
    exact ⟨ev x, by simp at h1; simp [h1], he x⟩⟩
theorem Rparts_map {N : Nat} {e : Operand → V} {ev : Operand → Value} (he : ∀ x, RV N ρ I w (e x) (ev x)) : ∀ (ps : List (Nat × Operand)), Rparts N ρ I w (ps.map fun p => (p.1, e p.2)) (ps.map fun p => (p.1, ev p.2))
  | [] => by simp [Rparts]
  | p :: r => by simp only [List.map_cons, Rparts]; exact ⟨trivial, he _, Rparts_map he r⟩
theorem Rbnd_map {N : Nat} {e : Operand → V} {ev : Operand → Value} (he : ∀ x, RV N ρ I w (e x) (ev x)) (x : Option Operand) : Rbnd N ρ I w (x.map e) (x.map ev) := by
  cases x with
  | none => simp [Rbnd]
  | some y => simp only [Option.map_some, Rbnd]; exact he y
theorem pickV_sound {N : Nat} {t : Bool} {u v : V} {x y : Value} (h1 : RV N ρ I w u x) (h2 : RV N ρ I w v y) : RV N ρ I w (pickV t u v) (bif t then x else y) := by
  unfold pickV
  split
  · simp only [RV] at h1 h2 ⊢
    subst h1; subst h2
    cases t <;> rfl
  · cases t
    · exact h2
    · exact h1
theorem execD_sound (hr : Rep ρ I m w) {a : Act} {e : Operand → V} (he : ∀ x, RV m.length ρ I w (e x) (a.eval x)) {o : Oper} {r : Res} (h : execD P e m o.op = some r) :
    Done P ρ I m w ((execOp a.eval o).run P w) r := by
  obtain ⟨dst, op, ty, pos, af, gd⟩ := o
  simp only at h
  have mapv : ∀ {o : Option V}, o.map (Res.val · m) = some r → ∃ v, o = some v ∧ r = .val v m := by
    intro o h
    rw [Option.map_eq_some_iff] at h
    obtain ⟨v, h1, h2⟩ := h
    exact ⟨v, h1, h2.symm⟩
  have mapp : ∀ {o : Option (V × Mem)}, o.map (fun p => Res.val p.1 p.2) = some r → ∃ v m', o = some (v, m') ∧ r = .val v m' := by
    intro o h
    rw [Option.map_eq_some_iff] at h
    obtain ⟨⟨v, m'⟩, h1, h2⟩ := h
    exact ⟨v, m', h1, h2.symm⟩
  unfold execD at h
  split at h
  · cases h; exact Done.value hr (he _)
  · cases h; exact Done.value hr (he _)
  · rename_i c x y
    split at h
    · rename_i t hc
      cases h
      have := he c
      rw [hc] at this
      simp only [RV] at this
      have hp := pickV_sound (t := t) (he x) (he y)
      simp only [execOp, this, asBool, Sem.run_bind, Sem.run_pure, Result.andThen_ok]
      cases t
      · exact Done.value hr hp
      · exact Done.value hr hp
    · cases h
  · obtain ⟨v, m', h1, rfl⟩ := mapp h
    exact Done.of_came (allocV_sound hr h1)
  · obtain ⟨v, m', h1, rfl⟩ := mapp h
    exact Done.of_came (newV_sound hr (he _) h1)
  · obtain ⟨v, h1, rfl⟩ := mapv h
    exact Done.of_pure hr (buildV_sound (by rw [Array.toList_map]; exact Rparts_map he _) h1)
  · obtain ⟨v, m', h1, rfl⟩ := mapp h
    exact Done.of_came (bsliceV_sound hr (by rw [Array.toList_map]; exact Rparts_map he _) h1)
  · obtain ⟨v, h1, rfl⟩ := mapv h
    exact Done.of_pure hr (loadV_sound hr (he _) h1)
  · rw [Option.map_eq_some_iff] at h
    obtain ⟨m', h1, rfl⟩ := h
    obtain ⟨w', ρ', I', k1, k2⟩ := storeV_sound hr (he _) (he _) h1
    exact ⟨w', ρ', I', by simp [execOp, k1], k2⟩
  · rename_i x
    cases hc : nonnil (e x) with
    | false => rw [hc] at h; cases h
    | true =>
      rw [hc] at h
      cases h
      have hx := he x
      have : (execOp a.eval { dst := dst, op := .nilCheck x, type := ty, pos := pos, after := af, guard := gd }).run P w = .ok (.value (a.eval x)) w := by
        unfold nonnil at hc
        split at hc
        all_goals first
          | (cases hc; done)
          | skip
        all_goals (rename_i hv; rw [hv] at hx; simp only [RV] at hx)
        · obtain ⟨_, hx⟩ := hx; simp [execOp, hx]
        · obtain ⟨_, hx⟩ := hx; simp [execOp, hx]
        · obtain ⟨_, _, _, _, _, hx, _⟩ := hx; simp [execOp, hx]
        · obtain ⟨_, _, hx, _⟩ := hx; simp [execOp, hx]
        · simp [execOp, hx]
        · simp [execOp, hx]
        · obtain ⟨_, _, _, hx, _⟩ := hx; simp [execOp, hx]
        · obtain ⟨_, _, hx, _⟩ := hx; simp [execOp, hx]
        · obtain ⟨_, hx⟩ := hx; simp [execOp, hx]
      rw [this]
      exact Done.value hr hx
  · obtain ⟨v, h1, rfl⟩ := mapv h
    exact Done.of_pure hr (binV_sound (he _) (he _) h1 _ _)
  · obtain ⟨v, h1, rfl⟩ := mapv h
    exact Done.of_pure hr (unV_sound (he _) h1)
  · obtain ⟨v, h1, rfl⟩ := mapv h
    exact Done.of_pure hr (convM_sound hr (he _) h1)
  · rename_i f xs ys
    cases h
    obtain ⟨k1, k2⟩ := Rt_map (ρ := ρ) (I := I) (w := w) he xs
    obtain ⟨k3, k4⟩ := Rt_map (ρ := ρ) (I := I) (w := w) he ys
    exact Done.of_pure hr ⟨_, rfl, by simp only [RV]; exact ⟨_, _, rfl, k1, k2, k3, k4⟩⟩
  · rename_i t x
    cases hc : P.concrete t with
    | false => rw [hc] at h; cases h
    | true =>
      rw [hc] at h
      cases h
      exact Done.of_pure hr ⟨_, run_makeInterface w t _ hc, by simp only [RV]; exact ⟨_, rfl, he x⟩⟩
  · obtain ⟨v, h1, rfl⟩ := mapv h
    exact Done.of_pure hr (sliceV_sound (he _) (Rbnd_map he _) (Rbnd_map he _) h1)
  · obtain ⟨v, h1, rfl⟩ := mapv h
    exact Done.of_pure hr (faddrV_sound (he _) h1)
  · obtain ⟨v, h1, rfl⟩ := mapv h
    exact Done.of_pure hr (fieldV_sound (he _) h1)
  · obtain ⟨v, h1, rfl⟩ := mapv h
    exact Done.of_pure hr (iaddrV_sound (he _) (he _) h1)
  · obtain ⟨v, h1, rfl⟩ := mapv h
    exact Done.of_pure hr (indexV_sound (he _) (he _) h1)
  · obtain ⟨v, h1, rfl⟩ := mapv h
    exact Done.of_pure hr (extractV_sound (he _) h1)
  · rename_i args ts
    split at h
    · rename_i s x t u hargs hts
      obtain ⟨v, m', h1, rfl⟩ := mapp h
      have ha : args = #[s, x] := Array.toList_inj.1 (by simpa using hargs)
      have ht : ts = #[t, u] := Array.toList_inj.1 (by simpa using hts)
      subst ha; subst ht
      have := Done.of_came (appendA_sound hr (he s) (he x) h1 ty)
      simpa [execOp, resolve, invoke, builtin] using this
    · cases h
  · rename_i args ts
    split at h
    · rename_i x t hargs hts
      obtain ⟨v, h1, rfl⟩ := mapv h
      have ha : args = #[x] := Array.toList_inj.1 (by simpa using hargs)
      have ht : ts = #[t] := Array.toList_inj.1 (by simpa using hts)
      subst ha; subst ht
      have := Done.of_pure hr (lenV_sound hr (he x) h1 #[t] (by rfl) ty #[a.eval x] (by rfl))
      simpa [execOp, resolve, invoke, builtin] using this
    · cases h
  · rename_i args ts
    split at h
    · rename_i x t hargs hts
      obtain ⟨v, h1, rfl⟩ := mapv h
      have ha : args = #[x] := Array.toList_inj.1 (by simpa using hargs)
      have ht : ts = #[t] := Array.toList_inj.1 (by simpa using hts)
      subst ha; subst ht
      have := Done.of_pure hr (capV_sound (he x) h1 #[t] (by rfl) ty #[a.eval x] (by rfl))
      simpa [execOp, resolve, invoke, builtin] using this
    · cases h
  · rename_i args ts
    split at h
    · rename_i x y hargs
      obtain ⟨v, h1, rfl⟩ := mapv h
      have ha : args = #[x, y] := Array.toList_inj.1 (by simpa using hargs)
      subst ha
      have := Done.of_pure hr (minV_sound (P := P) (he x) (he y) h1 ts ty)
      simpa [execOp, resolve, invoke, builtin] using this
    · cases h
  · rename_i args ts
    split at h
    · rename_i x y hargs
      obtain ⟨v, h1, rfl⟩ := mapv h
      have ha : args = #[x, y] := Array.toList_inj.1 (by simpa using hargs)
      subst ha
      have := Done.of_pure hr (maxV_sound (P := P) (he x) (he y) h1 ts ty)
      simpa [execOp, resolve, invoke, builtin] using this
    · cases h
  · rename_i args ts
    split at h
    · rename_i x k t u hargs hts
      rw [Option.map_eq_some_iff] at h
      obtain ⟨m', h1, rfl⟩ := h
      have ha : args = #[x, k] := Array.toList_inj.1 (by simpa using hargs)
      have ht : ts = #[t, u] := Array.toList_inj.1 (by simpa using hts)
      subst ha; subst ht
      have := Done.of_came (delV_sound (u := u) hr (he x) (he k) h1 ty)
      simpa [execOp, resolve, invoke, builtin] using this
    · cases h
  · rename_i args ts
    split at h
    · rename_i x t hargs hts
      rw [Option.map_eq_some_iff] at h
      obtain ⟨m', h1, rfl⟩ := h
      have ha : args = #[x] := Array.toList_inj.1 (by simpa using hargs)
      have ht : ts = #[t] := Array.toList_inj.1 (by simpa using hts)
      subst ha; subst ht
      have := Done.of_came (clearV_sound hr (he x) h1 ty)
      simpa [execOp, resolve, invoke, builtin] using this
    · cases h
  · obtain ⟨v, h1, rfl⟩ := mapv h
    exact Done.of_pure hr (assertV_sound (he _) h1)
  · obtain ⟨v, m', h1, rfl⟩ := mapp h
    exact Done.of_came (makeSliceV_sound hr (he _) (he _) h1)
  · cases h
    exact Done.of_came (newMap_sound hr _)
  · obtain ⟨v, h1, rfl⟩ := mapv h
    exact Done.of_pure hr (lookupV_sound hr (he _) (he _) h1)
  · rw [Option.map_eq_some_iff] at h
    obtain ⟨m', h1, rfl⟩ := h
    obtain ⟨w', ρ', I', k1, k2⟩ := putV_sound hr (he _) (he _) (he _) h1
    exact ⟨w', ρ', I', by simp [execOp, k1], k2⟩
  · rw [Option.map_eq_some_iff] at h
    obtain ⟨m', h1, rfl⟩ := h
    obtain ⟨w', ρ', I', k1, k2⟩ := putV_sound hr (he _) (he _) (he _) h1
    exact ⟨w', ρ', I', by simp [execOp, k1], k2⟩
  · obtain ⟨v, m', h1, rfl⟩ := mapp h
    exact Done.of_came (mentryV_sound hr (he _) (he _) h1)
  · rename_i t x k v
    rw [Option.map_eq_some_iff] at h
    obtain ⟨m', h1, rfl⟩ := h
    obtain ⟨w', ρ', I', k1, k2⟩ := estoreV_sound (t := t) hr (he x) (he k) (he v) h1
    exact ⟨w', ρ', I', by simp only [execOp, Sem.run_bind]; rw [k1]; rfl, k2⟩
  · obtain ⟨v, m', h1, rfl⟩ := mapp h
    exact Done.of_came (rangeV_sound hr (he _) h1)
  · obtain ⟨v, h1, rfl⟩ := mapv h
    exact Done.of_pure hr (entryV_sound hr (he _) h1)
  · rw [Option.map_eq_some_iff] at h
    obtain ⟨outs, h1, rfl⟩ := h
    obtain ⟨p, hp, k1⟩ := nextV_sound (P := P) hr (he _) h1 ty
    exact ⟨p, hp, Done.of_came k1⟩
  · cases h
end
end Go.Proofs.Ytjjenpdjmcmgbaa.Ab
namespace Go.Proofs.Ytjjenpdjmcmgbaa.Ab
open Go
set_option linter.unusedSimpArgs false
set_option linter.unusedVariables false
inductive CR where
  | ret (v : V) (m : Mem)
  | pan (v : V) (m : Mem)
def CR.val : CR → V
  | .ret v _ => v
  | .pan v _ => v
def CR.mem : CR → Mem
  | .ret _ m => m
  | .pan _ m => m
def endOf : CR → Value → Ending
  | .ret _ _, x => .returned x
  | .pan _ _, x => .panicked [{ v := x, recovered := false }]
/-- What a call has come to. -/
def Post (ρ : Pl) (I : Nat → Prop) (m : Mem) (w : World) (r : CR) (e : Ending) (w' : World) : Prop :=
  ∃ x ρ' I', e = endOf r x ∧ Rep ρ' I' r.mem w' ∧ Step ρ I m w ρ' I' r.mem w' ∧ RV r.mem.length ρ' I' w' r.val x
/-- A contract of a function: on these values in this memory the machine's call ends as one of Q says. -/
def Snd (P : Program) (f : FuncId) (vs : List V) (m : Mem) (Q : CR → Prop) : Prop :=
  ∀ (ρ : Pl) (I : Nat → Prop) (w : World) (xs : Array Value), Rep ρ I m w → vs.length = xs.size → Rt m.length ρ I w vs xs 0 →
    Calls P f xs w fun e w' => ∃ r, Q r ∧ Post ρ I m w r e w'
theorem Snd.mono {P : Program} {f : FuncId} {vs : List V} {m : Mem} {Q Q' : CR → Prop} (h : Snd P f vs m Q) (hq : ∀ r, Q r → Q' r) : Snd P f vs m Q' :=
  fun ρ I w xs h1 h2 h3 => (h ρ I w xs h1 h2 h3).mono fun _ _ ⟨r, h4, h5⟩ => ⟨r, hq r h4, h5⟩
mutual
def nms : V → List Nat
  | .ptr n _ => [n]
  | .ep _ n _ _ => [n]
  | .sl _ n _ _ => [n]
  | .mp n => [n]
  | .fn _ a b => nmss a ++ nmss b
  | .ifc _ v => nms v
  | .agg l => nmss l
  | .tup l => nmss l
  | _ => []
def nmss : List V → List Nat
  | [] => []
  | v :: r => nms v ++ nmss r
end
def nmsss : List (List V) → List Nat
  | [] => []
  | e :: r => nmss e ++ nmsss r
def nmsp : List (V × V) → List Nat
  | [] => []
  | (k, v) :: r => nms k ++ (nms v ++ nmsp r)
def nmsB : B → List Nat
  | .var _ l => nmss l
  | .row _ _ es => nmsss es
  | .map es _ _ => nmsp es
  | .iter k _ _ _ => [k]
  | .dead => []
/-- The names that are reached, in order. -/
def reach (m : Mem) : Nat → List Nat → List Nat → List Nat
  | 0, _, seen => seen
  | _ + 1, [], seen => seen
  | k + 1, n :: todo, seen => bif seen.contains n then reach m k todo seen else reach m k (todo ++ nmsB (m.getD n .dead)) (seen ++ [n])
def idx : List Nat → Nat → Nat
  | [], _ => 0
  | k :: r, n => bif Nat.beq k n then 0 else idx r n + 1
def nodupB : List Nat → Bool
  | [] => true
  | n :: r => !r.contains n && nodupB r
theorem nodupB_iff : ∀ l, nodupB l = true → l.Nodup
  | [], _ => List.nodup_nil
  | n :: r, h => by
    simp only [nodupB, Bool.and_eq_true, Bool.not_eq_true', List.contains_eq_mem, decide_eq_false_iff_not] at h
    exact List.nodup_cons.2 ⟨h.1, nodupB_iff r h.2⟩
theorem idx_lt : ∀ {l : List Nat} {n : Nat}, n ∈ l → idx l n < l.length
  | k :: r, n, h => by
    simp only [idx]
    cases hk : Nat.beq k n with
    | true => simp
    | false =>
      have : k ≠ n := fun e => by rw [e] at hk; simp at hk
      have := idx_lt (l := r) (by simpa [this.symm] using h)
      simp only [cond_false, List.length_cons]; omega
theorem idx_get : ∀ {l : List Nat} {n : Nat}, n ∈ l → l[idx l n]? = some n
  | k :: r, n, h => by
    simp only [idx]
    cases hk : Nat.beq k n with
    | true => simp; exact Nat.eq_of_beq_eq_true hk
    | false =>
      have : k ≠ n := fun e => by rw [e] at hk; simp at hk
      simp only [cond_false, List.getElem?_cons_succ]
      exact idx_get (l := r) (by simpa [this.symm] using h)
/-- The part of memory that has these names. -/
def view (L : List Nat) (m : Mem) : Mem := L.map fun n => renB (idx L) (m.getD n .dead)
/-- Is this part closed? -/
def closedB (L : List Nat) (m : Mem) : Bool :=
  nodupB L && (L.all (fun n => Nat.blt n m.length) && L.all fun n => inDB (fun k => L.contains k) (m.getD n .dead))
section
variable {P : Program} {ρ : Pl} {I : Nat → Prop} {w : World} {m : Mem}
theorem view_get {L : List Nat} {i : Nat} {b : B} (h : (view L m)[i]? = some b) : ∃ n, L[i]? = some n ∧ b = renB (idx L) (m.getD n .dead) := by
  unfold view at h
  simp only [List.getElem?_map, Option.map_eq_some_iff] at h
  obtain ⟨n, h1, h2⟩ := h
  exact ⟨n, h1, h2.symm⟩
theorem getD_of {L : List Nat} {i n : Nat} (h : L[i]? = some n) : L.getD i 0 = n := by simp [List.getD, h]
theorem closed_parts {L : List Nat} (h : closedB L m = true) : L.Nodup ∧ (∀ n ∈ L, n < m.length) ∧ ∀ n ∈ L, inDB (fun k => L.contains k) (m.getD n .dead) = true := by
  unfold closedB at h
  simp only [Bool.and_eq_true, List.all_eq_true, Nat.blt_eq] at h
  exact ⟨nodupB_iff L h.1, h.2.1, h.2.2⟩
/-- How names go over into a view. -/
theorem view_names {L : List Nat} : ∀ n, (fun k => L.contains k) n = true → n < m.length → idx L n < (view L m).length ∧ (fun i => ρ (L.getD i 0)) (idx L n) = ρ n := by
  intro n hn _
  have hn' : n ∈ L := by simpa using hn
  exact ⟨by simp [view]; exact idx_lt hn', by simp only [getD_of (idx_get hn')]⟩
theorem live_view {L : List Nat} {i : Nat} (h : live (view L m) i) : ∃ n, L[i]? = some n ∧ live m n := by
  obtain ⟨b, hb, hl⟩ := h
  obtain ⟨n, h1, rfl⟩ := view_get hb
  rw [renB_live] at hl
  refine ⟨n, h1, m.getD n .dead, ?_, hl⟩
  cases hm : m[n]? with
  | none => simp [List.getD, hm, B.live] at hl
  | some b => simp [List.getD, hm]
theorem live_view' {L : List Nat} {i n : Nat} (h : L[i]? = some n) (hl : live m n) : live (view L m) i := by
  obtain ⟨b, hb, hl⟩ := hl
  refine ⟨renB (idx L) b, ?_, by rw [renB_live]; exact hl⟩
  simp [view, h, List.getD, hb]
theorem Rep.view (hr : Rep ρ I m w) {L : List Nat} (hc : closedB L m = true) : Rep (fun i => ρ (L.getD i 0)) I (view L m) w := by
  obtain ⟨h1, h2, h3⟩ := closed_parts hc
  refine ⟨?_, ?_, ?_, hr.ilt⟩
  · intro i b hb
    obtain ⟨n, k1, rfl⟩ := view_get hb
    have hn := List.mem_of_getElem? k1
    have hlt := h2 n hn
    simp only [getD_of k1]
    refine holds_sub (D := fun k => L.contains k) (N := m.length) (fun k hk hkm => view_names (ρ := ρ) (m := m) k hk hkm) (h3 n hn) ?_
    have : m[n]? = some (m.getD n .dead) := by simp [List.getD, List.getElem?_eq_getElem hlt]
    exact hr.blk n _ this
  · intro i hi
    obtain ⟨n, k1, k2⟩ := live_view hi
    simp only [getD_of k1]
    exact hr.notI n k2
  · intro i j hi hj e
    obtain ⟨n, k1, k2⟩ := live_view hi
    obtain ⟨n', k3, k4⟩ := live_view hj
    simp only [getD_of k1, getD_of k3] at e
    have := hr.inj n n' k2 k4 e
    subst this
    have hil := (List.getElem?_eq_some_iff.1 k1).1
    have hjl := (List.getElem?_eq_some_iff.1 k3).1
    exact (List.getElem?_inj hil h1).1 (k1.trans k3.symm)
theorem own_view {L : List Nat} {b : Nat} : Own (fun i => ρ (L.getD i 0)) (view L m) b ↔ ∃ n ∈ L, live m n ∧ (ρ n).1 = b := by
  constructor
  · rintro ⟨i, h1, h2⟩
    obtain ⟨n, k1, k2⟩ := live_view h1
    simp only [getD_of k1] at h2
    exact ⟨n, List.mem_of_getElem? k1, k2, h2⟩
  · rintro ⟨n, h1, h2, h3⟩
    obtain ⟨i, hi⟩ := List.getElem?_of_mem h1
    exact ⟨i, live_view' hi h2, by simp only [getD_of hi]; exact h3⟩
/-- The blocks of a list of names are set. -/
def setAll (m : Mem) : List Nat → List B → Mem
  | [], _ => m
  | _ :: _, [] => m
  | n :: L, b :: bs => setAll (m.set n b) L bs
theorem setAll_length : ∀ (L : List Nat) (bs : List B) (m : Mem), (setAll m L bs).length = m.length
  | [], _, _ => by simp only [setAll]
  | _ :: _, [], _ => by simp only [setAll]
  | n :: L, b :: bs, m => by simp only [setAll, setAll_length L bs, List.length_set]
theorem setAll_out : ∀ (L : List Nat) (bs : List B) (m : Mem) (k : Nat), k ∉ L → (setAll m L bs)[k]? = m[k]?
  | [], _, _, _, _ => by simp only [setAll]
  | _ :: _, [], _, _, _ => by simp only [setAll]
  | n :: L, b :: bs, m, k, h => by
    simp only [List.mem_cons, not_or] at h
    simp only [setAll]
    rw [setAll_out L bs _ k h.2, List.getElem?_set_ne (fun e => h.1 e.symm)]
theorem setAll_in : ∀ (L : List Nat) (bs : List B) (m : Mem) (i n : Nat) (b : B), L.Nodup → L[i]? = some n → bs[i]? = some b → n < m.length → (setAll m L bs)[n]? = some b
  | [], _, _, _, _, _, _, h, _, _ => by simp at h
  | _ :: _, [], _, _, _, _, _, _, h, _ => by simp at h
  | k :: L, c :: bs, m, 0, n, b, hn, h1, h2, h3 => by
    simp at h1 h2
    subst h1; subst h2
    simp only [setAll]
    rw [setAll_out L bs _ k (List.nodup_cons.1 hn).1, List.getElem?_set_self h3]
  | k :: L, c :: bs, m, i + 1, n, b, hn, h1, h2, h3 => by
    simp only [setAll]
    exact setAll_in L bs _ i n b (List.nodup_cons.1 hn).2 (by simpa using h1) (by simpa using h2) (by simpa using h3)
/-- How names come back: those of the view to their own ones, the rest behind all that were there. -/
def back (L : List Nat) (N : Nat) (i : Nat) : Nat := bif Nat.blt i L.length then L.getD i 0 else N + (i - L.length)
def merge (L : List Nat) (m m1 : Mem) : Mem :=
  setAll m L ((m1.take L.length).map (renB (back L m.length))) ++ (m1.drop L.length).map (renB (back L m.length))
theorem merge_length (L : List Nat) (m m1 : Mem) : (merge L m m1).length = m.length + (m1.length - L.length) := by
  simp [merge, setAll_length]
def okBack (L : List Nat) (v : V) (m1 : Mem) : Bool :=
  inD (fun _ => true) v && (m1.all (inDB fun _ => true) && Nat.ble L.length m1.length)
theorem back_lt {L : List Nat} {N i : Nat} (h : i < L.length) : back L N i = L.getD i 0 := by
  have : Nat.blt i L.length = true := by simpa using h
  simp [back, this]
theorem back_ge {L : List Nat} {N i : Nat} (h : ¬ i < L.length) : back L N i = N + (i - L.length) := by
  have : Nat.blt i L.length = false := by
    cases hb : Nat.blt i L.length with
    | false => rfl
    | true => exact absurd (by simpa using hb) h
  simp [back, this]
/-- Memory behind a call that has seen a part of it. -/
theorem Rep.merge (hr : Rep ρ I m w) {L : List Nat} (hc : closedB L m = true) {ρ1 : Pl} {I1 : Nat → Prop} {m1 : Mem} {w1 : World} (hr1 : Rep ρ1 I1 m1 w1)
    (hs : Step (fun i => ρ (L.getD i 0)) I (Ab.view L m) w ρ1 I1 m1 w1) (hall : m1.all (inDB fun _ => true) = true) :
    ∃ ρ' : Pl, Rep ρ' I1 (Ab.merge L m m1) w1 ∧ Step ρ I m w ρ' I1 (Ab.merge L m m1) w1 ∧
      ∀ v x, inD (fun _ => true) v = true → RV m1.length ρ1 I1 w1 v x → RV (Ab.merge L m m1).length ρ' I1 w1 (ren (back L m.length) v) x := by
  obtain ⟨c1, c2, c3⟩ := closed_parts hc
  have hLv : (Ab.view L m).length = L.length := by simp [Ab.view]
  have hlen1 : L.length ≤ m1.length := by have := hs.len; omega
  let ρ' : Pl := fun n => if n < m.length then ρ n else ρ1 (L.length + (n - m.length))
  have hρlt : ∀ n, n < m.length → ρ' n = ρ n := fun n h => if_pos h
  have hρ1 : ∀ i n, L[i]? = some n → ρ1 i = ρ n := fun i n h => by
    rw [hs.rho i (by rw [hLv]; exact (List.getElem?_eq_some_iff.1 h).1)]
    simp only [getD_of h]
  have hτ : ∀ k, (fun _ : Nat => true) k = true → k < m1.length → back L m.length k < (Ab.merge L m m1).length ∧ ρ' (back L m.length k) = ρ1 k := by
    intro k _ hk
    by_cases h : k < L.length
    · have hk' := List.getElem?_eq_getElem h
      rw [back_lt h, getD_of hk']
      have hm := c2 _ (List.getElem_mem h)
      exact ⟨by rw [merge_length]; omega, by rw [hρlt _ hm, hρ1 k _ hk']⟩
    · rw [back_ge h]
      refine ⟨by rw [merge_length]; omega, ?_⟩
      show (if m.length + (k - L.length) < m.length then _ else _) = _
      rw [if_neg (by omega)]
      congr 1; omega
  have hval : ∀ v x, inD (fun _ => true) v = true → RV m1.length ρ1 I1 w1 v x → RV (Ab.merge L m m1).length ρ' I1 w1 (ren (back L m.length) v) x := fun v x h1 h2 => RV_sub hτ v x h1 h2
  -- the blocks of the merged memory
  have hget : ∀ n b, (Ab.merge L m m1)[n]? = some b → (n < m.length ∧ n ∉ L ∧ m[n]? = some b) ∨
      (∃ (i : Nat) (c : B), L[i]? = some n ∧ m1[i]? = some c ∧ b = renB (back L m.length) c ∧ n < m.length) ∨ (∃ (i : Nat) (c : B), ¬ i < L.length ∧ n = m.length + (i - L.length) ∧ m1[i]? = some c ∧ b = renB (back L m.length) c) := by
    intro n b hb
    unfold Ab.merge at hb
    by_cases hn : n < m.length
    · rw [List.getElem?_append_left (by rw [setAll_length]; exact hn)] at hb
      by_cases hL : n ∈ L
      · obtain ⟨i, hi⟩ := List.getElem?_of_mem hL
        have hil := (List.getElem?_eq_some_iff.1 hi).1
        have hc' : m1[i]? = some m1[i] := List.getElem?_eq_getElem (by omega)
        rw [setAll_in L _ m i n (renB (back L m.length) m1[i]) c1 hi (by simp [hil, hc']) hn] at hb
        cases hb
        exact .inr (.inl ⟨i, _, hi, hc', rfl, hn⟩)
      · rw [setAll_out L _ m n hL] at hb
        exact .inl ⟨hn, hL, hb⟩
    · rw [List.getElem?_append_right (by rw [setAll_length]; omega), setAll_length] at hb
      simp only [List.getElem?_map, List.getElem?_drop, Option.map_eq_some_iff] at hb
      obtain ⟨c, h1, h2⟩ := hb
      exact .inr (.inr ⟨L.length + (n - m.length), c, by omega, by omega, h1, h2.symm⟩)
  have hlive : ∀ n, live (Ab.merge L m m1) n → (n < m.length ∧ n ∉ L ∧ live m n) ∨ (∃ i : Nat, L[i]? = some n ∧ live m1 i ∧ n < m.length ∧ live m n) ∨ (∃ i : Nat, ¬ i < L.length ∧ n = m.length + (i - L.length) ∧ live m1 i) := by
    rintro n ⟨b, hb, hl⟩
    rcases hget n b hb with ⟨h1, h2, h3⟩ | ⟨i, c, h1, h2, rfl, h3⟩ | ⟨i, c, h1, h2, h3, rfl⟩
    · exact .inl ⟨h1, h2, b, h3, hl⟩
    · rw [renB_live] at hl
      have hli : live m1 i := ⟨c, h2, hl⟩
      have := hs.dead i (by rw [hLv]; exact (List.getElem?_eq_some_iff.1 h1).1) hli
      obtain ⟨n', k1, k2⟩ := live_view this
      rw [h1] at k1; cases k1
      exact .inr (.inl ⟨i, h1, hli, h3, k2⟩)
    · rw [renB_live] at hl
      exact .inr (.inr ⟨i, h1, h2, c, h3, hl⟩)
  have hown : ∀ n, n ∉ L → live m n → ¬ Own (fun i => ρ (L.getD i 0)) (Ab.view L m) (ρ n).1 := by
    intro n h1 h2 h3
    obtain ⟨k, k1, k2, k3⟩ := own_view.1 h3
    exact h1 (hr.inj k n k2 h2 k3 ▸ k1)
  have hρnew : ∀ i, ¬ i < L.length → ρ' (m.length + (i - L.length)) = ρ1 i := by
    intro i hi
    show (if m.length + (i - L.length) < m.length then _ else _) = _
    rw [if_neg (by omega)]
    congr 1; omega
  have hkeep : Keeps m.length ρ I w (Ab.merge L m m1).length ρ' I1 w1 := ⟨by rw [merge_length]; omega, hρlt, hs.iSub, hs.wle.imm, hs.wle.cells⟩
  refine ⟨ρ', ⟨?_, ?_, ?_, hr1.ilt⟩, ⟨hkeep.len, hρlt, ?_, hs.iSub, ?_, ?_, hs.wle, ?_⟩, hval⟩
  · intro n b hb
    rcases hget n b hb with ⟨h1, h2, h3⟩ | ⟨i, c, h1, h2, rfl, h3⟩ | ⟨i, c, h1, rfl, h3, rfl⟩
    · rw [hρlt n h1]
      by_cases hl : b.live = true
      · exact (hr.blk n b h3).keep hkeep (hs.frame _ ((hr.blk n b h3).lt hl) (hown n h2 ⟨b, h3, hl⟩))
      · cases b <;> first | trivial | exact absurd rfl hl
    · rw [hρlt n h3, ← hρ1 i n h1]
      exact holds_sub (D := fun _ => true) hτ (List.all_eq_true.1 hall c (List.mem_of_getElem? h2)) (hr1.blk i c h2)
    · rw [hρnew i h1]
      exact holds_sub (D := fun _ => true) hτ (List.all_eq_true.1 hall c (List.mem_of_getElem? h3)) (hr1.blk i c h3)
  · intro n hn
    rcases hlive n hn with ⟨h1, h2, h3⟩ | ⟨i, h1, h2, h3, h4⟩ | ⟨i, h1, rfl, h3⟩
    · rw [hρlt n h1]
      intro hI
      rcases hs.iNew _ hI with h | h | h
      · exact hr.notI n h3 h
      · have := hr.live_lt h3; omega
      · exact hown n h2 h3 h
    · rw [hρlt n h3, ← hρ1 i n h1]
      exact hr1.notI i h2
    · rw [hρnew i h1]
      exact hr1.notI i h3
  · intro n n' hn hn' e
    -- what is not in the view has its own blocks
    have apart : ∀ k i, k ∉ L → live m k → live m1 i → (ρ k).1 ≠ (ρ1 i).1 := by
      intro k i h1 h2 h3 h4
      rcases hs.own _ ⟨i, h3, h4.symm⟩ with h | h
      · have := hr.live_lt h2; omega
      · exact hown k h1 h2 h
    rcases hlive n hn with ⟨h1, h2, h3⟩ | ⟨i, h1, h2, h3, h4⟩ | ⟨i, h1, h2, h3⟩ <;> rcases hlive n' hn' with ⟨g1, g2, g3⟩ | ⟨j, g1, g2, g3, g4⟩ | ⟨j, g1, g2, g3⟩
    · rw [hρlt n h1, hρlt n' g1] at e; exact hr.inj n n' h3 g3 e
    · rw [hρlt n h1, hρlt n' g3, ← hρ1 j n' g1] at e; exact absurd e (apart n j h2 h3 g2)
    · rw [hρlt n h1, g2, hρnew j g1] at e; exact absurd e (apart n j h2 h3 g3)
    · rw [hρlt n h3, hρlt n' g1, ← hρ1 i n h1] at e; exact absurd e.symm (apart n' i g2 g3 h2)
    · rw [hρlt n h3, hρlt n' g3, ← hρ1 i n h1, ← hρ1 j n' g1] at e
      have := hr1.inj i j h2 g2 e
      subst this
      rw [h1] at g1; cases g1; rfl
    · rw [hρlt n h3, g2, hρnew j g1, ← hρ1 i n h1] at e
      have := hr1.inj i j h2 g3 e
      subst this
      exact absurd (List.getElem?_eq_some_iff.1 h1).1 g1
    · rw [hρlt n' g1, h2, hρnew i h1] at e; exact absurd e.symm (apart n' i g2 g3 h3)
    · rw [hρlt n' g3, h2, hρnew i h1, ← hρ1 j n' g1] at e
      have := hr1.inj i j h3 g2 e
      subst this
      exact absurd (List.getElem?_eq_some_iff.1 g1).1 h1
    · rw [h2, g2, hρnew i h1, hρnew j g1] at e
      have := hr1.inj i j h3 g3 e
      subst this
      rw [h2, g2]
  · intro n hn h
    rcases hlive n h with ⟨_, _, h3⟩ | ⟨_, _, _, _, h4⟩ | ⟨i, h1, h2, _⟩
    · exact h3
    · exact h4
    · omega
  · intro b hb
    rcases hs.iNew b hb with h | h | h
    · exact .inl h
    · exact .inr (.inl h)
    · obtain ⟨n, _, k2, k3⟩ := own_view.1 h
      exact .inr (.inr ⟨n, k2, k3⟩)
  · rintro b ⟨n, hn, e⟩
    rcases hlive n hn with ⟨h1, _, h3⟩ | ⟨i, _, _, h3, h4⟩ | ⟨i, h1, h2, h3⟩
    · rw [hρlt n h1] at e; exact .inr ⟨n, h3, e⟩
    · rw [hρlt n h3] at e; exact .inr ⟨n, h4, e⟩
    · rw [h2, hρnew i h1] at e
      rcases hs.own b ⟨i, h3, e⟩ with h | h
      · exact .inl h
      · obtain ⟨k, _, k2, k3⟩ := own_view.1 h
        exact .inr ⟨k, k2, k3⟩
  · intro b hb ho
    exact hs.frame b hb (fun h => ho (by obtain ⟨k, _, k2, k3⟩ := own_view.1 h; exact ⟨k, k2, k3⟩))
end
end Go.Proofs.Ytjjenpdjmcmgbaa.Ab
namespace Go.Proofs.Ytjjenpdjmcmgbaa.Ab
open Go
set_option linter.unusedSimpArgs false
set_option linter.unusedVariables false
/-- Which function a call goes to, and with what. -/
def calleeV (e : Operand → V) : Op → Option (FuncId × List V)
  | .call { callee := .value f, args, .. } => match e f with
    | .fn k a b => some (k, a ++ args.toList.map e ++ b)
    | _ => none
  | _ => none
def panicV (e : Operand → V) : Op → Option V
  | .panic x => match e x with
    | .ifc t v => some (.ifc t v)
    | _ => none
  | _ => none
def rootsV (m : Mem) (vs : List V) : List Nat := reach m 2000 (nmss vs) []
def okCall (L : List Nat) (m : Mem) (vs : List V) : Bool := inDs (fun k => L.contains k) vs && closedB L m
def backV (L : List Nat) (m : Mem) (v : V) (m1 : Mem) : V × Mem :=
  bif L.isEmpty && nf v then (v, m) else (ren (back L m.length) v, merge L m m1)
def okRes (L : List Nat) (v : V) (m1 : Mem) : Bool := (L.isEmpty && nf v) || okBack L v m1
/-- Can the program's functions be entered? -/
def enterable (P : Program) (f : FuncId) : Bool := match P.funcs[f]? with
  | some fn => fn.body.isSome && !(fn.name == "runtime.NumGoroutine")
  | none => false
/-- A call, by a contract on what it reaches. -/
def callL (P : Program) (f : FuncId) (vs : List V) (m : Mem) (K : V → Mem → Prop) (Kp : V → Mem → Prop) : Prop :=
  okCall (rootsV m vs) m vs = true ∧ enterable P f = true ∧
  ∃ Q, Snd P f (rens (idx (rootsV m vs)) vs) (view (rootsV m vs) m) Q ∧ ∀ r, Q r → okRes (rootsV m vs) r.val r.mem = true ∧
    match r with
    | .ret v m1 => K (backV (rootsV m vs) m v m1).1 (backV (rootsV m vs) m v m1).2
    | .pan v m1 => Kp (backV (rootsV m vs) m v m1).1 (backV (rootsV m vs) m v m1).2
/-- A call, by a contract on what it reaches, or on all of the memory. -/
def callD (P : Program) (f : FuncId) (vs : List V) (m : Mem) (K : V → Mem → Prop) (Kp : V → Mem → Prop) : Prop :=
  callL P f vs m K Kp ∨ (enterable P f = true ∧ ∃ Q, Snd P f vs m Q ∧ ∀ r, Q r → match r with
    | .ret v m1 => K v m1
    | .pan v m1 => Kp v m1)
/-- Is an operation wanted? -/
def wantD (all : Array Oper) (env : Env) (o : Oper) : Option Bool :=
  match o.guard with
  | none => some true
  | some (j, want) => match (all[j]?).bind (·.dst) with
    | some d => match env d with
      | .bool b => some (b == want)
      | .tup [] => some false
      | _ => none
    | none => none
def runOps (P : Program) (all : Array Oper) : List Oper → Env → Mem → (Env → Mem → Prop) → (V → Mem → Prop) → Prop
  | [], env, m, K, _ => K env m
  | o :: r, env, m, K, Kp =>
    match wantD all env o with
    | none => False
    | some false => runOps P all r (put env o.dst (.tup [])) m K Kp
    | some true => match panicV (evO env) o.op with
      | some v => Kp v m
      | none => match calleeV (evO env) o.op with
        | some (f, vs) => callD P f vs m (fun v m' => runOps P all r (put env o.dst v) m' K Kp) Kp
        | none => match execD P (evO env) m o.op with
          | some (.val v m') => runOps P all r (put env o.dst v) m' K Kp
          | some (.skip m') => runOps P all r (put env o.dst (.tup [])) m' K Kp
          | some (.any l) => ∀ p ∈ l, runOps P all r (put env o.dst p.1) p.2 K Kp
          | none => False
section
variable {P : Program} {ρ : Pl} {I : Nat → Prop} {w : World} {m : Mem}
def REnv (N : Nat) (ρ : Pl) (I : Nat → Prop) (w : World) (env : Env) (a : Act) : Prop := ∀ t, RV N ρ I w (env t) (a.tmps.getD t undef)
theorem REnv.evO {N : Nat} {env : Env} {a : Act} (h : REnv N ρ I w env a) (x : Operand) : RV N ρ I w (evO env x) (a.eval x) := by
  cases x with
  | tmp t => exact h t
  | const v => exact RV_constV _ _ _ _ v
  | global g => simp [Ab.evO, RV]
  | func f => simp only [Ab.evO, RV, Act.eval]; exact ⟨#[], #[], rfl, rfl, by simp [Rt], rfl, by simp [Rt]⟩
theorem REnv.keep {N N' : Nat} {ρ' : Pl} {I' : Nat → Prop} {w' : World} {env : Env} {a : Act} (hk : Keeps N ρ I w N' ρ' I' w') (h : REnv N ρ I w env a) : REnv N' ρ' I' w' env a :=
  fun t => RV.keep hk _ _ (h t)
theorem REnv.put {N : Nat} {env : Env} {a : Act} (h : REnv N ρ I w env a) {d : Option Nat} {v : V} {x : Value} (hv : RV N ρ I w v x) (hd : ∀ k, d = some k → k < a.tmps.size) : REnv N ρ I w (put env d v) (a.put d x) := by
  intro t
  cases d with
  | none => exact h t
  | some k =>
    simp only [Ab.put, upd, Act.put]
    cases hb : Nat.beq k t with
    | true =>
      have := Nat.eq_of_beq_eq_true hb
      subst this
      have hk := hd k rfl
      simp [hk]
      exact hv
    | false =>
      have hne : k ≠ t := fun e => by rw [e] at hb; simp at hb
      simp only [cond_false]
      have := h t
      simpa [Array.getElem?_setIfInBounds_ne hne] using this
theorem RV_undef (N : Nat) : RV N ρ I w (.tup []) undef := by
  simp only [RV]; exact ⟨#[], rfl, rfl, by simp [Rt]⟩
theorem wantD_sound {N : Nat} {all : Array Oper} {env : Env} {a : Act} {o : Oper} {b : Bool} (he : REnv N ρ I w env a) (h : wantD all env o = some b) (hb : ∀ (i : Nat) (x : Oper) d, all[i]? = some x → x.dst = some d → d < a.tmps.size) :
    Region.wanted o (yielded all a.tmps) = b := by
  unfold wantD at h
  unfold Region.wanted
  split at h
  · rename_i hg; rw [hg]; cases h; rfl
  · rename_i j want hg
    rw [hg]
    simp only
    split at h
    · rename_i d hd
      have hv := he d
      have hlt : d < a.tmps.size := by
        cases hj : all[j]? with
        | none => simp [hj] at hd
        | some x => exact hb j x d hj (by simpa [hj] using hd)
      split at h
      · rename_i c hc
        cases h
        rw [hc] at hv
        simp only [RV] at hv
        have : a.tmps[d]? = some (.bool c) := by simp [hlt] at hv ⊢; exact hv
        simp [yielded, hd, this]
      · rename_i hc
        cases h
        rw [hc] at hv
        simp only [RV] at hv
        obtain ⟨q, h1, h2, _⟩ := hv
        have h1' : a.tmps[d]? = some (.tuple q) := by simp [hlt] at h1 ⊢; exact h1
        simp [yielded, hd, h1']
      · cases h
    · cases h
/-- A call's entry. -/
theorem enter_call {a : Act} {env : Env} (he : REnv m.length ρ I w env a) {o : Oper} {f : FuncId} {vs : List V} (hc : calleeV (evO env) o.op = some (f, vs)) (h2 : enterable P f = true) :
    ∃ xs : Array Value, (execOp a.eval o).run P w = .ok (.enter f xs) w ∧ vs.length = xs.size ∧ Rt m.length ρ I w vs xs 0 := by
  obtain ⟨dst, op, ty, pos, af, gd⟩ := o
  simp only at hc
  unfold calleeV at hc
  split at hc
  · rename_i g args ts
    split at hc
    · rename_i k first cap hg
      cases hc
      have hev := he.evO g
      rw [hg] at hev
      simp only [RV] at hev
      obtain ⟨fa, ca, e1, e2, e3, e4, e5⟩ := hev
      obtain ⟨e6, e7⟩ := Rt_map (ρ := ρ) (I := I) (w := w) (fun x => he.evO x) args
      have hexec : (execOp a.eval { dst := dst, op := .call { callee := .value g, args := args, argTypes := ts }, type := ty, pos := pos, after := af, guard := gd }).run P w = .ok (.enter f (fa ++ args.map a.eval ++ ca)) w := by
        unfold enterable at h2
        split at h2
        · rename_i fn hfn
          simp only [Bool.and_eq_true, Bool.not_eq_true'] at h2
          have hb : ¬ fn.body = none := fun e => by simp [e] at h2
          have hn : ¬ (fn.name = "runtime.NumGoroutine") := by simpa using h2.2
          simp [execOp, resolve, e1, Deferred.ofValue, invoke, callFunc, hfn, hb, hn]
        · cases h2
      have hlen : (first ++ args.toList.map (evO env) ++ cap).length = (fa ++ args.map a.eval ++ ca).size := by
        simp only [List.length_append, Array.size_append, e2, e4, e6]
      have hrt : Rt m.length ρ I w (first ++ args.toList.map (evO env) ++ cap) (fa ++ args.map a.eval ++ ca) 0 := Rt.mk fun i v hv => by
        by_cases i1 : i < first.length
        · rw [List.append_assoc, List.getElem?_append_left i1] at hv
          obtain ⟨x, k1, k2⟩ := e3.get i v hv
          exact ⟨x, by rw [Array.append_assoc, Nat.zero_add, Array.getElem?_append_left (by omega)]; simpa using k1, k2⟩
        · by_cases i2 : i < first.length + (args.toList.map (evO env)).length
          · rw [List.getElem?_append_left (by simpa using i2), List.getElem?_append_right (by omega)] at hv
            obtain ⟨x, k1, k2⟩ := e7.get _ v hv
            refine ⟨x, ?_, k2⟩
            rw [Nat.zero_add, Array.getElem?_append_left (by rw [Array.size_append]; omega), Array.getElem?_append_right (by omega), ← k1]
            congr 1; omega
          · rw [List.getElem?_append_right (by simp at i2 ⊢; omega)] at hv
            obtain ⟨x, k1, k2⟩ := e5.get _ v hv
            refine ⟨x, ?_, k2⟩
            rw [Nat.zero_add, Array.getElem?_append_right (by rw [Array.size_append]; simp at i2 e6 ⊢; omega), ← k1]
            congr 1; simp at e6 ⊢; omega
      exact ⟨_, hexec, hlen, hrt⟩
    · cases hc
  · cases hc
/-- The call's own wp. -/
theorem callL_sound (hr : Rep ρ I m w) {a : Act} {env : Env} (he : REnv m.length ρ I w env a) {o : Oper} {f : FuncId} {vs : List V} (hc : calleeV (evO env) o.op = some (f, vs)) {K Kp : V → Mem → Prop}
    (h : callL P f vs m K Kp) {next : Act → World → Prop} {Q : Exit → Act → World → Prop}
    (hK : ∀ v m' x ρ' I' w', K v m' → Rep ρ' I' m' w' → Step ρ I m w ρ' I' m' w' → RV m'.length ρ' I' w' v x → next (a.put o.dst x) w')
    (hKp : ∀ v m' x ρ' I' w', Kp v m' → Rep ρ' I' m' w' → Step ρ I m w ρ' I' m' w' → RV m'.length ρ' I' w' v x → Q (.panic [{ v := x, recovered := false }]) a w') :
    o.wp P a w next Q := by
  obtain ⟨h1, h2, Q', h3, h4⟩ := h
  obtain ⟨xs, hexec, hlen, hrt⟩ := enter_call he hc h2
  unfold okCall at h1
  simp only [Bool.and_eq_true] at h1
  obtain ⟨d1, d2, d3⟩ := closed_parts h1.2
  have hview := hr.view h1.2
  have hrt' := Rt_sub (N' := (view (rootsV m vs) m).length) (ρ' := fun i => ρ ((rootsV m vs).getD i 0)) (fun n hn hm => view_names (ρ := ρ) (m := m) n hn hm) _ _ 0 h1.1 hrt
  have hcall := h3 _ I w xs hview (by rw [rens_length]; exact hlen) hrt'
  unfold Oper.wp
  rw [hexec]
  simp only [Oper.upon]
  refine hcall.mono ?_
  rintro e w' ⟨r, hq, x, ρ1, I1, rfl, p1, p2, p3⟩
  obtain ⟨q1, q2⟩ := h4 r hq
  -- the result comes back
  have hback : ∃ ρ', Rep ρ' I1 (backV (rootsV m vs) m r.val r.mem).2 w' ∧
      Step ρ I m w ρ' I1 (backV (rootsV m vs) m r.val r.mem).2 w' ∧
      RV (backV (rootsV m vs) m r.val r.mem).2.length ρ' I1 w' (backV (rootsV m vs) m r.val r.mem).1 x := by
    unfold backV
    cases hL : (rootsV m vs).isEmpty && nf r.val with
    | true =>
      simp only [cond_true]
      simp only [Bool.and_eq_true, List.isEmpty_iff] at hL
      have hno : ∀ b, ¬ Own (fun i => ρ ((rootsV m vs).getD i 0)) (view (rootsV m vs) m) b := by
        intro b hb
        rw [own_view, hL.1] at hb
        obtain ⟨n, hn, _⟩ := hb
        cases hn
      have hfr : ∀ b : Nat, b < w.heap.size → w'.heap[b]? = w.heap[b]? := fun b hb => p2.frame b hb (hno b)
      have hkeep : Keeps m.length ρ I w m.length ρ I1 w' := ⟨Nat.le_refl _, fun _ _ => rfl, p2.iSub, p2.wle.imm, p2.wle.cells⟩
      refine ⟨ρ, ⟨fun n b hb => ?_, fun n hn hI => ?_, hr.inj, p1.ilt⟩, ⟨Nat.le_refl _, fun _ _ => rfl, fun _ _ h => h, p2.iSub, fun b hb => ?_, fun b hb => .inr hb, p2.wle, fun b hb _ => hfr b hb⟩, RV_nf _ _ hL.2 p3⟩
      · by_cases hl : b.live = true
        · exact (hr.blk n b hb).keep hkeep (hfr _ ((hr.blk n b hb).lt hl))
        · cases b <;> first | trivial | exact absurd rfl hl
      · rcases p2.iNew _ hI with h | h | h
        · exact hr.notI n hn h
        · have := hr.live_lt hn; omega
        · exact hno _ h
      · rcases p2.iNew _ hb with h | h | h
        · exact .inl h
        · exact .inr (.inl h)
        · exact absurd h (hno _)
    | false =>
      simp only [cond_false]
      unfold okRes at q1
      rw [hL, Bool.false_or] at q1
      unfold okBack at q1
      simp only [Bool.and_eq_true] at q1
      obtain ⟨ρ', m1, m2, m3⟩ := hr.merge h1.2 p1 p2 q1.2.1
      exact ⟨ρ', m1, m2, m3 _ _ q1.1 p3⟩
  obtain ⟨ρ', b1, b2, b3⟩ := hback
  cases r with
  | ret v m1 => exact hK _ _ x ρ' I1 w' q2 b1 b2 b3
  | pan v m1 => exact hKp _ _ x ρ' I1 w' q2 b1 b2 b3
/-- The same, for a call by what it reaches or on all. -/
theorem callD_sound (hr : Rep ρ I m w) {a : Act} {env : Env} (he : REnv m.length ρ I w env a) {o : Oper} {f : FuncId} {vs : List V} (hc : calleeV (evO env) o.op = some (f, vs)) {K Kp : V → Mem → Prop}
    (h : callD P f vs m K Kp) {next : Act → World → Prop} {Q : Exit → Act → World → Prop}
    (hK : ∀ v m' x ρ' I' w', K v m' → Rep ρ' I' m' w' → Step ρ I m w ρ' I' m' w' → RV m'.length ρ' I' w' v x → next (a.put o.dst x) w')
    (hKp : ∀ v m' x ρ' I' w', Kp v m' → Rep ρ' I' m' w' → Step ρ I m w ρ' I' m' w' → RV m'.length ρ' I' w' v x → Q (.panic [{ v := x, recovered := false }]) a w') :
    o.wp P a w next Q := by
  rcases h with h | ⟨h2, Q', h3, h4⟩
  · exact callL_sound hr he hc h hK hKp
  · obtain ⟨xs, hexec, hlen, hrt⟩ := enter_call he hc h2
    unfold Oper.wp
    rw [hexec]
    simp only [Oper.upon]
    refine (h3 ρ I w xs hr hlen hrt).mono ?_
    rintro e w' ⟨r, hq, x, ρ1, I1, rfl, p1, p2, p3⟩
    have q2 := h4 r hq
    cases r with
    | ret v m1 => exact hK _ _ x ρ1 I1 w' q2 p1 p2 p3
    | pan v m1 => exact hKp _ _ x ρ1 I1 w' q2 p1 p2 p3
def dstsOk (n : Nat) (ops : Array Oper) : Bool := ops.toList.all fun o => match o.dst with
  | some d => Nat.blt d n
  | none => true
theorem dstsOk_spec {n : Nat} {ops : Array Oper} (h : dstsOk n ops = true) {o : Oper} (ho : o ∈ ops.toList) : ∀ d, o.dst = some d → d < n := by
  intro d hd
  have := List.all_eq_true.1 h o ho
  simp only [hd, Nat.blt_eq] at this
  exact this
/-- What is known of the slots at a panic: those that the region does not set. -/
def wipe (all : Array Oper) (env : Env) : Env := fun t => bif all.toList.any (fun o => match o.dst with | some d => Nat.beq d t | none => false) then .unk else env t
theorem wipe_put {all : Array Oper} {env : Env} {o : Oper} {v : V} (ho : o ∈ all.toList) : wipe all (put env o.dst v) = wipe all env := by
  funext t
  unfold wipe
  cases hb : all.toList.any (fun o => match o.dst with | some d => Nat.beq d t | none => false) with
  | true => rfl
  | false =>
    simp only [cond_false]
    cases hd : o.dst with
    | none => rfl
    | some d =>
      have := List.any_eq_false.1 hb o ho
      rw [hd] at this
      simp only [Bool.not_eq_true] at this
      simp only [put, upd, this, cond_false]
theorem REnv.wipe {N : Nat} {all : Array Oper} {env : Env} {a : Act} (h : REnv N ρ I w env a) : REnv N ρ I w (Ab.wipe all env) a := by
  intro t
  unfold Ab.wipe
  cases all.toList.any (fun o => match o.dst with | some d => Nat.beq d t | none => false) with
  | true => simp [RV]
  | false => exact h t
theorem runOps_sound {all : Array Oper} {nt : Nat} (hd : dstsOk nt all = true) {Q : Exit → Act → World → Prop} {ds : List Deferred} (ρ0 : Pl) (I0 : Nat → Prop) (m0 : Mem) (w0 : World) (env0 : Env) (K : Env → Mem → Prop) (Kp : V → Mem → Prop)
    (hK : ∀ env m a ρ I w, K env m → Rep ρ I m w → REnv m.length ρ I w env a → a.tmps.size = nt → a.defers = ds → Step ρ0 I0 m0 w0 ρ I m w → Q .normal a w)
    (hKp : ∀ v m x a ρ I w, Kp v m → Rep ρ I m w → RV m.length ρ I w v x → REnv m.length ρ I w (wipe all env0) a → a.tmps.size = nt → a.defers = ds → Step ρ0 I0 m0 w0 ρ I m w → Q (.panic [{ v := x, recovered := false }]) a w) :
    ∀ (l : List Oper), (∀ o ∈ l, o ∈ all.toList) → ∀ (env : Env) (m : Mem) (a : Act) (ρ : Pl) (I : Nat → Prop) (w : World), wipe all env = wipe all env0 → runOps P all l env m K Kp → Rep ρ I m w → REnv m.length ρ I w env a → a.tmps.size = nt → a.defers = ds →
      Step ρ0 I0 m0 w0 ρ I m w → wpList P all Q l a w
  | [], _, env, m, a, ρ, I, w, hwi, h, hr, he, hs, hds, hst => wpList_nil (hK env m a ρ I w h hr he hs hds hst)
  | o :: r, hsub, env, m, a, ρ, I, w, hwi, h, hr, he, hs, hds, hst => by
    have hwp : ∀ v, wipe all (put env o.dst v) = wipe all env0 := fun v => (wipe_put (hsub o (by simp))).trans hwi
    have ih := runOps_sound hd ρ0 I0 m0 w0 env0 K Kp hK hKp r (fun o ho => hsub o (by simp [ho]))
    have hdo := dstsOk_spec hd (hsub o (by simp))
    have hall : ∀ (i : Nat) (x : Oper) d, all[i]? = some x → x.dst = some d → d < a.tmps.size := fun i x d h1 h2 => by
      rw [hs]; exact dstsOk_spec hd (by rw [← Array.getElem?_toList] at h1; exact List.mem_of_getElem? h1) d h2
    have hput : ∀ x, (a.put o.dst x).tmps.size = nt ∧ (a.put o.dst x).defers = ds := by
      intro x
      unfold Act.put
      cases o.dst <;> simp [hs, hds]
    simp only [runOps] at h
    split at h
    · exact h.elim
    · rename_i hw
      have := wantD_sound he hw hall
      refine wpList_skip this ?_
      exact ih _ _ _ _ _ _ (hwp _) h hr (he.put (RV_undef _) (fun k hk => by rw [hs]; exact hdo k hk)) (hput _).1 (hput _).2 hst
    · rename_i hw
      have hwant := wantD_sound he hw hall
      refine wpList_step fun K' hK' => ?_
      rw [if_pos hwant]
      have go : ∀ (v : V) (m' : Mem) (x : Value) (ρ' : Pl) (I' : Nat → Prop) (w' : World), runOps P all r (put env o.dst v) m' K Kp → Rep ρ' I' m' w' → Step ρ I m w ρ' I' m' w' → RV m'.length ρ' I' w' v x → K' (a.put o.dst x) w' := by
        intro v m' x ρ' I' w' h1 h2 h3 h4
        exact hK' _ _ (ih _ _ _ _ _ _ (hwp _) h1 h2 ((he.keep h3.keeps).put h4 (fun k hk => by rw [hs]; exact hdo k hk)) (hput _).1 (hput _).2 (hst.trans h3))
      split at h
      · -- a panic
        rename_i v hp
        unfold panicV at hp
        split at hp
        · rename_i x hop
          split at hp
          · rename_i t u hx
            cases hp
            have hv := he.evO x
            rw [hx] at hv
            have hv' := hv
            simp only [RV] at hv
            obtain ⟨y, h1, _⟩ := hv
            unfold Oper.wp
            have : (execOp a.eval o).run P w = .halt (.panic (.iface t y)) w := by
              unfold execOp
              rw [hop]
              simp [h1, Instr.panic]
            rw [this]
            simp only [Oper.upon]
            exact hKp _ _ _ a ρ I w h hr (by rw [h1] at hv'; exact hv') (by rw [← hwi]; exact he.wipe) hs hds hst
          · cases hp
        · cases hp
      · split at h
        · rename_i f vs hc
          exact callD_sound hr he hc h (fun v m' x ρ' I' w' => go v m' x ρ' I' w') (fun v m' x ρ' I' w' h1 h2 h3 h4 => hKp v m' x a ρ' I' w' h1 h2 h4 (by rw [← hwi]; exact (he.keep h3.keeps).wipe) hs hds (hst.trans h3))
        · split at h
          · rename_i v m' hx
            obtain ⟨x, w', ρ', I', k1, k2, k3, k4⟩ := execD_sound hr (fun x => he.evO x) hx
            unfold Oper.wp
            rw [k1]
            simp only [Oper.upon]
            exact go v m' x ρ' I' w' h k2 k3 k4
          · rename_i m' hx
            obtain ⟨w', ρ', I', k1, k2, k3⟩ := execD_sound hr (fun x => he.evO x) hx
            unfold Oper.wp
            rw [k1]
            simp only [Oper.upon]
            exact go (.tup []) m' undef ρ' I' w' h k2 k3 (RV_undef _)
          · rename_i l hx
            obtain ⟨p, hp, x, w', ρ', I', k1, k2, k3, k4⟩ := execD_sound hr (fun x => he.evO x) hx
            unfold Oper.wp
            rw [k1]
            simp only [Oper.upon]
            exact go p.1 p.2 x ρ' I' w' (h p hp) k2 k3 k4
          · exact h.elim
end
end Go.Proofs.Ytjjenpdjmcmgbaa.Ab
