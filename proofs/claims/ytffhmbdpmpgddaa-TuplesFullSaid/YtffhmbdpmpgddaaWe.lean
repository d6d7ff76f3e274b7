/- A rule is added. No condition. -/
import Derived.Test.YtffhmbdpmpgddaaWd
namespace Go.Proofs.Ytffhmbdpmpgddaa
open Go Ab
set_option linter.unusedSimpArgs false
set_option linter.unusedVariables false
set_option maxRecDepth 20000

theorem TB.last {m : Mem} {p : Nat} {T : Tbl} (h : TB m p T) (l : Int) : TB (m.set p (.var 55 (tbC { T with last := l }))) p { T with last := l } := by
  have hp := (List.getElem?_eq_some_iff.1 h.tp).1
  have hnd := h.nd
  simp only [posT, List.nodup_cons] at hnd
  obtain ⟨n1, _⟩ := hnd
  have ne : ∀ k, k ∈ T.a :: ((bif T.nil then [] else [T.q]) ++ T.rows.flatMap posR) → p ≠ k := fun k hk e => n1 (by rw [e]; exact hk)
  refine ⟨by simp [hp], h.ta.of (List.getElem?_set_ne (ne _ (by simp))), fun hr => ?_, fun x hx => (h.tr x hx).of fun k hk => List.getElem?_set_ne (ne _ ?_), h.nd, h.tn⟩
  · rw [List.getElem?_set_ne (ne _ ?_)]
    · exact h.tq hr
    · simp only at hr; simp [hr]
  · simp only [List.mem_cons, List.mem_append, List.mem_flatMap]
    exact .inr (.inr ⟨x, hx, hk⟩)
theorem TB.at {m : Mem} {p : Nat} {T : Tbl} (h : TB m p T) {b : B} {l : List (Int × V)} (hb : isMap (m.set T.a b) T.a (l.map enA)) : TB (m.set T.a b) p { T with at_ := l } := by
  have hnd := h.nd
  simp only [posT, List.nodup_cons] at hnd
  obtain ⟨n1, n2, _⟩ := hnd
  have ne : ∀ k, k ∈ ((bif T.nil then [] else [T.q]) ++ T.rows.flatMap posR) → T.a ≠ k := fun k hk e => n2 (by rw [e]; exact hk)
  refine ⟨?_, hb, fun hr => ?_, fun x hx => (h.tr x hx).of fun k hk => List.getElem?_set_ne (ne _ ?_), h.nd, h.tn⟩
  · rw [List.getElem?_set_ne (fun e => n1 (by rw [← e]; simp))]
    exact h.tp
  · rw [List.getElem?_set_ne (ne _ ?_)]
    · exact h.tq hr
    · simp only at hr; simp [hr]
  · simp only [List.mem_append, List.mem_flatMap]
    exact .inr ⟨x, hx, hk⟩
theorem posT_q {p : Nat} {T : Tbl} (h : T.nil = false) : T.q ∈ posT p T := by simp [posT, h]
theorem posT_pq {m : Mem} {p : Nat} {T : Tbl} (h : TB m p T) (hne : T.nil = false) : p ≠ T.q ∧ T.a ≠ T.q ∧ ∀ x ∈ T.rows, ∀ k ∈ posR x, k ≠ T.q := by
  have hnd := h.nd
  have hpe : posT p T = p :: T.a :: T.q :: T.rows.flatMap posR := by
    unfold posT
    rw [hne]
    rfl
  rw [hpe] at hnd
  simp only [List.nodup_cons, List.mem_cons, not_or] at hnd
  obtain ⟨⟨n1, n2, n3⟩, ⟨n4, n5⟩, n6, n7⟩ := hnd
  exact ⟨n2, n4, fun x hx k hk e => n6 (List.mem_flatMap.2 ⟨x, hx, by rw [← e]; exact hk⟩)⟩
theorem posT_p {m : Mem} {p : Nat} {T : Tbl} (h : TB m p T) : p ≠ T.a ∧ (∀ x ∈ T.rows, ∀ k ∈ posR x, k ≠ p ∧ k ≠ T.a) ∧ (T.rows.flatMap posR).Nodup := by
  have hnd := h.nd
  simp only [posT, List.nodup_cons, List.mem_cons, List.mem_append, not_or] at hnd
  obtain ⟨⟨n1, n2, n3⟩, ⟨n4, n5⟩, n6⟩ := hnd
  refine ⟨n1, fun x hx k hk => ⟨fun e => n3 (List.mem_flatMap.2 ⟨x, hx, by rw [← e]; exact hk⟩), fun e => n5 (List.mem_flatMap.2 ⟨x, hx, by rw [← e]; exact hk⟩)⟩, (List.nodup_append.1 n6).2.1⟩
theorem TB.grow {m m' : Mem} {p : Nat} {T : Tbl} {x : Rw} {q : Nat} (h : TB m p T) (hq : m.length ≤ q) (hr : m.length ≤ x.r) (hm : m.length ≤ x.mp) (d1 : x.r ≠ x.mp) (d2 : q ≠ x.r) (d3 : q ≠ x.mp) (hes : x.es = [])
    (hp : m'[p]? = some (.var 55 (tbC { T with rows := T.rows ++ [x], q := q, nil := false }))) (hqq : m'[q]? = some (.row 58 1 ((T.rows ++ [x]).map fun x => [.ptr x.r 0]))) (hx : RwB m' x) (hk : ∀ k ∈ posT p T, k ≠ p → (k ≠ T.q ∨ T.nil = true) → m'[k]? = m[k]?) :
    TB m' p { T with rows := T.rows ++ [x], q := q, nil := false } := by
  have hlt := h.lt
  obtain ⟨e1, e2, e3⟩ := posT_p h
  have hkr : ∀ y ∈ T.rows, ∀ k ∈ posR y, m'[k]? = m[k]? := fun y hy k hky => hk k (mem_posT hy hky) (e2 y hy k hky).1 (.inl ((posT_pq h (h.nn (List.ne_nil_of_mem hy))).2.2 y hy k hky))
  refine ⟨hp, h.ta.of (hk _ (by simp [posT]) (Ne.symm e1) ?_), fun _ => hqq, fun y hy => ?_, ?_, fun e => by cases e⟩
  · cases e : T.nil with
    | true => exact .inr rfl
    | false => exact .inl (posT_pq h e).2.1
  · rcases List.mem_append.1 hy with hy | hy
    · exact (h.tr y hy).of (hkr y hy)
    · rw [List.mem_singleton.1 hy]; exact hx
  · have hpe : posT p { T with rows := T.rows ++ [x], q := q, nil := false } = p :: T.a :: q :: (T.rows ++ [x]).flatMap posR := rfl
    have hxp : posR x = [x.r, x.mp] := by simp [posR, hes]
    have hin : ∀ k ∈ T.rows.flatMap posR, k < m.length := fun k hk => by
      obtain ⟨y, hy, hky⟩ := List.mem_flatMap.1 hk
      exact hlt k (mem_posT hy hky)
    have hpl := hlt p (by simp [posT])
    have hal := hlt T.a (by simp [posT])
    rw [hpe]
    simp only [List.flatMap_append, List.flatMap_cons, List.flatMap_nil, List.append_nil, hxp, List.nodup_cons, List.mem_cons, List.mem_append, List.not_mem_nil, or_false, not_or, List.nodup_append, List.nodup_nil, and_true]
    refine ⟨⟨e1, by omega, fun hh => ?_, by omega, by omega⟩, ⟨by omega, fun hh => ?_, by omega, by omega⟩, ⟨fun hh => by have := hin q hh; omega, d2, d3⟩, e3, ⟨d1, fun hh => by cases hh⟩, fun k hk k2 hk2 => ?_⟩
    · obtain ⟨y, hy, hky⟩ := List.mem_flatMap.1 hh
      exact (e2 y hy _ hky).1 rfl
    · obtain ⟨y, hy, hky⟩ := List.mem_flatMap.1 hh
      exact (e2 y hy _ hky).2 rfl
    · have := hin k hk
      omega
theorem posT_grow {p : Nat} {T : Tbl} {x : Rw} {q k : Nat} (h : k ∈ posT p { T with rows := T.rows ++ [x], q := q, nil := false }) : k ∈ posT p T ∨ k = q ∨ k ∈ posR x := by
  have hpe : posT p { T with rows := T.rows ++ [x], q := q, nil := false } = p :: T.a :: q :: (T.rows ++ [x]).flatMap posR := rfl
  rw [hpe] at h
  simp only [List.flatMap_append, List.flatMap_cons, List.flatMap_nil, List.append_nil, List.mem_cons, List.mem_append] at h
  rcases h with rfl | rfl | rfl | h | h
  · exact .inl (by simp [posT])
  · exact .inl (by simp [posT])
  · exact .inr (.inl rfl)
  · exact .inl (by simp only [posT, List.mem_cons, List.mem_append]; exact .inr (.inr (.inr h)))
  · exact .inr (.inr h)
theorem posR_nodup {m : Mem} {p : Nat} {T : Tbl} (h : TB m p T) {x : Rw} (hx : x ∈ T.rows) : (posR x).Nodup := by
  have h1 := (posT_p h).2.2
  obtain ⟨A, C, e⟩ := List.append_of_mem hx
  rw [e] at h1
  simp only [List.flatMap_append, List.flatMap_cons, List.nodup_append] at h1
  exact h1.2.1.1
theorem TB.upd {m m' : Mem} {p : Nat} {T : Tbl} {i : Nat} {x x' : Rw} (h : TB m p T) (hi : T.rows[i]? = some x) (hr : x'.r = x.r) (hx' : RwB m' x') (hk : ∀ k ∈ posT p T, k ∉ posR x → m'[k]? = m[k]?)
    (hnew : ∀ k ∈ posR x', k ∈ posR x ∨ m.length ≤ k) (hnd : (posR x').Nodup) : TB m' p { T with rows := T.rows.set i x' } := by
  have hilt := (List.getElem?_eq_some_iff.1 hi).1
  have hxm := List.mem_of_getElem? hi
  have hne := List.ne_nil_of_mem hxm
  have hnn := h.nn hne
  obtain ⟨e1, e2, e3⟩ := posT_p h
  obtain ⟨f1, f2, f3⟩ := posT_pq h hnn
  have hlt := h.lt
  obtain ⟨A, C, hAC, hAl⟩ : ∃ A C, T.rows = A ++ x :: C ∧ A.length = i := by
    refine ⟨T.rows.take i, T.rows.drop (i + 1), ?_, by simp; omega⟩
    have := List.getElem?_eq_some_iff.1 hi
    rw [← this.2, ← List.drop_eq_getElem_cons hilt, List.take_append_drop]
  have hset : T.rows.set i x' = A ++ x' :: C := by rw [hAC, ← hAl]; simp
  have hdis : ∀ y, y ∈ A ∨ y ∈ C → ∀ k ∈ posR y, k ∉ posR x := by
    rw [hAC] at e3
    simp only [List.flatMap_append, List.flatMap_cons, List.nodup_append, List.mem_append] at e3
    obtain ⟨_, ⟨_, _, g1⟩, g2⟩ := e3
    rintro y (hy | hy) k hk hkx
    · exact g2 k (List.mem_flatMap.2 ⟨y, hy, hk⟩) k (.inl hkx) rfl
    · exact g1 k hkx k (List.mem_flatMap.2 ⟨y, hy, hk⟩) rfl
  have hmem : ∀ y, y ∈ A ∨ y ∈ C → y ∈ T.rows := fun y hy => by
    rw [hAC]
    simp only [List.mem_append, List.mem_cons]
    rcases hy with hy | hy
    · exact .inl hy
    · exact .inr (.inr hy)
  have hpx : ∀ k ∈ posR x, k ≠ p ∧ k ≠ T.a ∧ k ≠ T.q := fun k hk => ⟨(e2 x hxm k hk).1, (e2 x hxm k hk).2, f3 x hxm k hk⟩
  have hmap : ((A ++ x' :: C).map fun y => [V.ptr y.r 0]) = T.rows.map fun y => [V.ptr y.r 0] := by rw [hAC]; simp [hr]
  refine ⟨?_, h.ta.of (hk _ (by simp [posT]) fun hh => (hpx _ hh).2.1 rfl), fun _ => ?_, fun y hy => ?_, ?_, fun e => by rw [hnn] at e; cases e⟩
  · rw [hk p (by simp [posT]) fun hh => (hpx _ hh).1 rfl, h.tp]
    simp only [tbC]
    rw [rowsV_nn hnn, rowsV_nn (T := { T with rows := T.rows.set i x' }) hnn]
    simp
  · rw [hset] 
    simp only [hmap]
    rw [hk _ (posT_q hnn) fun hh => (hpx _ hh).2.2 rfl]
    exact h.tq hnn
  · simp only [hset, List.mem_append, List.mem_cons] at hy
    rcases hy with hy | rfl | hy
    · exact (h.tr y (hmem y (.inl hy))).of fun k hky => hk k (mem_posT (hmem y (.inl hy)) hky) (hdis y (.inl hy) k hky)
    · exact hx'
    · exact (h.tr y (hmem y (.inr hy))).of fun k hky => hk k (mem_posT (hmem y (.inr hy)) hky) (hdis y (.inr hy) k hky)
  · have hpe : ∀ S : Tbl, S.nil = false → posT p S = p :: S.a :: S.q :: S.rows.flatMap posR := fun S hS => by
      unfold posT
      rw [hS]
      rfl
    rw [hpe _ (by exact hnn)]
    simp only [hset]
    have hal := hlt T.a (by simp [posT])
    have hpl := hlt p (by simp [posT])
    have hql := hlt T.q (posT_q hnn)
    have hin : ∀ y, y ∈ A ∨ y ∈ C → ∀ k ∈ posR y, k ≠ p ∧ k ≠ T.a ∧ k ≠ T.q ∧ k < m.length ∧ k ∉ posR x := fun y hy k hky =>
      ⟨(e2 y (hmem y hy) k hky).1, (e2 y (hmem y hy) k hky).2, f3 y (hmem y hy) k hky, hlt k (mem_posT (hmem y hy) hky), hdis y hy k hky⟩
    have hall : ∀ k ∈ (A ++ x' :: C).flatMap posR, k ≠ p ∧ k ≠ T.a ∧ k ≠ T.q := fun k hk1 => by
      obtain ⟨y, hy, hky⟩ := List.mem_flatMap.1 hk1
      simp only [List.mem_append, List.mem_cons] at hy
      rcases hy with hy | rfl | hy
      · have := hin y (.inl hy) k hky; exact ⟨this.1, this.2.1, this.2.2.1⟩
      · rcases hnew k hky with hh | hh
        · exact hpx k hh
        · exact ⟨by omega, by omega, by omega⟩
      · have := hin y (.inr hy) k hky; exact ⟨this.1, this.2.1, this.2.2.1⟩
    refine List.nodup_cons.2 ⟨fun hh => ?_, List.nodup_cons.2 ⟨fun hh => ?_, List.nodup_cons.2 ⟨fun hh => (hall _ hh).2.2 rfl, ?_⟩⟩⟩
    · simp only [List.mem_cons] at hh
      rcases hh with hh | hh | hh
      · exact e1 hh
      · exact f1 hh
      · exact (hall _ hh).1 rfl
    · simp only [List.mem_cons] at hh
      rcases hh with hh | hh
      · exact f2 hh
      · exact (hall _ hh).2.1 rfl
    · rw [hAC] at e3
      simp only [List.flatMap_append, List.flatMap_cons, List.nodup_append, List.mem_append] at e3 ⊢
      obtain ⟨g0, ⟨_, g1, g2⟩, g3⟩ := e3
      have hx'd : ∀ y, y ∈ A ∨ y ∈ C → ∀ k ∈ posR y, k ∉ posR x' := fun y hy k hky hh => by
        have := hin y hy k hky
        rcases hnew k hh with hh | hh
        · exact this.2.2.2.2 hh
        · omega
      refine ⟨g0, ⟨hnd, g1, fun a ha b hb e => ?_⟩, fun a ha b hb e => ?_⟩
      · obtain ⟨y, hy, hky⟩ := List.mem_flatMap.1 hb
        exact hx'd y (.inr hy) b hky (by rw [← e]; exact ha)
      · rcases hb with hb | hb
        · obtain ⟨y, hy, hky⟩ := List.mem_flatMap.1 ha
          exact hx'd y (.inl hy) a hky (by rw [e]; exact hb)
        · exact g3 a ha b (.inr hb) e
/-- What is not of the table stays. -/
def Keep (m m' : Mem) (L : List Nat) : Prop := m.length ≤ m'.length ∧ ∀ k, k < m.length → k ∉ L → m'[k]? = m[k]?
section
variable {P : Program} {all : Array Oper} {r : List Oper} {env : Env} {m : Mem} {K : List (Nat × Info × Nat) → Env → Mem → Prop} {d : Option Nat} {ty : TypeId} {pos : String} {af : Array Edge} {k : Nat} {acc : List (Nat × Info × Nat)}
theorem e_max {x y : Operand} {ts : Array TypeId} : runE P all K k acc (⟨d, .call { callee := .builtin .max, args := #[x, y], argTypes := ts }, ty, pos, af, none⟩ :: r) env m = bindO (minmaxV true (evO env x) (evO env y)) fun v => runE P all K (k + 1) acc r (put env d v) m := e_pure rfl rfl rfl fun _ => rfl
theorem e_makeMap {t : TypeId} : runE P all K k acc (⟨d, .makeMap t none, ty, pos, af, none⟩ :: r) env m =
    orderP (accB all acc ⟨d, .makeMap t none, ty, pos, af, none⟩ ⟨[], [], true⟩ m.length) (runE P all K (k + 1) ((k, ⟨[], [], true⟩, m.length) :: acc) r (put env d (.mp m.length)) (m ++ [.map [] [] 0])) := by
  simp only [runE, wantD, calleeV, execE, execD, panicV, infoE, infoD, orderP]
  simp [isPure]
end
theorem zE58 : ((zeroE Try.prog 58).map fun x => (x.2.1, Nat.ble x.2.2 1000)) = some (1, true) := by kernel_rfl
theorem zE65 : ((zeroE Try.prog 65).map fun x => (x.2.1, Nat.ble x.2.2 1000)) = some (2, true) := by kernel_rfl
theorem zE_of {e s : Nat} (h : ((zeroE Try.prog e).map fun x => (x.2.1, Nat.ble x.2.2 1000)) = some (s, true)) : ∃ z b, zeroE Try.prog e = some (z, s, b) ∧ b ≤ 1000 := by
  cases e1 : zeroE Try.prog e with
  | none => rw [e1] at h; cases h
  | some x =>
    obtain ⟨z, s', b⟩ := x
    rw [e1] at h
    simp only [Option.map_some, Option.some.injEq, Prod.mk.injEq] at h
    exact ⟨z, b, by rw [h.1], Nat.le_of_ble_eq_true h.2⟩
theorem ap_nil1 {t e s ty : Nat} (ht : Try.prog.underlying t = some (.slice e)) (hz : ((zeroE Try.prog e).map fun x => (x.2.1, Nat.ble x.2.2 1000)) = some (s, true)) (hu : isSliceT Try.prog t = true) {m : Mem} {q : Nat} {x : List V} (hm : m[q]? = some (.row ty s [x])) :
    appendA Try.prog t t .nils (.sl s q 0 1) m = some (.sl s m.length 0 1, m ++ [.row e s [x]]) := by
  obtain ⟨z, b, h1, h2⟩ := zE_of hz
  exact append_nil ht h1 hu (cont_row hm rfl) (by simp) (by simp only [List.length_cons, List.length_nil]; omega) (by simp only [List.length_cons, List.length_nil]; omega)
theorem ap_sl1 {t e s ty : Nat} (ht : Try.prog.underlying t = some (.slice e)) (hz : ((zeroE Try.prog e).map fun x => (x.2.1, Nat.ble x.2.2 1000)) = some (s, true)) (hu : isSliceT Try.prog t = true) {m : Mem} {n q : Nat} {es : List (List V)} {x : List V} (hm : m[q]? = some (.row ty s [x])) (hn : m[n]? = some (.row e s es)) (hl : es.length ≤ 200000) :
    appendA Try.prog t t (.sl s n 0 es.length) (.sl s q 0 1) m = some (.sl s m.length 0 (es.length + 1), m.set n .dead ++ [.row e s (es ++ [x])]) := by
  obtain ⟨z, b, h1, h2⟩ := zE_of hz
  have hb : (es.length + 1) * b ≤ 200001 * 1000 := Nat.mul_le_mul (by omega) h2
  have hc : contV m s (.sl s q 0 1) = some [x] := cont_row hm rfl
  have := append_sl (len := es.length) ht h1 hu hc hn rfl (by simp only [List.length_cons, List.length_nil, Nat.zero_add]; omega) (by simp only [List.length_cons, List.length_nil]; omega)
  rw [this]
  simp

/-- One element put behind a list that may be none. -/
theorem app_any {t e s : Nat} (ht : Try.prog.underlying t = some (.slice e)) (hz : ((zeroE Try.prog e).map fun x => (x.2.1, Nat.ble x.2.2 1000)) = some (s, true)) (hu : isSliceT Try.prog t = true) {mm : Mem} {q : Nat} {l : List (List V)} {v : V} (x : List V)
    (hv : (l = [] ∧ v = .nils) ∨ (l ≠ [] ∧ v = .sl s q 0 l.length ∧ mm[q]? = some (.row e s l))) (hl : l.length ≤ 200000) :
    ∃ mm', appendA Try.prog t t v (.sl s mm.length 0 1) (mm ++ [.row e s [x]]) = some (.sl s (mm.length + 1) 0 (l.length + 1), mm') ∧ mm'.length = mm.length + 2 ∧ mm'[mm.length + 1]? = some (.row e s (l ++ [x])) ∧
      ∀ k, k < mm.length → (k ≠ q ∨ l = []) → mm'[k]? = mm[k]? := by
  have hm : (mm ++ [B.row e s [x]])[mm.length]? = some (B.row e s [x]) := by simp
  rcases hv with ⟨rfl, rfl⟩ | ⟨hl0, rfl, hq⟩
  · refine ⟨mm ++ [.row e s [x]] ++ [.row e s [x]], ?_, by simp, ?_, fun k hk _ => ?_⟩
    · rw [ap_nil1 ht hz hu hm]
      simp
    · have : (mm ++ [B.row e s [x]]).length = mm.length + 1 := by simp
      rw [← this]
      simp
    · rw [List.append_assoc, List.getElem?_append_left hk]
  · have hqlt := (List.getElem?_eq_some_iff.1 hq).1
    have hn : (mm ++ [B.row e s [x]])[q]? = some (.row e s l) := by rw [List.getElem?_append_left hqlt]; exact hq
    refine ⟨(mm ++ [B.row e s [x]]).set q .dead ++ [.row e s (l ++ [x])], ?_, by simp, ?_, fun k hk hne => ?_⟩
    · rw [ap_sl1 ht hz hu hm hn hl]
      simp
    · have : ((mm ++ [B.row e s [x]]).set q .dead).length = mm.length + 1 := by simp
      rw [← this]
      simp
    · rw [List.getElem?_append_left (by simp; omega)]
      by_cases hkq : k = q
      · subst hkq
        rcases hne with h | h
        · exact absurd rfl h
        · exact absurd h hl0
      · rw [List.getElem?_set_ne (Ne.symm hkq), List.getElem?_append_left hk]
/-- The same, behind a list that may be none or empty. -/
theorem app_any2 {t e s : Nat} (ht : Try.prog.underlying t = some (.slice e)) (hz : ((zeroE Try.prog e).map fun x => (x.2.1, Nat.ble x.2.2 1000)) = some (s, true)) (hu : isSliceT Try.prog t = true) {mm : Mem} {q : Nat} {l : List (List V)} {v : V} {b : Bool} (x : List V)
    (hv : (b = true ∧ l = [] ∧ v = .nils) ∨ (b = false ∧ v = .sl s q 0 l.length ∧ mm[q]? = some (.row e s l))) (hl : l.length ≤ 200000) :
    ∃ mm', appendA Try.prog t t v (.sl s mm.length 0 1) (mm ++ [.row e s [x]]) = some (.sl s (mm.length + 1) 0 (l.length + 1), mm') ∧ mm'.length = mm.length + 2 ∧ mm'[mm.length + 1]? = some (.row e s (l ++ [x])) ∧
      ∀ k, k < mm.length → (k ≠ q ∨ b = true) → mm'[k]? = mm[k]? := by
  have hm : (mm ++ [B.row e s [x]])[mm.length]? = some (B.row e s [x]) := by simp
  rcases hv with ⟨rfl, rfl, rfl⟩ | ⟨rfl, rfl, hq⟩
  · obtain ⟨mm', h1, h2, h3, h4⟩ := app_any ht hz hu (mm := mm) (q := q) (l := []) x (.inl ⟨rfl, rfl⟩) (by simp)
    exact ⟨mm', h1, h2, h3, fun k hk _ => h4 k hk (.inr rfl)⟩
  · have hqlt := (List.getElem?_eq_some_iff.1 hq).1
    have hn : (mm ++ [B.row e s [x]])[q]? = some (.row e s l) := by rw [List.getElem?_append_left hqlt]; exact hq
    refine ⟨(mm ++ [B.row e s [x]]).set q .dead ++ [.row e s (l ++ [x])], ?_, by simp, ?_, fun k hk hne => ?_⟩
    · rw [ap_sl1 ht hz hu hm hn hl]
      simp
    · have : ((mm ++ [B.row e s [x]]).set q .dead).length = mm.length + 1 := by simp
      rw [← this]
      simp
    · rw [List.getElem?_append_left (by simp; omega)]
      rcases hne with hne | hne
      · rw [List.getElem?_set_ne (Ne.symm hne), List.getElem?_append_left hk]
      · cases hne
theorem or_r {a b : Bool} (h : b = true) : (a || b) = true := by rw [h, Bool.or_true]
theorem and_of {a b : Bool} (h : a = true) (h2 : b = true) : (a && b) = true := by rw [h, h2]; rfl
theorem snd21 {m : Mem} {q : Nat} {l : List (Int × Int)} (h : m[q]? = some (.row 65 2 (l.map inC))) (hl : l.length < 200001) :
    Snd Try.prog 21 [.sl 2 q 0 l.length, .fn 22 [] []] m fun r => r = .ret (.tup []) (m.set q (.row 65 2 ((ssort ltIn l).map inC))) := by
  have hq := (List.getElem?_eq_some_iff.1 h).1
  have hseg := seg_of l (0, 0)
  have s34 := snd34I hq (fun i => l.getD i (0, 0)) l.length (by unfold big; omega)
  rw [hseg, show RW m q 65 2 (l.map inC) = m from rw_id h] at s34
  have rs21 : ∀ env m, resV Try.prog Try.prog.funcs[21] env m = some (.tup []) := fun _ _ => rfl
  refine Snd_of_W fol rfl rfl (by kernel_rfl) (by kernel_rfl) ?_
  simp -implicitDefEqProofs only [sims.1, fx.1, keeps.1, tick_on, calleeK, extractV, oneV, faddrK, nonnil, b_shr, b_shl, fieldK, Nat.reduceAdd, Nat.reduceMul, Nat.reduceSub, Nat.reduceEqDiff, Nat.reduceLT, Nat.reduceLeDiff, Nat.reduceBEq, Nat.reduceBNe, reduceIte, Int.reduceEq, Int.reduceLT, Int.reduceLE, Int.reduceNe, Int.reduceToNat]
  refine callD_allQ s34 en34 ?_
  rintro r ⟨f', rfl, hf⟩
  refine ⟨_, _, rfl, ?_⟩
  simp -implicitDefEqProofs only [sims.1, fx.1, keeps.1, tick_on, calleeK, extractV, oneV, faddrK, nonnil, b_shr, b_shl, fieldK, Nat.reduceAdd, Nat.reduceMul, Nat.reduceSub, Nat.reduceEqDiff, Nat.reduceLT, Nat.reduceLeDiff, Nat.reduceBEq, Nat.reduceBNe, reduceIte, Int.reduceEq, Int.reduceLT, Int.reduceLE, Int.reduceNe, Int.reduceToNat, rs21]
  rw [hf]
  rfl
def addE (k : Nat → Nat) (n : Int × Int) (s' : Nat) (es : List Ent) : List Ent := match fndE k es 0 with
  | some (j, e) => es.set j ⟨k, ssort ltIn (e.ins ++ [n]), s'⟩
  | none => es ++ [⟨k, [n], s'⟩]
theorem nodup_set {a : Nat} : ∀ {l : List Nat} {j : Nat}, l.Nodup → a ∉ l → (l.set j a).Nodup
  | [], _, _, _ => by simp
  | x :: l, 0, h, ha => by
    simp only [List.nodup_cons, List.mem_cons, not_or, List.set_cons_zero] at h ha ⊢
    exact ⟨ha.2, h.2⟩
  | x :: l, j + 1, h, ha => by
    simp only [List.nodup_cons, List.mem_cons, not_or, List.set_cons_succ] at h ha ⊢
    refine ⟨fun hx => ?_, nodup_set h.2 ha.2⟩
    rcases List.mem_or_eq_of_mem_set hx with hx | hx
    · exact h.1 hx
    · exact ha.1 hx.symm
theorem addE_s {k : Nat → Nat} {n : Int × Int} {s' : Nat} {es : List Ent} : ((addE k n s' es).map (·.s)) = match fndE k es 0 with | some (j, _) => (es.map (·.s)).set j s' | none => es.map (·.s) ++ [s'] := by
  unfold addE
  cases fndE k es 0 with
  | none => simp
  | some x => simp [List.map_set]
theorem addE_mem {k : Nat → Nat} {n : Int × Int} {s' : Nat} {es : List Ent} {e : Ent} {l0 : List (Int × Int)} (hl : (l0 = [] ∧ fndE k es 0 = none) ∨ ∃ j y, fndE k es 0 = some (j, y) ∧ l0 = y.ins) (h : e ∈ addE k n s' es) :
    (e = ⟨k, ssort ltIn (l0 ++ [n]), s'⟩) ∨ (e ∈ es ∧ ∀ j y, fndE k es 0 = some (j, y) → ∃ i, i ≠ j ∧ es[i]? = some e) := by
  unfold addE at h
  rcases hl with ⟨rfl, hf⟩ | ⟨j, y, hf, rfl⟩
  · rw [hf] at h
    rcases List.mem_append.1 h with h | h
    · exact .inr ⟨h, fun j y hh => by rw [hf] at hh; cases hh⟩
    · rw [List.mem_singleton.1 h, List.nil_append, ssort_one]; exact .inl rfl
  · rw [hf] at h
    obtain ⟨i, hi⟩ := List.getElem?_of_mem h
    rw [List.getElem?_set] at hi
    by_cases hij : j = i
    · rw [if_pos hij] at hi
      split at hi
      · cases hi; exact .inl rfl
      · cases hi
    · rw [if_neg hij] at hi
      refine .inr ⟨List.mem_of_getElem? hi, fun j' y' hh => ?_⟩
      rw [hf] at hh
      cases hh
      exact ⟨i, fun e => hij e.symm, hi⟩
theorem put_addE {m : Mem} {n : Nat} {es : List Ent} {k : Nat → Nat} {l0 : List (Int × Int)} {s' : Nat} (x : Int × Int) (h : isMap m n (es.map enE)) (hk : U64 11 k) (hks : ∀ e ∈ es, U64 11 e.key) (hl : (l0 = [] ∧ fndE k es 0 = none) ∨ ∃ j y, fndE k es 0 = some (j, y) ∧ l0 = y.ins) :
    ∃ b, putV Try.prog 59 m (.mp n) (.agg (hC k)) (.sl 2 s' 0 (l0.length + 1)) = some (m.set n b) ∧ isMap (m.set n b) n ((addE k x s' es).map enE) := by
  rcases hl with ⟨rfl, hf⟩ | ⟨j, y, hf, rfl⟩
  · obtain ⟨b, h1, h2⟩ := put_new (.sl 2 s' 0 1) h hk hks hf
    refine ⟨b, h1, ?_⟩
    simp only [addE, hf, List.map_append, List.map_cons, List.map_nil]
    exact h2
  · obtain ⟨b, h1, h2⟩ := put_old (.sl 2 s' 0 (y.ins.length + 1)) h hk hks hf
    refine ⟨b, h1, ?_⟩
    simp only [addE, hf, List.map_set]
    have : enE ⟨k, ssort ltIn (y.ins ++ [x]), s'⟩ = (.agg (hC k), .sl 2 s' 0 (y.ins.length + 1)) := by simp [enE, ssort_len]
    rw [this]
    exact h2
theorem cutIf {P : Program} {t : Bool} {K0 : Nat} {R : List Nat} {a b : Code} {E : Nat → List Nat} {L : List Nat} {env : Env} {m : Mem} {Q : Ex → Env → Mem → Prop} (C : Env → Mem → Prop) (hnext : ∀ e m, C e m → Q .nrm e m)
    (ha : t = true → W P K0 R a E L env m (seqQ C Q)) (hb : t = false → W P K0 R b E L env m (seqQ C Q)) : testP t (W P K0 R a E L env m Q) (W P K0 R b E L env m Q) := by
  have hq : ∀ ex e m, seqQ C Q ex e m → Q ex e m := by
    intro ex e m h
    cases ex with
    | nrm => exact hnext e m h
    | _ => exact h
  exact ⟨fun h => W_mono _ _ _ _ _ _ _ hq (ha h), fun h => W_mono _ _ _ _ _ _ _ hq (hb h)⟩
theorem fndR_cases {k : Nat → Nat} : ∀ {l : List Rw} {i : Nat}, (fndR k l i = -1 ∧ ∀ x ∈ l, eqH x.mask k = false) ∨ ∃ j x, fndR k l i = ((i + j : Nat) : Int) ∧ l[j]? = some x ∧ eqH x.mask k = true
  | [], i => .inl ⟨rfl, fun _ h => by simp at h⟩
  | y :: r, i => by
    cases e : eqH y.mask k with
    | true => exact .inr ⟨0, y, by simp only [fndR, e, cond_true]; rfl, rfl, e⟩
    | false =>
      rcases fndR_cases (k := k) (l := r) (i := i + 1) with ⟨h1, h2⟩ | ⟨j, x, h1, h2, h3⟩
      · refine .inl ⟨by simp only [fndR, e, cond_false, h1], fun x hx => ?_⟩
        rcases List.mem_cons.1 hx with rfl | hx
        · exact e
        · exact h2 x hx
      · refine .inr ⟨j + 1, x, ?_, by simpa using h2, h3⟩
        simp only [fndR, e, cond_false, h1]
        congr 1
        omega
/-- What an added rule's row is: there already, or new. -/
def Base (T : Tbl) (r : Ru) (rows : List Rw) (i : Nat) (x : Rw) : Prop :=
  rows[i]? = some x ∧ ((rows = T.rows ∧ eqH x.mask (ruM r) = true) ∨ ((∀ y ∈ T.rows, eqH y.mask (ruM r) = false) ∧ rows = T.rows ++ [x] ∧ i = T.rows.length ∧ x.mask = ruM r ∧ x.g = r.rank ∧ x.many = 0 ∧ x.es = []))
/-- A table with one more rule. -/
def Added (T : Tbl) (r : Ru) (T' : Tbl) : Prop := ∃ rows i x s', Base T r rows i x ∧
  T'.rows = ssort ltR (rows.set i { x with g := if r.rank > x.g then r.rank else x.g, many := x.many + 1, es := addE r.w (T.last + 1, r.rank) s' x.es }) ∧
  T'.at_ = T.at_ ++ [(T.last + 1, .agg (ruC { r with cp := .nils }))] ∧ T'.last = T.last + 1
/-- What holds where the row is found. -/
def CA (m : Mem) (p : Nat) (T : Tbl) (r : Ru) (e : Env) (mm : Mem) : Prop :=
  e 0 = .ptr p 0 ∧ e 3 = .ptr m.length 0 ∧ ∃ (T4 : Tbl) (i : Nat) (x : Rw), e 7 = .int .i64 (i : Int) ∧ TB mm p T4 ∧ Base T r T4.rows i x ∧ T4.at_ = T.at_ ++ [(T.last + 1, .agg (ruC { r with cp := .nils }))] ∧ T4.last = T.last + 1 ∧
    mm[m.length]? = some (.var 32 (ruC { r with cp := .nils })) ∧ m.length ∉ posT p T4 ∧ (∀ k ∈ posT p T4, k ∈ posT p T ∨ m.length < k) ∧ m.length < mm.length ∧ ∀ k, k < m.length → k ∉ posT p T → mm[k]? = m[k]?
structure TOk (T : Tbl) : Prop where
  masks : ∀ x ∈ T.rows, U64 11 x.mask
  keys : ∀ x ∈ T.rows, ∀ e ∈ x.es, U64 11 e.key
  num : T.rows.length < 100000
  nums : ∀ x ∈ T.rows, ∀ e ∈ x.es, e.ins.length < 100000
  many : ∀ x ∈ T.rows, 0 ≤ x.many ∧ x.many < 1000000
  last : 0 ≤ T.last ∧ T.last < 1000000
  ids : ∀ x ∈ T.at_, x.1 ≤ T.last
set_option maxHeartbeats 8000000 in
theorem snd8 {m : Mem} {p : Nat} {T : Tbl} {r : Ru} (h : TB m p T) (ok : TOk T) (hr : U64 22 r.w) (hc : chk r.w = true) (hroom : T.at_.length < 1024) :
    Snd Try.prog 8 [.ptr p 0, .agg (ruC r)] m fun q => ∃ m' T', q = .ret (.tup [.int .i64 (T.last + 1), .int .i64 0]) m' ∧ TB m' p T' ∧ Added T r T' ∧ Keep m m' (posT p T) ∧ ∀ k ∈ posT p T', k ∈ posT p T ∨ m.length ≤ k := by
  refine Snd_of_W fol rfl rfl (by kernel_rfl) (by kernel_rfl) ?_
  have pe26 : ∀ (n o : Nat) (env : Env), binV Try.prog .eql 26 (.ptr n o) (evO env (.const (.pointer none))) = some (.bool false) := fun _ _ _ => rfl
  have pM : partK true 22 (ruC r) 1 = some (mv r.w) := rfl
  have a18 : Ans Try.prog 18 [mv r.w] (.int .i64 0) := by
    have := ans18 r.w hr
    rwa [hc] at this
  have tc : ∀ T, (tbC T)[0]? = some (rowsV T) ∧ (tbC T)[1]? = some (.mp T.a) ∧ (tbC T)[2]? = some (.int .i64 T.last) := fun _ => ⟨rfl, rfl, rfl⟩
  have tl : ∀ T, (tbC T).length = 3 := fun _ => rfl
  have ts : ∀ T (l : Int), (tbC T).set 2 (.int .i64 l) = tbC { T with last := l } := fun _ _ => rfl
  have hlt := h.lt
  have hB : (m ++ [B.var 32 (ruC r)])[m.length]? = some (B.var 32 (ruC r)) := by simp
  have h0 := h.app [B.var 32 (ruC r)]
  have hBn : m.length ∉ posT p T := fun e => Nat.lt_irrefl _ (hlt _ e)
  have hl0 : (m ++ [B.var 32 (ruC r)]).length = m.length + 1 := by simp
  have hk0 : ∀ k, k < m.length → (m ++ [B.var 32 (ruC r)])[k]? = m[k]? := fun k hk => List.getElem?_append_left hk
  simp -implicitDefEqProofs only [sims.1, fx.1, keeps.1, tick_on, calleeK, extractV, oneV, faddrK, nonnil, b_shr, b_shl, fieldK, Nat.reduceAdd, Nat.reduceMul, Nat.reduceSub, Nat.reduceEqDiff, Nat.reduceLT, Nat.reduceLeDiff, Nat.reduceBEq, Nat.reduceBNe, reduceIte, Int.reduceEq, Int.reduceLT, Int.reduceLE, Int.reduceNe, Int.reduceToNat, pe26]
  generalize m ++ [B.var 32 (ruC r)] = m0 at hB h0 hl0 hk0 ⊢
  generalize hbx : m.length = bx at hB hBn hl0 hk0 hlt ⊢
  simp -implicitDefEqProofs only [sims.1, fx.1, keeps.1, tick_on, calleeK, extractV, oneV, faddrK, nonnil, b_shr, b_shl, fieldK, Nat.reduceAdd, Nat.reduceMul, Nat.reduceSub, Nat.reduceEqDiff, Nat.reduceLT, Nat.reduceLeDiff, Nat.reduceBEq, Nat.reduceBNe, reduceIte, Int.reduceEq, Int.reduceLT, Int.reduceLE, Int.reduceNe, Int.reduceToNat, hB, pM]
  refine callD_ans a18 en18 (by simp only [nfs, nf, mv, nfs_cl, Bool.and_self]) rfl ?_
  have e0 : decide ((0 : Int) = 0) = true := rfl
  have hlen := len_at h0.ta
  rw [List.length_map] at hlen
  have hrm : decide ((1024 : Int) ≤ (T.at_.length : Int)) = false := by simp; omega
  have hw : IntKind.i64.wrap (T.last + 1) = T.last + 1 := by
    have := ok.last
    simp [IntKind.wrap, IntKind.bits, IntKind.signed]
    omega
  simp -implicitDefEqProofs only [sims.1, fx.1, keeps.1, tick_on, calleeK, extractV, oneV, faddrK, nonnil, b_shr, b_shl, fieldK, Nat.reduceAdd, Nat.reduceMul, Nat.reduceSub, Nat.reduceEqDiff, Nat.reduceLT, Nat.reduceLeDiff, Nat.reduceBEq, Nat.reduceBNe, reduceIte, Int.reduceEq, Int.reduceLT, Int.reduceLE, Int.reduceNe, Int.reduceToNat, e0, h0.tp, (tc _).1, (tc _).2.1, (tc _).2.2, hlen, hrm, hw, tl, ts]
  have h1 := h0.last (T.last + 1)
  have hpb : p ≠ bx := fun e => hBn (by rw [← e]; simp [posT])
  have hB1 : (List.set m0 p (B.var 55 (tbC { T with last := T.last + 1 })))[bx]? = some (B.var 32 (ruC r)) := by rw [List.getElem?_set_ne hpb]; exact hB
  have hl1 : (List.set m0 p (B.var 55 (tbC { T with last := T.last + 1 }))).length = bx + 1 := by rw [List.length_set]; exact hl0
  have hk1 : ∀ k, k < bx → k ∉ posT p T → (List.set m0 p (B.var 55 (tbC { T with last := T.last + 1 })))[k]? = m[k]? := fun k hk hn => by
    rw [List.getElem?_set_ne (fun e => hn (by rw [← e]; simp [posT]))]
    exact hk0 k hk
  have ok1 : TOk { T with last := T.last + 1 } → True := fun _ => trivial
  have hids : ∀ x ∈ T.at_, x.1 ≠ T.last + 1 := fun x hx => by have := ok.ids x hx; omega
  generalize List.set m0 p (B.var 55 (tbC { T with last := T.last + 1 })) = m1 at h1 hB1 hl1 hk1 ⊢
  have evn : ∀ env, evO env (.const (.slice none 0 0)) = .nils := fun _ => rfl
  have hst : storeK 1 m1 (.ptr bx 23) .nils = some (m1.set bx (.var 32 (ruC { r with cp := .nils }))) := by
    rw [storeK_one rfl, hB1]
    rfl
  have h2 := h1.set (k := bx) hBn (.var 32 (ruC { r with cp := .nils }))
  have hbl : bx < m1.length := by omega
  have hB2 : (m1.set bx (.var 32 (ruC { r with cp := .nils })))[bx]? = some (.var 32 (ruC { r with cp := .nils })) := by simp [hbl]
  have hl2 : (m1.set bx (.var 32 (ruC { r with cp := .nils }))).length = bx + 1 := by rw [List.length_set]; exact hl1
  have hk2 : ∀ k, k < bx → k ∉ posT p T → (m1.set bx (.var 32 (ruC { r with cp := .nils })))[k]? = m[k]? := fun k hk hn => by
    rw [List.getElem?_set_ne (by omega)]
    exact hk1 k hk hn
  simp -implicitDefEqProofs only [sims.1, fx.1, keeps.1, tick_on, calleeK, extractV, oneV, faddrK, nonnil, b_shr, b_shl, fieldK, Nat.reduceAdd, Nat.reduceMul, Nat.reduceSub, Nat.reduceEqDiff, Nat.reduceLT, Nat.reduceLeDiff, Nat.reduceBEq, Nat.reduceBNe, reduceIte, Int.reduceEq, Int.reduceLT, Int.reduceLE, Int.reduceNe, Int.reduceToNat, evn, hst]
  generalize m1.set bx (.var 32 (ruC { r with cp := .nils })) = m2 at h2 hB2 hl2 hk2 ⊢
  refine w_noisy ?_
  have pR : partK true 25 (ruC { r with cp := .nils }) 0 = some (.agg (ruC { r with cp := .nils })) := rfl
  obtain ⟨b3, hput, h3m⟩ := put_at (.agg (ruC { r with cp := .nils })) h2.ta hids
  simp -implicitDefEqProofs only [sims.1, fx.1, keeps.1, tick_on, calleeK, extractV, oneV, faddrK, nonnil, b_shr, b_shl, fieldK, Nat.reduceAdd, Nat.reduceMul, Nat.reduceSub, Nat.reduceEqDiff, Nat.reduceLT, Nat.reduceLeDiff, Nat.reduceBEq, Nat.reduceBNe, reduceIte, Int.reduceEq, Int.reduceLT, Int.reduceLE, Int.reduceNe, Int.reduceToNat, h2.tp, hB2, (tc _).1, (tc _).2.1, (tc _).2.2, pR, hput]
  have hpl : p < m2.length := h2.lt _ (by simp [posT])
  have hal : T.a < m2.length := h2.lt _ (by simp [posT])
  have hbl2 : bx < m2.length := by omega
  iterate 8
    first
    | (refine orderP_of (accB_lt (by intro n hn; first | (simp [nms, mnm] at hn; done) | (simp [nms, mnm] at hn; omega)) (by kernel_rfl)) ?_
       simp -implicitDefEqProofs only [sims.1, fx.1, keeps.1, tick_on, calleeK, extractV, oneV, faddrK, nonnil, b_shr, b_shl, fieldK, Nat.reduceAdd, Nat.reduceMul, Nat.reduceSub, Nat.reduceEqDiff, Nat.reduceLT, Nat.reduceLeDiff, Nat.reduceBEq, Nat.reduceBNe, reduceIte, Int.reduceEq, Int.reduceLT, Int.reduceLE, Int.reduceNe, Int.reduceToNat, h2.tp, hB2, (tc _).1, (tc _).2.1, (tc _).2.2, pR, hput])
    | skip
  have h3 := h2.at (l := T.at_ ++ [(T.last + 1, .agg (ruC { r with cp := .nils }))]) h3m
  have hab : T.a ≠ bx := fun e => hBn (by rw [← e]; simp [posT])
  have hB3 : (m2.set T.a b3)[bx]? = some (.var 32 (ruC { r with cp := .nils })) := by rw [List.getElem?_set_ne hab]; exact hB2
  have hl3 : (m2.set T.a b3).length = bx + 1 := by rw [List.length_set]; exact hl2
  have hk3 : ∀ k, k < bx → k ∉ posT p T → (m2.set T.a b3)[k]? = m[k]? := fun k hk hn => by
    rw [List.getElem?_set_ne (fun e => hn (by rw [← e]; simp [posT]))]
    exact hk2 k hk hn
  simp only at h3
  generalize m2.set T.a b3 = m3 at h3 hB3 hl3 hk3 ⊢
  have s19 := snd19 (r := { r with cp := .nils }) h3 hB3 ok.masks hr (by have := ok.num; simp only; omega)
  have rvT : rowsV { rows := T.rows, at_ := T.at_ ++ [(T.last + 1, V.agg (ruC { r with cp := .nils }))], last := T.last + 1, a := T.a, q := T.q, nil := T.nil } = rowsV T := rfl
  have rM : ruM { r with cp := .nils } = ruM r := rfl
  simp only [rvT, rM] at s19
  simp -implicitDefEqProofs only [sims.1, fx.1, keeps.1, tick_on, calleeK, extractV, oneV, faddrK, nonnil, b_shr, b_shl, fieldK, Nat.reduceAdd, Nat.reduceMul, Nat.reduceSub, Nat.reduceEqDiff, Nat.reduceLT, Nat.reduceLeDiff, Nat.reduceBEq, Nat.reduceBNe, reduceIte, Int.reduceEq, Int.reduceLT, Int.reduceLE, Int.reduceNe, Int.reduceToNat, h3.tp, (tc _).1, rvT]
  refine callD_all s19 en19 ?_
  simp -implicitDefEqProofs only [sims.1, fx.1, keeps.1, tick_on, calleeK, extractV, oneV, faddrK, nonnil, b_shr, b_shl, fieldK, Nat.reduceAdd, Nat.reduceMul, Nat.reduceSub, Nat.reduceEqDiff, Nat.reduceLT, Nat.reduceLeDiff, Nat.reduceBEq, Nat.reduceBNe, reduceIte, Int.reduceEq, Int.reduceLT, Int.reduceLE, Int.reduceNe, Int.reduceToNat]
  refine cutIf (CA m p T r) ?_ (fun t => ?_) (fun t => ?_)
  rotate_left
  · have hm1 : fndR (ruM r) T.rows 0 = -1 ∧ ∀ x ∈ T.rows, eqH x.mask (ruM r) = false := by
      rcases fndR_cases (k := ruM r) (l := T.rows) (i := 0) with hh | ⟨j, x, h5, _⟩
      · exact hh
      · rw [h5] at t
        simp at t
        omega
    have lv := h.lenR m3
    simp -implicitDefEqProofs only [sims.1, fx.1, keeps.1, tick_on, calleeK, extractV, oneV, faddrK, nonnil, b_shr, b_shl, fieldK, Nat.reduceAdd, Nat.reduceMul, Nat.reduceSub, Nat.reduceEqDiff, Nat.reduceLT, Nat.reduceLeDiff, Nat.reduceBEq, Nat.reduceBNe, reduceIte, Int.reduceEq, Int.reduceLT, Int.reduceLE, Int.reduceNe, Int.reduceToNat, h3.tp, (tc _).1, rvT, lv]
    refine w_noisy ?_
    have hpl3 : p < m3.length := h3.lt _ (by simp [posT])
    have hbl3 : bx < m3.length := by omega
    have pMk : partK true 11 (ruC { r with cp := .nils }) 12 = some (.agg (hC (ruM r))) := rfl
    have pRk : (ruC { r with cp := .nils })[0]? = some (.int .i64 r.rank) := rfl
    have b61 : ∀ n : Nat, buildV Try.prog 61 [(0, .agg (hC (ruM r))), (1, .mp n), (2, .int .i64 r.rank)] = some (.agg (hC (ruM r) ++ [.mp n, .int .i64 r.rank, .int .i64 0])) := fun n => by kernel_rfl
    have bs53 : ∀ (mm : Mem) (n : Nat), bsliceV Try.prog 53 1 [(0, .ptr n 0)] mm = some (.sl 1 mm.length 0 1, mm ++ [.row 58 1 [[.ptr n 0]]]) := fun mm n => by kernel_rfl
    have hB4 : (m3 ++ [B.map [] [] 0])[bx]? = some (.var 32 (ruC { r with cp := .nils })) := by rw [List.getElem?_append_left hbl3]; exact hB3
    obtain ⟨m5, happ, hl5, hq5, hk5⟩ := app_any2 (t := 53) (e := 58) (s := 1) (by kernel_rfl) zE58 (by kernel_rfl) (b := T.nil) (mm := m3 ++ [.map [] [] 0] ++ [.var 61 (hC (ruM r) ++ [.mp m3.length, .int .i64 r.rank, .int .i64 0])]) (q := T.q) (l := T.rows.map fun x => [V.ptr x.r 0]) (v := rowsV T) [.ptr (m3 ++ [B.map [] [] 0]).length 0] (by
      cases e : T.nil with
      | true => exact .inl ⟨rfl, by rw [h.tn e]; rfl, by unfold rowsV; rw [e]; rfl⟩
      | false =>
        have hq3 := h3.tq e
        refine .inr ⟨rfl, by rw [rowsV_nn e, List.length_map], ?_⟩
        have hq3l := (List.getElem?_eq_some_iff.1 hq3).1
        simp only at hq3l
        rw [List.getElem?_append_left (by simp; omega), List.getElem?_append_left hq3l]
        exact hq3) (by rw [List.length_map]; have := ok.num; omega)
    rw [List.length_map] at happ
    have hp5 : m5[p]? = some (.var 55 (tbC { rows := T.rows, at_ := T.at_ ++ [(T.last + 1, V.agg (ruC { r with cp := .nils }))], last := T.last + 1, a := T.a, q := T.q, nil := T.nil })) := by
      rw [hk5 p (by simp; omega) ?_, List.getElem?_append_left (by simp; omega), List.getElem?_append_left hpl3]
      · exact h3.tp
      · cases e : T.nil with
        | true => exact .inr rfl
        | false => exact .inl (posT_pq h e).1
    have hpl5 : p < m5.length := (List.getElem?_eq_some_iff.1 hp5).1
    have wN : IntKind.i64.wrap ((T.rows.length : Int)) = (T.rows.length : Int) := by have := ok.num; simp [IntKind.wrap, IntKind.bits, IntKind.signed]; omega
    have hst5 : ∀ Q n : Nat, storeK 1 m5 (.ptr p 0) (.sl 1 Q 0 n) = some (m5.set p (.var 55 [.sl 1 Q 0 n, .mp T.a, .int .i64 (T.last + 1)])) := fun Q n => by
      rw [storeK_one rfl, hp5]
      rfl
    have hrvb : ∀ n ∈ nms (rowsV T), n < m3.length := fun n hn => by
      cases e : T.nil with
      | true => unfold rowsV at hn; rw [e] at hn; simp [nms] at hn
      | false =>
        rw [rowsV_nn e] at hn
        simp [nms] at hn
        have := (List.getElem?_eq_some_iff.1 (h3.tq e)).1
        simp only at this
        omega
    have hind : indep ⟨[], [], true⟩ m3.length ⟨nms (.ptr bx 0), [], false⟩ = true := by simp [indep, disj, nms]; omega
    simp -implicitDefEqProofs only [sims.1, fx.1, keeps.1, tick_on, calleeK, extractV, oneV, faddrK, nonnil, b_shr, b_shl, fieldK, Nat.reduceAdd, Nat.reduceMul, Nat.reduceSub, Nat.reduceEqDiff, Nat.reduceLT, Nat.reduceLeDiff, Nat.reduceBEq, Nat.reduceBNe, reduceIte, Int.reduceEq, Int.reduceLT, Int.reduceLE, Int.reduceNe, Int.reduceToNat, h3.tp, hB3, (tc _).1, rvT, pMk, pRk, e_makeMap, hB4, b61, bs53, happ, hst5]
    iterate 14
      first
      | (refine orderP_of (accB_lt (by intro n hn; first | (simp [nms, mnm] at hn; done) | (simp [nms, mnm] at hn ⊢; omega) | (simp [nms, mnm] at hn; omega)) (and_of (or_r hind) (by kernel_rfl))) ?_
         simp -implicitDefEqProofs only [sims.1, fx.1, keeps.1, tick_on, calleeK, extractV, oneV, faddrK, nonnil, b_shr, b_shl, fieldK, Nat.reduceAdd, Nat.reduceMul, Nat.reduceSub, Nat.reduceEqDiff, Nat.reduceLT, Nat.reduceLeDiff, Nat.reduceBEq, Nat.reduceBNe, reduceIte, Int.reduceEq, Int.reduceLT, Int.reduceLE, Int.reduceNe, Int.reduceToNat, h3.tp, hB3, (tc _).1, rvT, pMk, pRk, e_makeMap, hB4, b61, bs53, happ, hst5])
      | (refine orderP_of (accB_lt (by intro n hn; first | (simp [nms, mnm] at hn; done) | (simp [nms, mnm] at hn ⊢; omega) | (simp [nms, mnm] at hn; omega)) (by kernel_rfl)) ?_
         simp -implicitDefEqProofs only [sims.1, fx.1, keeps.1, tick_on, calleeK, extractV, oneV, faddrK, nonnil, b_shr, b_shl, fieldK, Nat.reduceAdd, Nat.reduceMul, Nat.reduceSub, Nat.reduceEqDiff, Nat.reduceLT, Nat.reduceLeDiff, Nat.reduceBEq, Nat.reduceBNe, reduceIte, Int.reduceEq, Int.reduceLT, Int.reduceLE, Int.reduceNe, Int.reduceToNat, h3.tp, hB3, (tc _).1, rvT, pMk, pRk, e_makeMap, hB4, b61, bs53, happ, hst5])
      | (refine orderP_of (and_of rfl (accB_lt (by intro n hn; first | (simp [nms, mnm] at hn; done) | (simp [nms, mnm] at hn ⊢; omega) | (simp [nms, mnm] at hn; omega)) (by kernel_rfl))) ?_
         simp -implicitDefEqProofs only [sims.1, fx.1, keeps.1, tick_on, calleeK, extractV, oneV, faddrK, nonnil, b_shr, b_shl, fieldK, Nat.reduceAdd, Nat.reduceMul, Nat.reduceSub, Nat.reduceEqDiff, Nat.reduceLT, Nat.reduceLeDiff, Nat.reduceBEq, Nat.reduceBNe, reduceIte, Int.reduceEq, Int.reduceLT, Int.reduceLE, Int.reduceNe, Int.reduceToNat, h3.tp, hB3, (tc _).1, rvT, pMk, pRk, e_makeMap, hB4, b61, bs53, happ, hst5])
      | (refine orderP_of (accB_lt (by
           intro n hn
           rcases List.mem_append.1 hn with hn | hn
           · simp [nms] at hn ⊢; omega
           · have := hrvb n hn; simp; omega) (by kernel_rfl)) ?_
         simp -implicitDefEqProofs only [sims.1, fx.1, keeps.1, tick_on, calleeK, extractV, oneV, faddrK, nonnil, b_shr, b_shl, fieldK, Nat.reduceAdd, Nat.reduceMul, Nat.reduceSub, Nat.reduceEqDiff, Nat.reduceLT, Nat.reduceLeDiff, Nat.reduceBEq, Nat.reduceBNe, reduceIte, Int.reduceEq, Int.reduceLT, Int.reduceLE, Int.reduceNe, Int.reduceToNat, h3.tp, hB3, (tc _).1, rvT, pMk, pRk, e_makeMap, hB4, b61, bs53, happ, hst5])
      | skip
    obtain ⟨nr, hnr⟩ : ∃ nr, nr = (m3 ++ [B.map [] [] 0]).length := ⟨_, rfl⟩
    have hnr1 : nr = m3.length + 1 := by rw [hnr]; simp
    have hml : (m3 ++ [B.map [] [] 0] ++ [B.var 61 (hC (ruM r) ++ [V.mp m3.length, V.int IntKind.i64 r.rank, V.int IntKind.i64 0])]).length = m3.length + 2 := by simp
    rw [hml] at hl5 hq5 hk5
    simp only [hml, ← hnr] at hq5 ⊢
    have hTq : ∀ k, (k < m3.length → (k ≠ T.q ∨ T.nil = true)) → k < m3.length + 2 → (k ≠ T.q ∨ T.nil = true) := fun k hk1 hk2 => by
      cases e : T.nil with
      | true => exact .inr rfl
      | false =>
        have hqq := (List.getElem?_eq_some_iff.1 (h3.tq e)).1
        simp only at hqq
        rcases Nat.lt_or_ge k m3.length with hk3 | hk3
        · rcases hk1 hk3 with hh | hh
          · exact .inl hh
          · rw [e] at hh; cases hh
        · exact .inl (by omega)
    have rv4 : rowsV { rows := T.rows ++ [⟨ruM r, r.rank, 0, [], nr, m3.length⟩], at_ := T.at_ ++ [(T.last + 1, V.agg (ruC { r with cp := .nils }))], last := T.last + 1, a := T.a, q := m3.length + 2 + 1, nil := false } = .sl 1 (m3.length + 2 + 1) 0 (T.rows.length + 1) := by
      simp [rowsV]
    have hgrow : TB (m5.set p (.var 55 [.sl 1 (m3.length + 2 + 1) 0 (T.rows.length + 1), .mp T.a, .int .i64 (T.last + 1)])) p { rows := T.rows ++ [⟨ruM r, r.rank, 0, [], nr, m3.length⟩], at_ := T.at_ ++ [(T.last + 1, V.agg (ruC { r with cp := .nils }))], last := T.last + 1, a := T.a, q := m3.length + 2 + 1, nil := false } := by
      refine h3.grow (x := ⟨ruM r, r.rank, 0, [], nr, m3.length⟩) (q := m3.length + 2 + 1) (by omega) (by simp only; omega) (by simp only; omega) (by simp only; omega) (by simp only; omega) (by simp only; omega) rfl ?_ ?_ ?_ ?_
      · rw [List.getElem?_set_self hpl5]
        simp only [tbC, rv4]
      · rw [List.getElem?_set_ne (by omega), hq5]
        simp
      · refine ⟨?_, ⟨[], 0, ?_, rfl, List.nodup_nil, fun _ hh => (by simp at hh)⟩, fun _ hh => (by simp at hh), fun _ hh => (by simp at hh)⟩
        · rw [List.getElem?_set_ne (by simp only; omega), hk5 _ (by simp only; omega) (hTq _ (fun hh => by simp only at hh; omega) (by simp only; omega))]
          simp only [hnr]
          exact List.getElem?_concat_length
        · rw [List.getElem?_set_ne (by simp only; omega), hk5 _ (by simp only; omega) (hTq _ (fun hh => by simp only at hh; omega) (by simp only; omega)), List.getElem?_append_left (by simp)]
          exact List.getElem?_concat_length
      · intro k hk hkp hkq
        have hkl := h3.lt k hk
        rw [List.getElem?_set_ne (Ne.symm hkp), hk5 k (by omega) (hTq k (fun _ => hkq) (by omega)), List.getElem?_append_left (by simp; omega), List.getElem?_append_left hkl]
    have hbq : bx < m3.length → bx ≠ T.q ∨ T.nil = true := fun _ => by
      cases e : T.nil with
      | true => exact .inr rfl
      | false => exact .inl fun ee => hBn (by rw [ee]; exact posT_q e)
    refine ⟨rfl, by rw [hbx]; rfl, _, T.rows.length, ⟨ruM r, r.rank, 0, [], nr, m3.length⟩, rfl, hgrow, ⟨by simp, .inr ⟨hm1.2, rfl, rfl, rfl, rfl, rfl, rfl⟩⟩, rfl, rfl, ?_, ?_, ?_, ?_, ?_⟩
    · rw [hbx, List.getElem?_set_ne hpb, hk5 bx (by omega) (hTq bx hbq (by omega)), List.getElem?_append_left (by simp; omega), List.getElem?_append_left hbl3]
      exact hB3
    · rw [hbx]
      intro hh
      rcases posT_grow (T := { rows := T.rows, at_ := T.at_ ++ [(T.last + 1, V.agg (ruC { r with cp := .nils }))], last := T.last + 1, a := T.a, q := T.q, nil := T.nil }) hh with hh | hh | hh
      · exact hBn hh
      · omega
      · simp [posR] at hh; omega
    · intro k hk
      rw [hbx]
      rcases posT_grow (T := { rows := T.rows, at_ := T.at_ ++ [(T.last + 1, V.agg (ruC { r with cp := .nils }))], last := T.last + 1, a := T.a, q := T.q, nil := T.nil }) hk with hh | hh | hh
      · exact .inl hh
      · exact .inr (by omega)
      · simp [posR] at hh; exact .inr (by omega)
    · rw [hbx, List.length_set]; omega
    · intro k hk hn
      rw [hbx] at hk
      have hkp : p ≠ k := fun e => hn (by rw [← e]; simp [posT])
      rw [List.getElem?_set_ne hkp, hk5 k (by omega) (hTq k (fun _ => by
        cases e : T.nil with
        | true => exact .inr rfl
        | false => exact .inl fun ee => hn (by rw [ee]; exact posT_q e)) (by omega)), List.getElem?_append_left (by simp; omega), List.getElem?_append_left (by omega)]
      exact hk3 k hk hn
  · obtain ⟨j, x, h5, h6, h7⟩ : ∃ j x, fndR (ruM r) T.rows 0 = ((0 + j : Nat) : Int) ∧ T.rows[j]? = some x ∧ eqH x.mask (ruM r) = true := by
      rcases fndR_cases (k := ruM r) (l := T.rows) (i := 0) with ⟨hh, _⟩ | hh
      · rw [hh] at t
        simp at t
      · exact hh
    simp -implicitDefEqProofs only [sims.1, fx.1, keeps.1, tick_on, calleeK, extractV, oneV, faddrK, nonnil, b_shr, b_shl, fieldK, Nat.reduceAdd, Nat.reduceMul, Nat.reduceSub, Nat.reduceEqDiff, Nat.reduceLT, Nat.reduceLeDiff, Nat.reduceBEq, Nat.reduceBNe, reduceIte, Int.reduceEq, Int.reduceLT, Int.reduceLE, Int.reduceNe, Int.reduceToNat]
    refine ⟨rfl, by rw [hbx]; rfl, _, j, x, ?_, h3, ⟨h6, .inl ⟨rfl, h7⟩⟩, rfl, rfl, by rw [hbx]; exact hB3, by rw [hbx]; exact hBn, fun k hk => .inl hk, by rw [hbx, hl3]; omega, fun k hk hn => hk3 k (by omega) hn⟩
    show _ = _
    rw [h5, Nat.zero_add]
    rfl
  · rintro e mm ⟨e0, e3, T4, i, x, e7, hT, hb, hat, hlast, hbox, hbn, hpos, hbl, hkeep⟩
    rw [hbx] at e3 hbox hbn hpos hbl hkeep
    have hxm : x ∈ T4.rows := List.mem_of_getElem? hb.1
    have hx := hT.tr x hxm
    have hne4 : T4.rows ≠ [] := List.ne_nil_of_mem hxm
    have hi4 : i < T4.rows.length := (List.getElem?_eq_some_iff.1 hb.1).1
    have hnn4 := hT.nn hne4
    have rv4 := hT.rv hne4
    have hkey : ∀ y ∈ x.es, U64 11 y.key := by
      rcases hb.2 with ⟨h4, _⟩ | ⟨_, _, _, _, _, _, h4⟩
      · exact ok.keys x (by rw [← h4]; exact hxm)
      · rw [h4]; intro y hy; cases hy
    have i1 : ∀ {kk : IntKind}, iaddrS 1 (.sl 1 T4.q 0 T4.rows.length) (.int kk (i : Int)) = some (.ep 1 T4.q i 0) := fun {_} => by rw [iaddrS_sl hi4, Nat.zero_add]
    have l1 : loadK false 1 mm (.ep 1 T4.q i 0) = some (.ptr x.r 0) := by
      rw [loadK_ep, hT.tq hnn4]
      have : (T4.rows.map fun x => [V.ptr x.r 0])[i]? = some [V.ptr x.r 0] := by rw [List.getElem?_map, hb.1]; rfl
      simp only [Option.bind_some, if_true, this]
      rfl
    have w11 : ∀ y, (rwC y)[11]? = some (.mp y.mp) := fun _ => rfl
    have pV : partK true 11 (ruC { r with cp := .nils }) 1 = some (.agg (hC r.w)) := rfl
    have pK : (ruC { r with cp := .nils })[0]? = some (.int .i64 r.rank) := rfl
    have hkw : U64 11 r.w := fun i hi => hr i (by omega)
    have hlk := look_es hx.mp hkw hkey
    have b65 : ∀ a b : Int, buildV Try.prog 65 [(0, .int .i64 a), (1, .int .i64 b)] = some (inA (a, b)) := fun a b => by kernel_rfl
    have bs63 : ∀ (mm : Mem) (a : Int × Int), bsliceV Try.prog 63 1 [(0, inA a)] mm = some (.sl 2 mm.length 0 1, mm ++ [.row 65 2 [inC a]]) := fun mm a => by kernel_rfl
    obtain ⟨l0, s0, hl0⟩ : ∃ (l0 : List (Int × Int)) (s0 : Nat), (l0 = [] ∧ fndE r.w x.es 0 = none) ∨ (∃ j y, fndE r.w x.es 0 = some (j, y) ∧ l0 = y.ins ∧ s0 = y.s) := by
      cases e : fndE r.w x.es 0 with
      | none => exact ⟨[], 0, .inl ⟨rfl, rfl⟩⟩
      | some z => obtain ⟨j, y⟩ := z; exact ⟨y.ins, y.s, .inr ⟨j, y, rfl, rfl, rfl⟩⟩
    obtain ⟨v0, hv0⟩ : ∃ v0, v0 = vE (fndE r.w x.es 0) := ⟨_, rfl⟩
    rw [← hv0] at hlk
    have hll : l0.length < 100000 := by
      rcases hl0 with ⟨rfl, _⟩ | ⟨j, y, h5, rfl, _⟩
      · simp
      · obtain ⟨_, h6, _⟩ := fndE_at h5
        have hy := List.mem_of_getElem? h6
        rcases hb.2 with ⟨h4, _⟩ | ⟨_, _, _, _, _, _, h4⟩
        · exact ok.nums x (by rw [← h4]; exact hxm) y hy
        · rw [h4] at hy; cases hy
    have hvq : ((l0.map inC = [] ∧ v0 = .nils) ∨ (l0.map inC ≠ [] ∧ v0 = .sl 2 s0 0 (l0.map inC).length ∧ mm[s0]? = some (.row 65 2 (l0.map inC)))) := by
      rcases hl0 with ⟨rfl, h5⟩ | ⟨j, y, h5, rfl, rfl⟩
      · exact .inl ⟨rfl, by rw [hv0, h5]; rfl⟩
      · obtain ⟨_, h6, _⟩ := fndE_at h5
        have hy := List.mem_of_getElem? h6
        refine .inr ⟨by simpa using hx.ne y hy, by rw [hv0, h5]; simp [vE], hx.s y hy⟩
    obtain ⟨m5, happ, hl5, hq5, hk5⟩ := app_any (t := 63) (e := 65) (s := 2) (by kernel_rfl) zE65 (by kernel_rfl) (mm := mm) (q := s0) (l := l0.map inC) (v := v0) (inC (T4.last, r.rank)) hvq (by rw [List.length_map]; omega)
    simp -implicitDefEqProofs only [sims.1, fx.1, keeps.1, tick_on, calleeK, extractV, oneV, faddrK, nonnil, b_shr, b_shl, fieldK, Nat.reduceAdd, Nat.reduceMul, Nat.reduceSub, Nat.reduceEqDiff, Nat.reduceLT, Nat.reduceLeDiff, Nat.reduceBEq, Nat.reduceBNe, reduceIte, Int.reduceEq, Int.reduceLT, Int.reduceLE, Int.reduceNe, Int.reduceToNat, e0, e3, e7, hT.tp, (tc _).1, rv4, i1, l1]
    refine w_noisy ?_
    have hpl4 : p < mm.length := hT.lt _ (by simp [posT])
    have hxr4 : x.r < mm.length := hT.lt _ (mem_posT hxm (by simp [posR]))
    have hxp4 : x.mp < mm.length := hT.lt _ (mem_posT hxm (by simp [posR]))
    have hv0n : ∀ n ∈ nms v0, n < mm.length := fun n hn => by
      rcases hvq with ⟨_, rfl⟩ | ⟨_, rfl, hh⟩
      · simp [nms] at hn
      · simp [nms] at hn
        subst hn
        exact (List.getElem?_eq_some_iff.1 hh).1
    simp -implicitDefEqProofs only [sims.1, fx.1, keeps.1, tick_on, calleeK, extractV, oneV, faddrK, nonnil, b_shr, b_shl, fieldK, Nat.reduceAdd, Nat.reduceMul, Nat.reduceSub, Nat.reduceEqDiff, Nat.reduceLT, Nat.reduceLeDiff, Nat.reduceBEq, Nat.reduceBNe, reduceIte, Int.reduceEq, Int.reduceLT, Int.reduceLE, Int.reduceNe, Int.reduceToNat, e0, e3, e7, hx.r, hbox, hT.tp, (tc _).2.2, w11, pV, pK, hlk, b65, bs63, happ]
    iterate 14
      first
      | (refine orderP_of (accB_lt (by intro n hn; first | (simp [nms, mnm] at hn; done) | (simp [nms, mnm] at hn ⊢; omega) | (simp [nms, mnm] at hn; omega)) (by kernel_rfl)) ?_
         simp -implicitDefEqProofs only [sims.1, fx.1, keeps.1, tick_on, calleeK, extractV, oneV, faddrK, nonnil, b_shr, b_shl, fieldK, Nat.reduceAdd, Nat.reduceMul, Nat.reduceSub, Nat.reduceEqDiff, Nat.reduceLT, Nat.reduceLeDiff, Nat.reduceBEq, Nat.reduceBNe, reduceIte, Int.reduceEq, Int.reduceLT, Int.reduceLE, Int.reduceNe, Int.reduceToNat, e0, e3, e7, hx.r, hbox, hT.tp, (tc _).2.2, w11, pV, pK, hlk, b65, bs63, happ])
      | (refine orderP_of (and_of rfl (accB_lt (by intro n hn; first | (simp [nms, mnm] at hn; done) | (simp [nms, mnm] at hn ⊢; omega) | (simp [nms, mnm] at hn; omega)) (by kernel_rfl))) ?_
         simp -implicitDefEqProofs only [sims.1, fx.1, keeps.1, tick_on, calleeK, extractV, oneV, faddrK, nonnil, b_shr, b_shl, fieldK, Nat.reduceAdd, Nat.reduceMul, Nat.reduceSub, Nat.reduceEqDiff, Nat.reduceLT, Nat.reduceLeDiff, Nat.reduceBEq, Nat.reduceBNe, reduceIte, Int.reduceEq, Int.reduceLT, Int.reduceLE, Int.reduceNe, Int.reduceToNat, e0, e3, e7, hx.r, hbox, hT.tp, (tc _).2.2, w11, pV, pK, hlk, b65, bs63, happ])
      | (refine orderP_of (accB_lt (by
           intro n hn
           rcases List.mem_append.1 hn with hn | hn
           · simp [nms] at hn ⊢; omega
           · have := hv0n n hn; simp; omega) (by kernel_rfl)) ?_
         simp -implicitDefEqProofs only [sims.1, fx.1, keeps.1, tick_on, calleeK, extractV, oneV, faddrK, nonnil, b_shr, b_shl, fieldK, Nat.reduceAdd, Nat.reduceMul, Nat.reduceSub, Nat.reduceEqDiff, Nat.reduceLT, Nat.reduceLeDiff, Nat.reduceBEq, Nat.reduceBNe, reduceIte, Int.reduceEq, Int.reduceLT, Int.reduceLE, Int.reduceNe, Int.reduceToNat, e0, e3, e7, hx.r, hbox, hT.tp, (tc _).2.2, w11, pV, pK, hlk, b65, bs63, happ])
      | skip
    have hnew : (l0.map inC ++ [inC (T4.last, r.rank)]) = (l0 ++ [(T4.last, r.rank)]).map inC := by simp
    rw [hnew] at hq5
    have s21 := snd21 hq5 (by simp; omega)
    rw [show (l0 ++ [(T4.last, r.rank)]).length = (l0.map inC).length + 1 by simp] at s21
    refine callD_all s21 en21 ?_
    have hQl : mm.length + 1 < m5.length := by omega
    have hSl : (m5.set (mm.length + 1) (.row 65 2 ((ssort ltIn (l0 ++ [(T4.last, r.rank)])).map inC))).length = mm.length + 2 := by rw [List.length_set]; exact hl5
    have hSq : (m5.set (mm.length + 1) (.row 65 2 ((ssort ltIn (l0 ++ [(T4.last, r.rank)])).map inC)))[mm.length + 1]? = some (.row 65 2 ((ssort ltIn (l0 ++ [(T4.last, r.rank)])).map inC)) := List.getElem?_set_self hQl
    have hSk : ∀ k, k < mm.length → (k ≠ s0 ∨ l0.map inC = []) → (m5.set (mm.length + 1) (.row 65 2 ((ssort ltIn (l0 ++ [(T4.last, r.rank)])).map inC)))[k]? = mm[k]? := fun k hk hn => by
      rw [List.getElem?_set_ne (by omega)]
      exact hk5 k hk hn
    generalize m5.set (mm.length + 1) (.row 65 2 ((ssort ltIn (l0 ++ [(T4.last, r.rank)])).map inC)) = mS at hSl hSq hSk ⊢
    have hs0 : ∀ k, (k = p ∨ k = T4.a ∨ k = T4.q ∨ k = x.r ∨ k = x.mp ∨ k = bx) → k ≠ s0 ∨ l0.map inC = [] := by
      intro k hk
      rcases hl0 with ⟨rfl, _⟩ | ⟨j, y, h5, _, rfl⟩
      · exact .inr rfl
      · obtain ⟨_, h6, _⟩ := fndE_at h5
        have hy := List.mem_of_getElem? h6
        have hyp : y.s ∈ posR x := by simp only [posR, List.mem_cons, List.mem_map]; exact .inr (.inr ⟨y, hy, rfl⟩)
        have hdx := posR_nodup hT hxm
        simp only [posR, List.nodup_cons, List.mem_cons, not_or] at hdx
        have q2 := (posT_p hT).2.1 x hxm _ hyp
        have q3 := (posT_pq hT hnn4).2.2 x hxm _ hyp
        refine .inl fun e => ?_
        rcases hk with hk | hk | hk | hk | hk | hk
        · exact q2.1 (by rw [← e, hk])
        · exact q2.2 (by rw [← e, hk])
        · exact q3 (by rw [← e, hk])
        · exact hdx.1.2 (List.mem_map.2 ⟨y, hy, by rw [← e, hk]⟩)
        · exact hdx.2.1 (List.mem_map.2 ⟨y, hy, by rw [← e, hk]⟩)
        · exact hbn (by rw [← hk, e]; exact mem_posT hxm hyp)
    have hxS : mS[x.r]? = some (.var 61 (rwC x)) := by rw [hSk _ hxr4 (hs0 _ (by simp))]; exact hx.r
    have hbS : mS[bx]? = some (.var 32 (ruC { r with cp := .nils })) := by rw [hSk _ hbl (hs0 _ (by simp))]; exact hbox
    have hpS : mS[p]? = some (.var 55 (tbC T4)) := by rw [hSk _ hpl4 (hs0 _ (by simp))]; exact hT.tp
    have hmS : isMap mS x.mp (x.es.map enE) := hx.mp.of (hSk _ hxp4 (hs0 _ (by simp)))
    obtain ⟨b6, hput, hm6⟩ := put_addE (l0 := l0) (s' := mm.length + 1) (T4.last, r.rank) hmS hkw hkey (by
      rcases hl0 with hh | ⟨j, y, h5, h6, _⟩
      · exact .inl hh
      · exact .inr ⟨j, y, h5, h6⟩)
    rw [← List.length_map (f := inC)] at hput
    simp -implicitDefEqProofs only [sims.1, fx.1, keeps.1, tick_on, calleeK, extractV, oneV, faddrK, nonnil, b_shr, b_shl, fieldK, Nat.reduceAdd, Nat.reduceMul, Nat.reduceSub, Nat.reduceEqDiff, Nat.reduceLT, Nat.reduceLeDiff, Nat.reduceBEq, Nat.reduceBNe, reduceIte, Int.reduceEq, Int.reduceLT, Int.reduceLE, Int.reduceNe, Int.reduceToNat, e0, e3, e7]
    refine w_noisy ?_
    simp -implicitDefEqProofs only [sims.1, fx.1, keeps.1, tick_on, calleeK, extractV, oneV, faddrK, nonnil, b_shr, b_shl, fieldK, Nat.reduceAdd, Nat.reduceMul, Nat.reduceSub, Nat.reduceEqDiff, Nat.reduceLT, Nat.reduceLeDiff, Nat.reduceBEq, Nat.reduceBNe, reduceIte, Int.reduceEq, Int.reduceLT, Int.reduceLE, Int.reduceNe, Int.reduceToNat, e0, e3, e7, hxS, hbS, hpS, w11, pV, hput]
    iterate 10
      first
      | (refine orderP_of (accB_lt (by intro n hn; first | (simp [nms, mnm] at hn; done) | (simp [nms, mnm] at hn ⊢; omega) | (simp [nms, mnm] at hn; omega)) (by kernel_rfl)) ?_
         simp -implicitDefEqProofs only [sims.1, fx.1, keeps.1, tick_on, calleeK, extractV, oneV, faddrK, nonnil, b_shr, b_shl, fieldK, Nat.reduceAdd, Nat.reduceMul, Nat.reduceSub, Nat.reduceEqDiff, Nat.reduceLT, Nat.reduceLeDiff, Nat.reduceBEq, Nat.reduceBNe, reduceIte, Int.reduceEq, Int.reduceLT, Int.reduceLE, Int.reduceNe, Int.reduceToNat, e0, e3, e7, hxS, hbS, hpS, w11, pV, hput])
      | skip
    have hdx := posR_nodup hT hxm
    have hd1 : x.r ≠ x.mp := by
      simp only [posR, List.nodup_cons, List.mem_cons, not_or] at hdx
      exact hdx.1.1
    obtain ⟨q1, q2, q3⟩ := posT_p hT
    have hpm : p ≠ x.mp ∧ p ≠ x.r := ⟨fun e => (q2 x hxm x.mp (by simp [posR])).1 e.symm, fun e => (q2 x hxm x.r (by simp [posR])).1 e.symm⟩
    have hbm : bx ≠ x.mp ∧ bx ≠ x.r := ⟨fun e => hbn (by rw [e]; exact mem_posT hxm (by simp [posR])), fun e => hbn (by rw [e]; exact mem_posT hxm (by simp [posR]))⟩
    have h6k : ∀ k, k ≠ x.mp → (mS.set x.mp b6)[k]? = mS[k]? := fun k hk => List.getElem?_set_ne (Ne.symm hk)
    have h6l : (mS.set x.mp b6).length = mm.length + 2 := by rw [List.length_set]; exact hSl
    generalize mS.set x.mp b6 = m6 at hm6 h6k h6l ⊢
    have hx6 : m6[x.r]? = some (.var 61 (rwC x)) := by rw [h6k _ hd1]; exact hxS
    have hb6 : m6[bx]? = some (.var 32 (ruC { r with cp := .nils })) := by rw [h6k _ hbm.1]; exact hbS
    have w12 : ∀ y, (rwC y)[12]? = some (.int .i64 y.g) := fun _ => rfl
    have w13 : ∀ y, (rwC y)[13]? = some (.int .i64 y.many) := fun _ => rfl
    have mx : minmaxV true (.int .i64 x.g) (.int .i64 r.rank) = some (.int .i64 (if r.rank > x.g then r.rank else x.g)) := rfl
    have wl : ∀ y, (rwC y).length = 14 := fun _ => rfl
    have ws12 : ∀ y (G : Int), (rwC y).set 12 (.int .i64 G) = rwC { y with g := G } := fun _ _ => rfl
    have ws13 : ∀ y (G : Int), (rwC y).set 13 (.int .i64 G) = rwC { y with many := G } := fun _ _ => rfl
    have hxr6 : x.r < m6.length := by omega
    simp -implicitDefEqProofs only [sims.1, fx.1, keeps.1, tick_on, calleeK, extractV, oneV, faddrK, nonnil, b_shr, b_shl, fieldK, Nat.reduceAdd, Nat.reduceMul, Nat.reduceSub, Nat.reduceEqDiff, Nat.reduceLT, Nat.reduceLeDiff, Nat.reduceBEq, Nat.reduceBNe, reduceIte, Int.reduceEq, Int.reduceLT, Int.reduceLE, Int.reduceNe, Int.reduceToNat, e0, e3, e7]
    refine w_noisy ?_
    simp -implicitDefEqProofs only [sims.1, fx.1, keeps.1, tick_on, calleeK, extractV, oneV, faddrK, nonnil, b_shr, b_shl, fieldK, Nat.reduceAdd, Nat.reduceMul, Nat.reduceSub, Nat.reduceEqDiff, Nat.reduceLT, Nat.reduceLeDiff, Nat.reduceBEq, Nat.reduceBNe, reduceIte, Int.reduceEq, Int.reduceLT, Int.reduceLE, Int.reduceNe, Int.reduceToNat, e0, e3, e7, hx6, hb6, pK, w12, e_max, mx, wl, ws12]
    iterate 10
      first
      | (refine orderP_of (accB_lt (by intro n hn; first | (simp [nms, mnm] at hn; done) | (simp [nms, mnm] at hn ⊢; omega) | (simp [nms, mnm] at hn; omega)) (by kernel_rfl)) ?_
         simp -implicitDefEqProofs only [sims.1, fx.1, keeps.1, tick_on, calleeK, extractV, oneV, faddrK, nonnil, b_shr, b_shl, fieldK, Nat.reduceAdd, Nat.reduceMul, Nat.reduceSub, Nat.reduceEqDiff, Nat.reduceLT, Nat.reduceLeDiff, Nat.reduceBEq, Nat.reduceBNe, reduceIte, Int.reduceEq, Int.reduceLT, Int.reduceLE, Int.reduceNe, Int.reduceToNat, e0, e3, e7, hx6, hb6, pK, w12, e_max, mx, wl, ws12])
      | skip
    obtain ⟨G, hG⟩ : ∃ G, G = (if r.rank > x.g then r.rank else x.g) := ⟨_, rfl⟩
    rw [← hG]
    have h7l : (m6.set x.r (.var 61 (rwC { x with g := G }))).length = mm.length + 2 := by rw [List.length_set]; exact h6l
    have hx7 : (m6.set x.r (.var 61 (rwC { x with g := G })))[x.r]? = some (.var 61 (rwC { x with g := G })) := List.getElem?_set_self hxr6
    have h7k : ∀ k, k ≠ x.r → (m6.set x.r (.var 61 (rwC { x with g := G })))[k]? = m6[k]? := fun k hk => List.getElem?_set_ne (Ne.symm hk)
    generalize m6.set x.r (.var 61 (rwC { x with g := G })) = m7 at h7l hx7 h7k ⊢
    have hmany : 0 ≤ x.many ∧ x.many < 1000000 := by
      rcases hb.2 with ⟨h4, _⟩ | ⟨_, _, _, _, _, h4, _⟩
      · exact ok.many x (by rw [← h4]; exact hxm)
      · rw [h4]; omega
    have hwm : IntKind.i64.wrap (x.many + 1) = x.many + 1 := by
      simp [IntKind.wrap, IntKind.bits, IntKind.signed]
      omega
    simp -implicitDefEqProofs only [sims.1, fx.1, keeps.1, tick_on, calleeK, extractV, oneV, faddrK, nonnil, b_shr, b_shl, fieldK, Nat.reduceAdd, Nat.reduceMul, Nat.reduceSub, Nat.reduceEqDiff, Nat.reduceLT, Nat.reduceLeDiff, Nat.reduceBEq, Nat.reduceBNe, reduceIte, Int.reduceEq, Int.reduceLT, Int.reduceLE, Int.reduceNe, Int.reduceToNat, e0, e3, e7, hx7, w13, wl, ws13, hwm]
    have h8l : (m7.set x.r (.var 61 (rwC { x with g := G, many := x.many + 1 }))).length = mm.length + 2 := by rw [List.length_set]; exact h7l
    have hx8 : (m7.set x.r (.var 61 (rwC { x with g := G, many := x.many + 1 })))[x.r]? = some (.var 61 (rwC { x with g := G, many := x.many + 1 })) := List.getElem?_set_self (by omega)
    have h8k : ∀ k, k ≠ x.r → (m7.set x.r (.var 61 (rwC { x with g := G, many := x.many + 1 })))[k]? = m7[k]? := fun k hk => List.getElem?_set_ne (Ne.symm hk)
    generalize m7.set x.r (.var 61 (rwC { x with g := G, many := x.many + 1 })) = m8 at h8l hx8 h8k ⊢
    have hl0' : (l0 = [] ∧ fndE r.w x.es 0 = none) ∨ ∃ j y, fndE r.w x.es 0 = some (j, y) ∧ l0 = y.ins := by
      rcases hl0 with hh | ⟨j, y, h5, h6, _⟩
      · exact .inl hh
      · exact .inr ⟨j, y, h5, h6⟩
    have hkk : ∀ k, k ≠ x.r → k ≠ x.mp → m8[k]? = mS[k]? := fun k hk1 hk2 => by rw [h8k k hk1, h7k k hk1, h6k k hk2]
    have hdx' := hdx
    simp only [posR, List.nodup_cons, List.mem_cons, not_or] at hdx'
    have h8 : TB m8 p { T4 with rows := T4.rows.set i { x with g := G, many := x.many + 1, es := addE r.w (T4.last, r.rank) (mm.length + 1) x.es } } := by
      refine hT.upd hb.1 rfl ⟨hx8, hm6.of ?_, fun y hy => ?_, fun y hy => ?_⟩ (fun k hk hkx => ?_) (fun k hk => ?_) ?_
      · rw [h8k _ (Ne.symm hd1), h7k _ (Ne.symm hd1)]
      · rcases addE_mem hl0' hy with rfl | ⟨hye, hyj⟩
        · simp only
          rw [hkk _ (by omega) (by omega)]
          exact hSq
        · have hyp : y.s ∈ posR x := by simp only [posR, List.mem_cons, List.mem_map]; exact .inr (.inr ⟨y, hye, rfl⟩)
          have hy1 : y.s ≠ x.r := fun e => hdx'.1.2 (List.mem_map.2 ⟨y, hye, e⟩)
          have hy2 : y.s ≠ x.mp := fun e => hdx'.2.1 (List.mem_map.2 ⟨y, hye, e⟩)
          rw [hkk _ hy1 hy2, hSk _ (hT.lt _ (mem_posT hxm hyp)) ?_]
          · exact hx.s y hye
          · rcases hl0 with ⟨rfl, _⟩ | ⟨j, z, h5, _, rfl⟩
            · exact .inr rfl
            · obtain ⟨i', hi', hi2⟩ := hyj j z h5
              obtain ⟨_, h6, _⟩ := fndE_at h5
              refine .inl fun e => hi' ?_
              have g1 : (x.es.map (·.s))[i']? = some y.s := by rw [List.getElem?_map, hi2]; rfl
              have g2 : (x.es.map (·.s))[j]? = some y.s := by rw [List.getElem?_map, show x.es[j]? = some z from h6, e]; rfl
              exact (List.getElem?_inj (List.getElem?_eq_some_iff.1 g1).1 hdx'.2.2).1 (g1.trans g2.symm)
      · rcases addE_mem hl0' hy with rfl | ⟨hye, _⟩
        · intro e
          have := congrArg List.length e
          simp [ssort_len] at this
        · exact hx.ne y hye
      · have k1 : k ≠ x.r := fun e => hkx (by rw [e]; simp [posR])
        have k2 : k ≠ x.mp := fun e => hkx (by rw [e]; simp [posR])
        rw [hkk k k1 k2, hSk k (hT.lt k hk) ?_]
        rcases hl0 with ⟨rfl, _⟩ | ⟨j, z, h5, _, rfl⟩
        · exact .inr rfl
        · obtain ⟨_, h6, _⟩ := fndE_at h5
          exact .inl fun e => hkx (by rw [e]; simp only [posR, List.mem_cons, List.mem_map]; exact .inr (.inr ⟨z, List.mem_of_getElem? h6, rfl⟩))
      · simp only [posR, List.mem_cons] at hk ⊢
        rcases hk with hk | hk | hk
        · exact .inl (.inl hk)
        · exact .inl (.inr (.inl hk))
        · rw [addE_s] at hk
          split at hk
          · rcases List.mem_or_eq_of_mem_set hk with hk | hk
            · exact .inl (.inr (.inr hk))
            · exact .inr (by omega)
          · rcases List.mem_append.1 hk with hk | hk
            · exact .inl (.inr (.inr hk))
            · simp at hk; exact .inr (by omega)
      · have hfr : ∀ k ∈ posR x, k < mm.length := fun k hk => hT.lt _ (mem_posT hxm hk)
        have hsn : mm.length + 1 ∉ x.es.map (·.s) := fun hh => by
          have := hfr (mm.length + 1) (by simp only [posR, List.mem_cons]; exact .inr (.inr hh))
          omega
        simp only [posR, List.nodup_cons, List.mem_cons, not_or, addE_s]
        cases e : fndE r.w x.es 0 with
        | none =>
          simp only [List.mem_append, List.mem_singleton, not_or]
          refine ⟨⟨hdx'.1.1, hdx'.1.2, by omega⟩, ⟨hdx'.2.1, by omega⟩, ?_⟩
          rw [List.nodup_append]
          exact ⟨hdx'.2.2, by simp, fun a ha b hb => by simp at hb; intro e; rw [e, hb] at ha; exact hsn ha⟩
        | some z =>
          obtain ⟨j, z⟩ := z
          refine ⟨⟨hdx'.1.1, fun hh => ?_⟩, fun hh => ?_, nodup_set hdx'.2.2 hsn⟩
          · rcases List.mem_or_eq_of_mem_set hh with hh | hh
            · exact hdx'.1.2 hh
            · omega
          · rcases List.mem_or_eq_of_mem_set hh with hh | hh
            · exact hdx'.2.1 hh
            · omega
    have hne8 : (T4.rows.set i { x with g := G, many := x.many + 1, es := addE r.w (T4.last, r.rank) (mm.length + 1) x.es }) ≠ [] := by simpa using hne4
    have hlen4 : T4.rows.length < 1000000 := by
      have := ok.num
      rcases hb.2 with ⟨h4, _⟩ | ⟨_, h4, _⟩
      · rw [h4]; omega
      · rw [h4]; simp; omega
    refine callD_all (snd25 h8 hne8 (by simp only [List.length_set]; exact hlen4)) en25 ?_
    have h9 := h8.perm hne8 (l := ssort ltR (T4.rows.set i { x with g := G, many := x.many + 1, es := addE r.w (T4.last, r.rank) (mm.length + 1) x.es })) (ssort_perm _)
    simp only at h9
    have h9l : (m8.set T4.q (.row 58 1 ((ssort ltR (T4.rows.set i { x with g := G, many := x.many + 1, es := addE r.w (T4.last, r.rank) (mm.length + 1) x.es })).map fun x => [V.ptr x.r 0]))).length = mm.length + 2 := by rw [List.length_set]; exact h8l
    have h9k : ∀ k, k ≠ T4.q → (m8.set T4.q (.row 58 1 ((ssort ltR (T4.rows.set i { x with g := G, many := x.many + 1, es := addE r.w (T4.last, r.rank) (mm.length + 1) x.es })).map fun x => [V.ptr x.r 0])))[k]? = m8[k]? := fun k hk => List.getElem?_set_ne (Ne.symm hk)
    generalize m8.set T4.q (.row 58 1 ((ssort ltR (T4.rows.set i { x with g := G, many := x.many + 1, es := addE r.w (T4.last, r.rank) (mm.length + 1) x.es })).map fun x => [V.ptr x.r 0])) = m9 at h9 h9l h9k ⊢
    simp -implicitDefEqProofs only [sims.1, fx.1, keeps.1, tick_on, calleeK, extractV, oneV, faddrK, nonnil, b_shr, b_shl, fieldK, Nat.reduceAdd, Nat.reduceMul, Nat.reduceSub, Nat.reduceEqDiff, Nat.reduceLT, Nat.reduceLeDiff, Nat.reduceBEq, Nat.reduceBNe, reduceIte, Int.reduceEq, Int.reduceLT, Int.reduceLE, Int.reduceNe, Int.reduceToNat, e0, e3, e7, h9.tp, (tc _).2.2]
    rw [hlast]
    refine ⟨m9, _, rfl, h9, ⟨T4.rows, i, x, mm.length + 1, hb, by simp only [hG, hlast], hat, hlast⟩, ⟨by omega, fun k hk hn => ?_⟩, fun k hk => ?_⟩
    · rw [hbx] at hk
      have hn4 : k ∉ posT p T4 := fun hh => by
        rcases hpos k hh with hh | hh
        · exact hn hh
        · omega
      rw [h9k k (fun e => hn4 (by rw [e]; exact posT_q hnn4)), hkk k (fun e => hn4 (by rw [e]; exact mem_posT hxm (by simp [posR]))) (fun e => hn4 (by rw [e]; exact mem_posT hxm (by simp [posR]))), hSk k (by omega) ?_]
      · exact hkeep k hk hn
      · rcases hl0 with ⟨rfl, _⟩ | ⟨j, y, h5, _, rfl⟩
        · exact .inr rfl
        · obtain ⟨_, h6, _⟩ := fndE_at h5
          exact .inl fun e => hn4 (by rw [e]; exact mem_posT hxm (by simp only [posR, List.mem_cons, List.mem_map]; exact .inr (.inr ⟨y, List.mem_of_getElem? h6, rfl⟩)))
    · have hk8 := (perm_pos (p := p) (T := { T4 with rows := T4.rows.set i { x with g := G, many := x.many + 1, es := addE r.w (T4.last, r.rank) (mm.length + 1) x.es } }) (ssort_perm (lt := ltR) _)).mem_iff.1 hk
      have hin : k ∈ posT p T4 ∨ k = mm.length + 1 := by
        simp only [posT, List.mem_cons, List.mem_append, List.mem_flatMap] at hk8
        rcases hk8 with hh | hh | hh | ⟨y, hy, hky⟩
        · exact .inl (by rw [hh]; simp [posT])
        · exact .inl (by rw [hh]; simp [posT])
        · refine .inl ?_
          have : k = T4.q := by simpa [hnn4] using hh
          rw [this]
          exact posT_q hnn4
        · rcases List.mem_or_eq_of_mem_set hy with hy | rfl
          · exact .inl (mem_posT hy hky)
          · simp only [posR, List.mem_cons] at hky
            rcases hky with hk9 | hk9 | hk9
            · exact .inl (mem_posT hxm (by simp [posR, hk9]))
            · exact .inl (mem_posT hxm (by simp [posR, hk9]))
            · rw [addE_s] at hk9
              split at hk9
              · rcases List.mem_or_eq_of_mem_set hk9 with hk9 | hk9
                · exact .inl (mem_posT hxm (by simp only [posR, List.mem_cons]; exact .inr (.inr hk9)))
                · exact .inr hk9
              · rcases List.mem_append.1 hk9 with hk9 | hk9
                · exact .inl (mem_posT hxm (by simp only [posR, List.mem_cons]; exact .inr (.inr hk9)))
                · simp at hk9; exact .inr hk9
      rcases hin with hh | hh
      · rcases hpos k hh with hh | hh
        · exact .inl hh
        · exact .inr (by omega)
      · exact .inr (by omega)
end Go.Proofs.Ytffhmbdpmpgddaa
