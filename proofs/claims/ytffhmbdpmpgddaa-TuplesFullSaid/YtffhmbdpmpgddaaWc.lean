/- Tables of rules in memory. No condition. -/
import Derived.Test.YtffhmbdpmpgddaaWb
import Derived.Test.YtffhmbdpmpgddaaSgR
namespace Go.Proofs.Ytffhmbdpmpgddaa
open Go Ab
set_option linter.unusedSimpArgs false
set_option linter.unusedVariables false
set_option maxRecDepth 20000

structure Ent where
  key : Nat → Nat
  ins : List (Int × Int)
  s : Nat
structure Rw where
  mask : Nat → Nat
  g : Int
  many : Int
  es : List Ent
  r : Nat
  mp : Nat
structure Tbl where
  rows : List Rw
  at_ : List (Int × V)
  last : Int
  a : Nat
  q : Nat
  nil : Bool
def hC (h : Nat → Nat) : List V := cl .u64 11 fun i => (h i : Int)
def rwC (x : Rw) : List V := hC x.mask ++ [.mp x.mp, .int .i64 x.g, .int .i64 x.many]
def enE (e : Ent) : V × V := (.agg (hC e.key), .sl 2 e.s 0 e.ins.length)
def rowsV (T : Tbl) : V := bif T.nil then .nils else .sl 1 T.q 0 T.rows.length
def tbC (T : Tbl) : List V := [rowsV T, .mp T.a, .int .i64 T.last]
def isMap (m : Mem) (n : Nat) (es : List (V × V)) : Prop := ∃ bs clk, m[n]? = some (.map es bs clk) ∧ bs.length = es.length ∧ bs.Nodup ∧ ∀ b ∈ bs, b < clk
def posR (x : Rw) : List Nat := x.r :: x.mp :: x.es.map (·.s)
def posT (p : Nat) (T : Tbl) : List Nat := p :: T.a :: ((bif T.nil then [] else [T.q]) ++ T.rows.flatMap posR)
structure RwB (m : Mem) (x : Rw) : Prop where
  r : m[x.r]? = some (.var 61 (rwC x))
  mp : isMap m x.mp (x.es.map enE)
  s : ∀ e ∈ x.es, m[e.s]? = some (.row 65 2 (e.ins.map inC))
  ne : ∀ e ∈ x.es, e.ins ≠ []
structure TB (m : Mem) (p : Nat) (T : Tbl) : Prop where
  tp : m[p]? = some (.var 55 (tbC T))
  ta : isMap m T.a (T.at_.map fun x => (.int .i64 x.1, x.2))
  tq : T.nil = false → m[T.q]? = some (.row 58 1 (T.rows.map fun x => [.ptr x.r 0]))
  tr : ∀ x ∈ T.rows, RwB m x
  nd : (posT p T).Nodup
  tn : T.nil = true → T.rows = []

/-! ### What is elsewhere does not matter -/
theorem isMap.of {m m' : Mem} {n : Nat} {es : List (V × V)} (h : isMap m n es) (e : m'[n]? = m[n]?) : isMap m' n es := by
  obtain ⟨bs, clk, h1, h2⟩ := h
  exact ⟨bs, clk, by rw [e]; exact h1, h2⟩
theorem isMap.lt {m : Mem} {n : Nat} {es : List (V × V)} (h : isMap m n es) : n < m.length := by
  obtain ⟨bs, clk, h1, _⟩ := h
  exact (List.getElem?_eq_some_iff.1 h1).1
theorem RwB.of {m m' : Mem} {x : Rw} (h : RwB m x) (e : ∀ k ∈ posR x, m'[k]? = m[k]?) : RwB m' x := by
  refine ⟨by rw [e _ (by simp [posR])]; exact h.r, h.mp.of (e _ (by simp [posR])), fun y hy => by rw [e _ (by simp only [posR, List.mem_cons, List.mem_map]; exact .inr (.inr ⟨y, hy, rfl⟩))]; exact h.s y hy, h.ne⟩
theorem mem_posT {p : Nat} {T : Tbl} {x : Rw} (hx : x ∈ T.rows) {k : Nat} (hk : k ∈ posR x) : k ∈ posT p T := by
  simp only [posT, List.mem_cons, List.mem_append, List.mem_flatMap]
  exact .inr (.inr (.inr ⟨x, hx, hk⟩))
theorem TB.of {m m' : Mem} {p : Nat} {T : Tbl} (h : TB m p T) (e : ∀ k ∈ posT p T, m'[k]? = m[k]?) : TB m' p T := by
  refine ⟨by rw [e _ (by simp [posT])]; exact h.tp, h.ta.of (e _ (by simp [posT])), fun hr => ?_, fun x hx => (h.tr x hx).of fun k hk => e k (mem_posT hx hk), h.nd, h.tn⟩
  rw [e _ (by simp [posT, hr])]
  exact h.tq hr
theorem TB.lt {m : Mem} {p : Nat} {T : Tbl} (h : TB m p T) : ∀ k ∈ posT p T, k < m.length := by
  intro k hk
  simp only [posT, List.mem_cons, List.mem_append, List.mem_flatMap] at hk
  rcases hk with rfl | rfl | hk | ⟨x, hx, hk⟩
  · exact (List.getElem?_eq_some_iff.1 h.tp).1
  · exact h.ta.lt
  · cases hrw : T.nil with
    | true => rw [hrw] at hk; simp at hk
    | false =>
      rw [hrw] at hk
      simp at hk
      subst hk
      exact (List.getElem?_eq_some_iff.1 (h.tq hrw)).1
  · have hb := h.tr x hx
    simp only [posR, List.mem_cons, List.mem_map] at hk
    rcases hk with rfl | rfl | ⟨e, he, rfl⟩
    · exact (List.getElem?_eq_some_iff.1 hb.r).1
    · exact hb.mp.lt
    · exact (List.getElem?_eq_some_iff.1 (hb.s e he)).1
theorem TB.nn {m : Mem} {p : Nat} {T : Tbl} (h : TB m p T) (hne : T.rows ≠ []) : T.nil = false := by
  cases e : T.nil with
  | false => rfl
  | true => exact absurd (h.tn e) hne
theorem rowsV_nn {T : Tbl} (h : T.nil = false) : rowsV T = .sl 1 T.q 0 T.rows.length := by unfold rowsV; rw [h]; rfl
theorem TB.rv {m : Mem} {p : Nat} {T : Tbl} (h : TB m p T) (hne : T.rows ≠ []) : rowsV T = .sl 1 T.q 0 T.rows.length := rowsV_nn (h.nn hne)
theorem TB.lenR {m : Mem} {p : Nat} {T : Tbl} (h : TB m p T) (mm : Mem) : lenV Try.prog mm 53 (rowsV T) = some (.int .i64 (T.rows.length : Int)) := by
  cases e : T.nil with
  | true => unfold rowsV; rw [e, h.tn e]; rfl
  | false => rw [rowsV_nn e]; rfl
theorem TB.app {m : Mem} {p : Nat} {T : Tbl} (h : TB m p T) (l : Mem) : TB (m ++ l) p T := h.of fun k hk => List.getElem?_append_left (h.lt k hk)
theorem TB.set {m : Mem} {p : Nat} {T : Tbl} (h : TB m p T) {k : Nat} (hk : k ∉ posT p T) (b : B) : TB (m.set k b) p T := h.of fun i hi => List.getElem?_set_ne fun e => hk (by rw [e]; exact hi)

/-! ### Rows, looked through by their masks -/
structure Ru where
  rank : Int
  w : Nat → Nat
  cp : V
  ck : V
def ruC (x : Ru) : List V := .int .i64 x.rank :: (cl .u64 22 (fun i => (x.w i : Int)) ++ [x.cp, x.ck])
def ruM (x : Ru) : Nat → Nat := fun i => x.w (11 + i)
def eqH (a b : Nat → Nat) : Bool := eqN 11 (fun i => (a i : Int)) (fun i => (b i : Int))
theorem inK_nat {n : Nat} {a : Nat → Nat} (h : U64 n a) : inK .u64 n fun i => (a i : Int) := by
  intro i hi
  have := h i hi
  simp [Lit.wf, IntKind.min, IntKind.max, IntKind.bits, IntKind.signed]
  omega
theorem eq25 (a b : Nat → Nat) (ha : U64 11 a) (hb : U64 11 b) : eqV Try.prog 25 (.agg (hC a)) (.agg (hC b)) = some (eqH a b) := ea25 _ _ (inK_nat ha) (inK_nat hb)
set_option maxHeartbeats 1000000 in
theorem snd20 {m : Mem} {x : Rw} {b : Nat} {r : Ru} (hx : m[x.r]? = some (.var 61 (rwC x))) (hb : m[b]? = some (.var 32 (ruC r))) (hm : U64 11 x.mask) (hr : U64 22 r.w) : Snd Try.prog 20 [.ptr x.r 0, .ptr b 0] m fun q => q = .ret (.bool (eqH x.mask (ruM r))) m := by
  refine Snd_of_W fol rfl rfl (by kernel_rfl) (by kernel_rfl) ?_
  have p1 : partK true 11 (rwC x) 0 = some (.agg (hC x.mask)) := rfl
  have p2 : partK true 11 (ruC r) 12 = some (.agg (hC (ruM r))) := rfl
  have e := eq25 x.mask (ruM r) hm (fun i hi => hr _ (by omega))
  simp -implicitDefEqProofs only [sims.1, fx.1, keeps.1, tick_on, calleeK, extractV, oneV, faddrK, nonnil, b_shr, b_shl, fieldK, Nat.reduceAdd, Nat.reduceMul, Nat.reduceSub, Nat.reduceEqDiff, Nat.reduceLT, Nat.reduceLeDiff, Nat.reduceBEq, Nat.reduceBNe, reduceIte, Int.reduceEq, Int.reduceLT, Int.reduceLE, Int.reduceNe, Int.reduceToNat]
  refine w_quiet ?_
  simp -implicitDefEqProofs only [sims.1, fx.1, keeps.1, tick_on, calleeK, extractV, oneV, faddrK, nonnil, b_shr, b_shl, fieldK, Nat.reduceAdd, Nat.reduceMul, Nat.reduceSub, Nat.reduceEqDiff, Nat.reduceLT, Nat.reduceLeDiff, Nat.reduceBEq, Nat.reduceBNe, reduceIte, Int.reduceEq, Int.reduceLT, Int.reduceLE, Int.reduceNe, Int.reduceToNat, hx, hb, p1, p2, e]
/-- Where a mask's row stands. -/
def fndR (k : Nat → Nat) : List Rw → Nat → Int
  | [], _ => -1
  | x :: r, i => bif eqH x.mask k then (i : Int) else fndR k r (i + 1)
theorem fndR_drop {k : Nat → Nat} : ∀ {l : List Rw} {j i : Nat}, (∀ x ∈ l.take j, eqH x.mask k = false) → fndR k l i = fndR k (l.drop j) (i + j)
  | l, 0, i, _ => rfl
  | [], j + 1, i, _ => by simp [fndR]
  | x :: r, j + 1, i, h => by
    have h1 := h x (by simp)
    simp only [fndR, h1, cond_false, List.drop_succ_cons]
    rw [fndR_drop (j := j) fun y hy => h y (by simp [hy])]
    congr 1
    omega
set_option maxHeartbeats 1000000 in
theorem snd19 {m : Mem} {p b : Nat} {T : Tbl} {r : Ru} (h : TB m p T) (hb : m[b]? = some (.var 32 (ruC r))) (hm : ∀ x ∈ T.rows, U64 11 x.mask) (hr : U64 22 r.w) (hl : T.rows.length < 1000000) :
    Snd Try.prog 19 [rowsV T, .fn 20 [] [.ptr b 0]] m fun q => q = .ret (.int .i64 (fndR (ruM r) T.rows 0)) m := by
  refine Snd_of_W fol rfl rfl (by kernel_rfl) (by kernel_rfl) ?_
  have lv := h.lenR
  simp -implicitDefEqProofs only [sims.1, fx.1, keeps.1, tick_on, calleeK, extractV, oneV, faddrK, nonnil, b_shr, b_shl, fieldK, Nat.reduceAdd, Nat.reduceMul, Nat.reduceSub, Nat.reduceEqDiff, Nat.reduceLT, Nat.reduceLeDiff, Nat.reduceBEq, Nat.reduceBNe, reduceIte, Int.reduceEq, Int.reduceLT, Int.reduceLE, Int.reduceNe, Int.reduceToNat, lv]
  refine W_loopM (fun j : Nat => [(7, .int .i64 (T.rows.length : Int)), (1, .fn 20 [] [.ptr b 0]), (0, rowsV T), (8, .int .i64 (j : Int))])
    (fun j mm => j ≤ T.rows.length ∧ (∀ x ∈ T.rows.take j, eqH x.mask (ruM r) = false) ∧ mm = m) (fun j => T.rows.length - j) 0 (by kernel_rfl) ⟨Nat.zero_le _, fun x hx => by simp at hx, rfl⟩ ?_
  rintro j mm ⟨hj, hall, rfl⟩
  rcases Nat.lt_or_ge j T.rows.length with h1 | h1
  · have c1 : decide (j < T.rows.length) = true := by simpa using h1
    have c7 := wrap_i64s j (by omega)
    have hne : T.rows ≠ [] := fun e => by rw [e] at h1; exact absurd h1 (Nat.not_lt_zero _)
    have rv := h.rv hne
    have i1 : ∀ {kk : IntKind}, iaddrS 1 (.sl 1 T.q 0 T.rows.length) (.int kk (j : Int)) = some (.ep 1 T.q j 0) := fun {_} => by rw [iaddrS_sl h1, Nat.zero_add]
    have l1 : loadK false 1 mm (.ep 1 T.q j 0) = some (.ptr T.rows[j].r 0) := by
      rw [loadK_ep, h.tq (h.nn hne)]
      have : (T.rows.map fun x => [V.ptr x.r 0])[j]? = some [V.ptr T.rows[j].r 0] := by simp [h1]
      simp only [Option.bind_some, if_true, this]
      rfl
    have hx := h.tr _ (List.getElem_mem h1)
    simp -implicitDefEqProofs only [sims.1, fx.1, keeps.1, tick_on, calleeK, extractV, oneV, faddrK, nonnil, b_shr, b_shl, fieldK, Nat.reduceAdd, Nat.reduceMul, Nat.reduceSub, Nat.reduceEqDiff, Nat.reduceLT, Nat.reduceLeDiff, Nat.reduceBEq, Nat.reduceBNe, reduceIte, Int.reduceEq, Int.reduceLT, Int.reduceLE, Int.reduceNe, Int.reduceToNat, ltNat, c1, rv, i1, l1]
    refine callD_all (snd20 hx.r hb (hm _ (List.getElem_mem h1)) hr) en20 ?_
    cases e : eqH T.rows[j].mask (ruM r)
    · simp -implicitDefEqProofs only [sims.1, fx.1, keeps.1, tick_on, calleeK, extractV, oneV, faddrK, nonnil, b_shr, b_shl, fieldK, Nat.reduceAdd, Nat.reduceMul, Nat.reduceSub, Nat.reduceEqDiff, Nat.reduceLT, Nat.reduceLeDiff, Nat.reduceBEq, Nat.reduceBNe, reduceIte, Int.reduceEq, Int.reduceLT, Int.reduceLE, Int.reduceNe, Int.reduceToNat, e, c7]
      refine ⟨j + 1, by rw [rv]; kernel_rfl, ⟨h1, fun x hx => ?_, by trivial⟩, by omega⟩
      rw [List.take_add_one, List.getElem?_eq_getElem h1] at hx
      rcases List.mem_append.1 hx with hx | hx
      · exact hall x hx
      · simp at hx
        subst hx
        exact e
    · simp -implicitDefEqProofs only [sims.1, fx.1, keeps.1, tick_on, calleeK, extractV, oneV, faddrK, nonnil, b_shr, b_shl, fieldK, Nat.reduceAdd, Nat.reduceMul, Nat.reduceSub, Nat.reduceEqDiff, Nat.reduceLT, Nat.reduceLeDiff, Nat.reduceBEq, Nat.reduceBNe, reduceIte, Int.reduceEq, Int.reduceLT, Int.reduceLE, Int.reduceNe, Int.reduceToNat, e]
      rw [fndR_drop hall, List.drop_eq_getElem_cons h1]
      simp only [fndR, e, cond_true, Nat.zero_add]
  · have c1 : decide (j < T.rows.length) = false := by simpa using h1
    simp -implicitDefEqProofs only [sims.1, fx.1, keeps.1, tick_on, calleeK, extractV, oneV, faddrK, nonnil, b_shr, b_shl, fieldK, Nat.reduceAdd, Nat.reduceMul, Nat.reduceSub, Nat.reduceEqDiff, Nat.reduceLT, Nat.reduceLeDiff, Nat.reduceBEq, Nat.reduceBNe, reduceIte, Int.reduceEq, Int.reduceLT, Int.reduceLE, Int.reduceNe, Int.reduceToNat, ltNat, c1]
    rw [fndR_drop hall, List.drop_eq_nil_of_le h1]
    rfl

/-! ### The order of rows -/
def ltR (x y : Rw) : Bool := decide (y.g < x.g)
theorem ltR_cmp (x y : Rw) : decide (cmpI y.g x.g < 0) = ltR x y := by
  unfold cmpI ltR
  by_cases h : y.g < x.g
  · rw [if_pos h]; simp [h]
  · rw [if_neg h]
    by_cases h2 : x.g < y.g
    · rw [if_pos h2]; simp [h]
    · rw [if_neg h2]; simp [h]
set_option maxHeartbeats 1000000 in
theorem snd37 {m : Mem} {x y : Rw} (hx : m[x.r]? = some (.var 61 (rwC x))) (hy : m[y.r]? = some (.var 61 (rwC y))) : Snd Try.prog 37 [.ptr x.r 0, .ptr y.r 0] m fun q => q = .ret (.int .i64 (cmpI y.g x.g)) m := by
  refine Snd_of_W fol rfl rfl (by kernel_rfl) (by kernel_rfl) ?_
  have p1 : ∀ x, (rwC x)[12]? = some (.int .i64 x.g) := fun _ => rfl
  simp -implicitDefEqProofs only [sims.1, fx.1, keeps.1, tick_on, calleeK, extractV, oneV, faddrK, nonnil, b_shr, b_shl, fieldK, Nat.reduceAdd, Nat.reduceMul, Nat.reduceSub, Nat.reduceEqDiff, Nat.reduceLT, Nat.reduceLeDiff, Nat.reduceBEq, Nat.reduceBNe, reduceIte, Int.reduceEq, Int.reduceLT, Int.reduceLE, Int.reduceNe, Int.reduceToNat]
  refine w_quiet ?_
  simp -implicitDefEqProofs only [sims.1, fx.1, keeps.1, tick_on, calleeK, extractV, oneV, faddrK, nonnil, b_shr, b_shl, fieldK, Nat.reduceAdd, Nat.reduceMul, Nat.reduceSub, Nat.reduceEqDiff, Nat.reduceLT, Nat.reduceLeDiff, Nat.reduceBEq, Nat.reduceBNe, reduceIte, Int.reduceEq, Int.reduceLT, Int.reduceLE, Int.reduceNe, Int.reduceToNat, hx, hy, p1]
  refine callQ_ans (ans24 _ _) en24 rfl rfl ?_
  simp -implicitDefEqProofs only [sims.1, fx.1, keeps.1, tick_on, calleeK, extractV, oneV, faddrK, nonnil, b_shr, b_shl, fieldK, Nat.reduceAdd, Nat.reduceMul, Nat.reduceSub, Nat.reduceEqDiff, Nat.reduceLT, Nat.reduceLeDiff, Nat.reduceBEq, Nat.reduceBNe, reduceIte, Int.reduceEq, Int.reduceLT, Int.reduceLE, Int.reduceNe, Int.reduceToNat]

theorem mrg_map {α β : Type} {lt : α → α → Bool} {lt' : β → β → Bool} (v : α → β) (h : ∀ a b, lt a b = lt' (v a) (v b)) : ∀ l r : List α, (mrg lt l r).map v = mrg lt' (l.map v) (r.map v)
  | [], r => by rw [mrg_nil_l, List.map_nil, mrg_nil_l]
  | x :: l, [] => by rw [mrg_nil_r, List.map_nil, mrg_nil_r]
  | x :: l, y :: r => by
    cases e : lt y x with
    | true =>
      have eL : lt' (v y) (v x) = true := by rw [← h]; exact e
      have i := mrg_map v h (x :: l) r
      simp only [List.map_cons] at i ⊢
      rw [mrg_lt e, mrg_lt eL, List.map_cons, i]
    | false =>
      have eL : lt' (v y) (v x) = false := by rw [← h]; exact e
      have i := mrg_map v h l (y :: r)
      simp only [List.map_cons] at i ⊢
      rw [mrg_ge e, mrg_ge eL, List.map_cons, i]
termination_by l r => l.length + r.length
theorem ssort_map {α β : Type} {lt : α → α → Bool} {lt' : β → β → Bool} (v : α → β) (h : ∀ a b, lt a b = lt' (v a) (v b)) : ∀ l : List α, (ssort lt l).map v = ssort lt' (l.map v)
  | [] => rfl
  | x :: l => by
    show (mrg lt [x] (ssort lt l)).map v = mrg lt' [v x] (ssort lt' (l.map v))
    rw [mrg_map v h, ssort_map v h l]
    rfl
theorem ordR (l : List Rw) : Ord {x : Rw // x ∈ l} fun a b => ltR a.1 b.1 := by
  refine ⟨fun a => ?_, fun a b c h1 h2 => ?_, fun a b c h1 h2 => ?_⟩
  · simp [ltR]
  · simp [ltR] at h1 h2 ⊢; omega
  · simp [ltR] at h1 h2 ⊢; omega
theorem eltR (l : List Rw) : Elt false 1 (fun x : {x : Rw // x ∈ l} => [V.ptr x.1.r 0]) fun x => V.ptr x.1.r 0 := ⟨fun _ => rfl, fun _ => rfl, fun _ => rfl, fun _ => rfl⟩
theorem perm_pos {p : Nat} {T : Tbl} {l : List Rw} (h : l.Perm T.rows) : (posT p { T with rows := l }).Perm (posT p T) := by
  unfold posT
  exact List.Perm.cons _ (List.Perm.cons _ (List.Perm.append (.refl _) (h.flatMap_right _)))
theorem TB.perm {m : Mem} {p : Nat} {T : Tbl} (h : TB m p T) (hne : T.rows ≠ []) {l : List Rw} (hl : l.Perm T.rows) : TB (m.set T.q (.row 58 1 (l.map fun x => [.ptr x.r 0]))) p { T with rows := l } := by
  have hnn := h.nn hne
  have hq := h.tq hnn
  have hqlt := (List.getElem?_eq_some_iff.1 hq).1
  have hnd := h.nd
  have hpe : posT p T = p :: T.a :: T.q :: T.rows.flatMap posR := by
    unfold posT
    rw [hnn]
    rfl
  rw [hpe] at hnd
  simp only [List.nodup_cons, List.mem_cons, not_or] at hnd
  obtain ⟨⟨n1, n2, n3⟩, ⟨n4, n5⟩, n6, n7⟩ := hnd
  have rv : rowsV { T with rows := l } = rowsV T := by
    unfold rowsV
    simp only [hnn, cond_false, hl.length_eq]
  refine ⟨?_, ?_, fun _ => ?_, fun x hx => ?_, ?_, fun e => by rw [hnn] at e; cases e⟩
  · rw [List.getElem?_set_ne (fun e => n2 e.symm), h.tp]
    simp only [tbC, rv]
  · exact h.ta.of (List.getElem?_set_ne fun e => n4 e.symm)
  · simp [hqlt]
  · have hx' := hl.mem_iff.1 hx
    exact (h.tr x hx').of fun k hk => List.getElem?_set_ne fun e => n6 (List.mem_flatMap.2 ⟨x, hx', by rw [e]; exact hk⟩)
  · exact (perm_pos hl).nodup_iff.2 h.nd
set_option maxHeartbeats 1000000 in
theorem snd25 {m : Mem} {p : Nat} {T : Tbl} (h : TB m p T) (hne : T.rows ≠ []) (hl : T.rows.length < 1000000) :
    Snd Try.prog 25 [.ptr p 0] m fun q => q = .ret (.tup []) (m.set T.q (.row 58 1 ((ssort ltR T.rows).map fun x => [.ptr x.r 0]))) := by
  have hq := h.tq (h.nn hne)
  have hqlt := (List.getElem?_eq_some_iff.1 hq).1
  have rv := h.rv hne
  obtain ⟨x0, hx0⟩ := List.exists_mem_of_ne_nil _ hne
  let d : {x : Rw // x ∈ T.rows} := ⟨x0, hx0⟩
  let f : Nat → {x : Rw // x ∈ T.rows} := fun i => T.rows.attach.getD i d
  have hseg : seg f 0 T.rows.length = T.rows.attach := by
    have := seg_of T.rows.attach d
    rwa [List.length_attach] at this
  have hm0 : m = RW m T.q 58 1 ((seg f 0 T.rows.length).map fun x => [V.ptr x.1.r 0]) := by
    have e : (T.rows.attach.map fun x => [V.ptr x.1.r 0]) = T.rows.map fun x => [V.ptr x.r 0] := by
      have := congrArg (List.map fun x : Rw => [V.ptr x.r 0]) (List.attach_map_subtype_val T.rows)
      rwa [List.map_map] at this
    rw [hseg, e]
    exact (rw_id hq).symm
  have srt42 := snd42 (ordR T.rows) (eltR T.rows) hqlt 37 [] [] T.rows.length (fun g x y K hk => by
    have hx := h.tr _ x.2
    have hy := h.tr _ y.2
    have nx : ∀ z : {x : Rw // x ∈ T.rows}, T.q ≠ z.1.r := fun z e => by
      have := (h.tr _ z.2).r
      rw [← e, hq] at this
      cases this
    refine .inr ⟨en37, .int .i64 (cmpI y.1.g x.1.g), [x.1.r, y.1.r], fun k hk => ?_, fun m2 h2 => ?_, hk _ (ltR_cmp _ _)⟩
    · rw [rw_len]
      simp only [List.mem_cons, List.not_mem_nil, or_false] at hk
      rcases hk with rfl | rfl
      · exact (List.getElem?_eq_some_iff.1 hx.r).1
      · exact (List.getElem?_eq_some_iff.1 hy.r).1
    · refine snd37 ?_ ?_
      · rw [h2 _ (by simp), rw_ne (nx x)]; exact hx.r
      · rw [h2 _ (by simp), rw_ne (nx y)]; exact hy.r) f (by unfold big; omega)
  rw [← hm0] at srt42
  have srt42 := srt42.mono (Q' := fun q => q = .ret (.tup []) (m.set T.q (.row 58 1 ((ssort ltR T.rows).map fun x => [.ptr x.r 0])))) (by
    rintro q ⟨f', rfl, hf⟩
    rw [hf, hseg]
    have := ssort_map (lt := fun a b : {x : Rw // x ∈ T.rows} => ltR a.1 b.1) (lt' := ltR) (fun x => x.1) (fun _ _ => rfl) T.rows.attach
    rw [List.attach_map_subtype_val] at this
    rw [← this, List.map_map]
    rfl)
  have s36 : Snd Try.prog 36 [.sl 1 T.q 0 T.rows.length, .fn 37 [] []] m fun q => q = .ret (.tup []) (m.set T.q (.row 58 1 ((ssort ltR T.rows).map fun x => [.ptr x.r 0]))) := by
    refine Snd_of_W fol rfl rfl (by kernel_rfl) (by kernel_rfl) ?_
    have rs36 : ∀ env m, resV Try.prog Try.prog.funcs[36] env m = some (.tup []) := fun _ _ => rfl
    simp -implicitDefEqProofs only [sims.1, fx.1, keeps.1, tick_on, calleeK, extractV, oneV, faddrK, nonnil, b_shr, b_shl, fieldK, Nat.reduceAdd, Nat.reduceMul, Nat.reduceSub, Nat.reduceEqDiff, Nat.reduceLT, Nat.reduceLeDiff, Nat.reduceBEq, Nat.reduceBNe, reduceIte, Int.reduceEq, Int.reduceLT, Int.reduceLE, Int.reduceNe, Int.reduceToNat]
    refine callD_all srt42 en42 ?_
    simp -implicitDefEqProofs only [sims.1, fx.1, keeps.1, tick_on, calleeK, extractV, oneV, faddrK, nonnil, b_shr, b_shl, fieldK, Nat.reduceAdd, Nat.reduceMul, Nat.reduceSub, Nat.reduceEqDiff, Nat.reduceLT, Nat.reduceLeDiff, Nat.reduceBEq, Nat.reduceBNe, reduceIte, Int.reduceEq, Int.reduceLT, Int.reduceLE, Int.reduceNe, Int.reduceToNat, rs36]
  refine Snd_of_W fol rfl rfl (by kernel_rfl) (by kernel_rfl) ?_
  have rs25 : ∀ env m, resV Try.prog Try.prog.funcs[25] env m = some (.tup []) := fun _ _ => rfl
  have c0 : (tbC T)[0]? = some (.sl 1 T.q 0 T.rows.length) := by rw [← rv]; rfl
  simp -implicitDefEqProofs only [sims.1, fx.1, keeps.1, tick_on, calleeK, extractV, oneV, faddrK, nonnil, b_shr, b_shl, fieldK, Nat.reduceAdd, Nat.reduceMul, Nat.reduceSub, Nat.reduceEqDiff, Nat.reduceLT, Nat.reduceLeDiff, Nat.reduceBEq, Nat.reduceBNe, reduceIte, Int.reduceEq, Int.reduceLT, Int.reduceLE, Int.reduceNe, Int.reduceToNat, h.tp, c0]
  refine callD_all s36 en36 ?_
  simp -implicitDefEqProofs only [sims.1, fx.1, keeps.1, tick_on, calleeK, extractV, oneV, faddrK, nonnil, b_shr, b_shl, fieldK, Nat.reduceAdd, Nat.reduceMul, Nat.reduceSub, Nat.reduceEqDiff, Nat.reduceLT, Nat.reduceLeDiff, Nat.reduceBEq, Nat.reduceBNe, reduceIte, Int.reduceEq, Int.reduceLT, Int.reduceLE, Int.reduceNe, Int.reduceToNat, rs25]
end Go.Proofs.Ytffhmbdpmpgddaa
