/- What the program answers between two lists of rules. No condition. -/
import Derived.Test.YtggdnepfahknbaaYn
namespace Go.Proofs.Ytggdnepfahknbaa
open Go Ab
set_option linter.unusedSimpArgs false
set_option linter.unusedVariables false
set_option maxRecDepth 20000

section
variable {N : Nat} {ρ : Pl} {I : Nat → Prop} {w : World}
/-- A nil slice may be told as an empty one. -/
def wkV (v v' : V) : Prop := v' = v ∨ (v = .nils ∧ ∃ s, v' = .isl s [])
theorem wkV.rv {v v' : V} (h : wkV v v') {x : Value} (hx : RV N ρ I w v x) : RV N ρ I w v' x := by
  rcases h with rfl | ⟨rfl, s, rfl⟩
  · exact hx
  · simp only [RV] at hx ⊢
    exact ⟨none, 0, hx, Nat.le_refl _, .inl trivial⟩
theorem Rc_wk {v v' : V} {b : List V} (h : wkV v v') : ∀ {a : List V} {c : Array Value} {o : Nat}, Rc N ρ I w (a ++ v :: b) c o → Rc N ρ I w (a ++ v' :: b) c o
  | [], c, o, hr => by
    simp only [List.nil_append, Rc] at hr ⊢
    obtain ⟨⟨x, h1, h2, h3⟩, h4⟩ := hr
    exact ⟨⟨x, h1, h2, h.rv h3⟩, h4⟩
  | u :: r, c, o, hr => by
    simp only [List.cons_append, Rc] at hr ⊢
    exact ⟨hr.1, Rc_wk h hr.2⟩
/-- Cells in which one nil slice is told as an empty one. -/
def wkC (e e' : List V) : Prop := ∃ a v v' b, e = a ++ v :: b ∧ e' = a ++ v' :: b ∧ wkV v v'
theorem Rcc_wk {α : Type} {f g : α → List V} (h : ∀ x, wkC (f x) (g x)) {sz : Nat} : ∀ {l : List α} {c : Array Value} {o : Nat}, Rcc N ρ I w (l.map f) c o sz → Rcc N ρ I w (l.map g) c o sz
  | [], _, _, hr => hr
  | x :: r, c, o, hr => by
    simp only [List.map_cons, Rcc] at hr ⊢
    obtain ⟨⟨h1, h2⟩, h3⟩ := hr
    obtain ⟨a, v, v', b, e1, e2, e3⟩ := h x
    rw [e1] at h1 h2
    rw [e2]
    exact ⟨⟨by simpa using h1, Rc_wk e3 h2⟩, Rcc_wk h h3⟩
end
theorem ans_wk {P : Program} {f : FuncId} {vs : List V} {α : Type} {k g : α → List V} {sz : Nat} {l : List α} (hk : ∀ x, wkC (k x) (g x)) (h : Ans P f vs (.isl sz (l.map k))) : Ans P f vs (.isl sz (l.map g)) := by
  intro ρ I w xs hr hl hrt
  refine (h ρ I w xs hr hl hrt).mono ?_
  rintro e w' ⟨r, ⟨m1, rfl⟩, x, ρ', I', rfl, k1, k2, k3⟩
  refine ⟨.ret (.isl sz (l.map g)) m1, ⟨m1, rfl⟩, x, ρ', I', rfl, k1, k2, ?_⟩
  have k3 : RV m1.length ρ' I' w' (.isl sz (l.map k)) x := k3
  show RV m1.length ρ' I' w' (.isl sz (l.map g)) x
  simp only [RV, List.length_map] at k3 ⊢
  obtain ⟨a, cap, h1, h2, h3⟩ := k3
  refine ⟨a, cap, h1, h2, ?_⟩
  rcases h3 with h3 | ⟨b, o, c, ty, fr, h4, h5, h6, h7⟩
  · exact .inl (by simpa using h3)
  · exact .inr ⟨b, o, c, ty, fr, h4, h5, h6, Rcc_wk hk h7⟩
theorem wk_me (x : Me) : wkC (meN x) (meC x) := by
  refine ⟨.int .i8 5 :: .int .u32 0 :: .int .i8 x.d :: .int .i64 x.r.rank :: mC x.r.w, cN x.r.l, cpsV x.r.l, .int .u64 (x.r.ck : Int) :: [.int .u16 0, .bool false, .int .u16 0, .nils, .nils, .nils, .nils, .int .u16 0], rfl, rfl, ?_⟩
  cases x.r.l with
  | nil => exact .inr ⟨rfl, 1, rfl⟩
  | cons c l => exact .inl rfl
theorem ret_me {m1 : Mem} {q : Nat} {l : List Me} (h : RowM m1 q l) : retOk (fun e => nfs e) m1 (.isl 36 (l.map meN)) (mV l.length q) := by
  cases l with
  | nil => exact .inl ⟨rfl, rfl⟩
  | cons a l =>
    refine .inr ⟨q, 0, _, 45, _, rfl, h (by simp), by simp, by rw [List.drop_zero, List.take_of_length_le (by simp)], ?_⟩
    rw [List.all_eq_true]
    intro e he
    obtain ⟨x, _, rfl⟩ := List.mem_map.1 he
    exact nfs_meN x
theorem ans9 (was now : List Ru) (hw1 : ∀ r ∈ was, wfR r) (hw2 : ∀ r ∈ now, wfR r) (h1 : grt was = false) (h2 : grt now = false) : Ans Try.prog 9 [rsV was, rsV now] (msV (btw was now)) := by
  have g1 := grt_small h1
  have g2 := grt_small h2
  refine ans_wk wk_me (ans_frz ?_ (fun l h => by cases h))
  refine (ans9w was now hw1 hw2 g1.1 g2.1 g2.2).mono ?_
  rintro r ⟨m1, q, rfl, hm⟩
  exact ⟨m1, _, rfl, ret_me hm⟩
end Go.Proofs.Ytggdnepfahknbaa
