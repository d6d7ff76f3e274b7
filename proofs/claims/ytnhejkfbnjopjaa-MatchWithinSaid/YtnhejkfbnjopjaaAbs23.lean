/- From a contract to a row: what the arguments are, and what the call leaves. No condition. -/
import Derived.Test.YtnhejkfbnjopjaaAbs22
import Derived.ProofKit
import Derived.WalkKit
import Derived.OpenShut
import Derived.ShutString
import Derived.ChangeOld
import Derived.Below
import Derived.SizedLaws
namespace Go.Proofs.Ytnhejkfbnjopjaa.Ab
open Go Go.ChangeShapes Go.WideShapes Go.RowKit
set_option linter.unusedSimpArgs false
set_option linter.unusedVariables false

/-! ### A call that answers, on a world whose every block stays -/

theorem rep0 (w : World) : Rep (fun _ => (0, 0)) (fun b => b < w.heap.size) [] w :=
  ⟨fun n b h => by simp at h, fun n h => by simp [live] at h, fun n _ h => by simp [live] at h, fun _ h => h⟩

theorem ans_calls {P : Program} {f : FuncId} {vs : List V} {v : V} (h : Ans P f vs v) {w : World} {xs : Array Value} (hl : vs.length = xs.size) (hr : Rt 0 (fun _ => (0, 0)) (fun b => b < w.heap.size) w vs xs 0) :
    Calls P f xs w fun e w' => (∃ x N ρ I, e = .returned x ∧ RV N ρ I w' v x) ∧ Below w.heap.size w w' := by
  refine (h _ _ w xs (rep0 w) hl hr).mono ?_
  rintro e w' ⟨r, ⟨m1, rfl⟩, x, ρ', I', rfl, h1, h2, h3⟩
  refine ⟨⟨x, _, ρ', I', rfl, h3⟩, h2.wle.os, h2.wle.tape, h2.wle.output, h2.wle.size, fun k hk => h2.frame k hk ?_⟩
  rintro ⟨n, hn, _⟩
  simp [live] at hn

theorem ans_true {P : Program} {f : FuncId} {vs : List V} (h : Ans P f vs (.bool true)) {w : World} {xs : Array Value} (hl : vs.length = xs.size) (hr : Rt 0 (fun _ => (0, 0)) (fun b => b < w.heap.size) w vs xs 0) :
    Calls P f xs w fun e w' => e = .returned (.bool true) ∧ Below w.heap.size w w' := by
  refine (ans_calls h hl hr).mono ?_
  rintro e w' ⟨⟨x, N, ρ, I, rfl, hx⟩, hb⟩
  simp only [RV] at hx
  subst hx
  exact ⟨rfl, hb⟩

/-! ### Flat values, as the rows read them -/

section
variable {H : Type} {enc : TypeId × Value → H} {P : Program} {w : World} {base : Nat} {spare : Nat → Bool} {held : Bool}

theorem fitL_append : ∀ {ss rr : List Sh} {c1 c2 : List Value} {l1 l2 : List Lit}, fitL ss c1 l1 → fitL rr c2 l2 → fitL (ss ++ rr) (c1 ++ c2) (l1 ++ l2)
  | [], _, _, _, _, _, h, k => by obtain ⟨rfl, rfl⟩ := h; exact k
  | _ :: r, _, _ :: c1, _, _ :: l1, _, h, k => ⟨h.1, fitL_append (ss := r) h.2 k⟩
  | _ :: _, _, [], _, _, _, h, _ => h.elim
  | _ :: _, _, _ :: _, _, [], _, h, _ => h.elim

theorem piecesBack {β γ : Type} (K : β → List Value → Option γ) (off wd : β → Nat) (sh : β → List Sh) (all : List Value) : ∀ (bs : List β) (o : Nat) (xs : List γ), inRow off wd o bs = true → (∀ b ∈ bs, wd b = (sh b).length) →
    (∀ b ∈ bs, ∀ cs x, K b cs = some x → ∃ ls, fitL (sh b) cs ls) → all.length = o + (bs.map sh).flatten.length → (bs.mapM fun b => K b ((all.drop (off b)).take (wd b))) = some xs → ∃ ls, fitL (bs.map sh).flatten (all.drop o) ls
  | [], o, _, _, _, _, hl, _ => ⟨[], by simp only [List.map_nil, List.flatten_nil, List.length_nil, Nat.add_zero] at hl; exact ⟨by rw [List.drop_eq_nil_iff]; omega, rfl⟩⟩
  | b :: r, o, xs, h1, h2, h3, hl, h => by
    simp only [inRow, Bool.and_eq_true] at h1
    have e := Nat.eq_of_beq_eq_true h1.1
    have hw := h2 b (by simp)
    rw [List.mapM_cons] at h
    cases hk : K b ((all.drop (off b)).take (wd b)) with
    | none => rw [hk] at h; cases h
    | some x =>
      rw [hk] at h
      cases hm : r.mapM fun b => K b ((all.drop (off b)).take (wd b)) with
      | none => rw [hm] at h; cases h
      | some l =>
        simp only [List.map_cons, List.flatten_cons, List.length_append] at hl
        obtain ⟨l2, k2⟩ := piecesBack K off wd sh all r (o + wd b) l h1.2 (fun b hb => h2 b (by simp [hb])) (fun b hb => h3 b (by simp [hb])) (by omega) hm
        obtain ⟨l1, k1⟩ := h3 b (by simp) _ _ hk
        rw [e] at k1
        refine ⟨l1 ++ l2, ?_⟩
        have := fitL_append k1 k2
        rw [show (all.drop o).take (wd b) ++ all.drop (o + wd b) = all.drop o by rw [← List.drop_drop, List.take_append_drop]] at this
        exact this

theorem trod_shp : ∀ (d : Nat) (t : TypeId) (ss : List Sh) (fuel : Nat) (cs : List Value) (x : DataW H × List MemPlace), shp P d t = some ss → DataW.trod enc P w base spare held fuel t cs = some x → ∃ ls, fitL ss cs ls
  | 0, _, _, _, _, _, h, _ => by simp [shp] at h
  | _ + 1, _, _, 0, _, _, _, h => by simp [DataW.trod] at h
  | d + 1, t, ss, fuel + 1, cs, x, h, ht => by
    unfold shp at h
    unfold DataW.trod at ht
    cases hu : P.underlying t with
    | none => rw [hu] at h; cases h
    | some u =>
      rw [hu] at h ht
      cases u with
      | bool =>
        cases h
        match cs, ht with
        | [.bool b], _ => exact ⟨[.bool b], rfl, rfl, rfl⟩
      | int q =>
        cases h
        match cs, ht with
        | [.int k n], ht =>
          simp only at ht
          split at ht
          · rename_i hc; exact ⟨[.int q n], ⟨hc.1, hc.2, rfl⟩, rfl, rfl⟩
          · cases ht
      | string =>
        cases h
        match cs, ht with
        | [.string s], ht =>
          simp only at ht
          split at ht
          · rename_i hc; exact ⟨[.string s.data.toList], ⟨hc, rfl⟩, rfl, rfl⟩
          · cases ht
      | array n e =>
        simp only at h ht
        cases hs : shp P d e with
        | none => rw [hs] at h; cases h
        | some s1 =>
          rw [hs] at h
          simp only at h
          cases hc : Nat.beq (P.cellsOf e) s1.length && (Nat.beq (P.cellsOf t) ((List.range n).map fun _ => s1).flatten.length && inRow (fun i => i * P.cellsOf e) (fun _ => P.cellsOf e) 0 (List.range n)) with
          | false => rw [hc] at h; cases h
          | true =>
            rw [hc] at h
            simp only [cond_true, Option.some.injEq] at h
            subst h
            simp only [Bool.and_eq_true] at hc
            have e1 := Nat.eq_of_beq_eq_true hc.1
            have e2 := Nat.eq_of_beq_eq_true hc.2.1
            split at ht
            · rename_i hlen
              rw [Option.map_eq_some_iff] at ht
              obtain ⟨xs, hx, _⟩ := ht
              have := piecesBack (fun _ => DataW.trod enc P w base spare held fuel e) (fun i => i * P.cellsOf e) (fun _ => P.cellsOf e) (fun _ => s1) cs (List.range n) 0 xs hc.2.2 (fun _ _ => e1) (fun _ _ cs x hk => trod_shp d e s1 fuel cs x hs hk) (by rw [hlen, e2]; omega) hx
              simpa using this
            · cases ht
      | struct fs =>
        simp only at h ht
        cases hc : fs.toList.all (fieldOk P (shp P d)) && (Nat.beq (P.cellsOf t) (fs.toList.map fun f => (shp P d f.type).getD []).flatten.length && inRow (fun f => f.offset) (fun f => P.cellsOf f.type) 0 fs.toList) with
        | false => rw [hc] at h; cases h
        | true =>
          rw [hc] at h
          simp only [cond_true, Option.some.injEq] at h
          subst h
          simp only [Bool.and_eq_true, List.all_eq_true] at hc
          have e2 := Nat.eq_of_beq_eq_true hc.2.1
          split at ht
          · rename_i hlen
            rw [Option.map_eq_some_iff] at ht
            obtain ⟨xs, hx, _⟩ := ht
            refine (piecesBack (fun f => DataW.trod enc P w base spare held fuel f.type) (fun f => f.offset) (fun f => P.cellsOf f.type) (fun f => (shp P d f.type).getD []) cs fs.toList 0 xs hc.2.2 (fun f hm => ?_) (fun f hm cs x hk => ?_) (by rw [hlen, e2]; omega) hx)
            · obtain ⟨_, s1, h1, h2⟩ := fieldOk_iff (hc.1 f hm)
              rw [h1]; exact h2
            · obtain ⟨_, s1, h1, h2⟩ := fieldOk_iff (hc.1 f hm)
              rw [h1]
              exact trod_shp d f.type s1 fuel cs x h1 hk
          · cases ht
      | _ => cases h

theorem okWide_agg {t : TypeId} {r : Reach} {b0 : Nat} {v : Value} (ha : isAggT P t = true) (h : Value.okWide P w r b0 t v) : ∃ cs, v = .agg cs ∧ cs.size = P.cellsOf t := by
  unfold isAggT at ha
  unfold Value.okWide at h
  cases hu : P.underlying t with
  | none => rw [hu] at ha; cases ha
  | some u =>
    rw [hu] at ha h
    cases u <;> first
      | (cases ha; done)
      | (obtain ⟨cs, h1, h2, _⟩ := h; exact ⟨cs, h1, h2⟩)

/-- An array or struct of whole numbers of one kind alone. -/
theorem open_cl {t : TypeId} {k : IntKind} {n : Nat} {r : Reach} {b0 : Nat} {v : Value} {d : DataW H} {ps : List MemPlace} (ha : isAggT P t = true) (hs : shp P 9 t = some ((List.range n).map fun _ => Sh.ti k))
    (hv : Value.okWide P w r b0 t v) (ht : DataW.Trod enc P w base spare held t v d ps) : ∃ f : Nat → Int, inK k n f ∧ ∀ (N : Nat) (ρ : Pl) (I : Nat → Prop), RV N ρ I w (.agg (cl k n f)) v := by
  obtain ⟨cs, rfl, _⟩ := okWide_agg ha hv
  obtain ⟨fuel, hf⟩ := ht
  obtain ⟨ls, hl⟩ := trod_shp 9 t _ fuel _ _ hs hf
  have key : ∀ (n o : Nat) (c : List Value) (ls : List Lit), fitL ((List.range' o n).map fun _ => Sh.ti k) c ls → c.length = n ∧ ∀ i, i < n → ∃ x, c[i]? = some (.int k x) ∧ (Lit.int k x).wf = true := by
    intro n
    induction n with
    | zero =>
      intro o c ls h
      obtain ⟨rfl, _⟩ := h
      exact ⟨rfl, fun i hi => by omega⟩
    | succ n ih =>
      intro o c ls h
      rw [List.range'_succ] at h
      match c, ls, h with
      | a :: c, l :: ls, h =>
        obtain ⟨h1, h2⟩ := h
        obtain ⟨k1, k2⟩ := ih _ _ _ h2
        refine ⟨by simp [k1], fun i hi => ?_⟩
        cases i with
        | zero =>
          cases a <;> simp only [fit1] at h1 <;> first | exact h1.elim | skip
          obtain ⟨rfl, h3, _⟩ := h1
          exact ⟨_, rfl, h3⟩
        | succ i => exact k2 i (by omega)
      | [], _, h => exact h.elim
      | _ :: _, [], h => exact h.elim
  rw [List.range_eq_range'] at hl
  obtain ⟨k1, k2⟩ := key n 0 _ _ hl
  have hcs : (Value.agg cs).cells = cs := rfl
  rw [hcs] at k1 k2
  refine ⟨fun i => match cs[i]? with | some (.int _ x) => x | _ => 0, fun i hi => ?_, fun N ρ I => ?_⟩
  · obtain ⟨x, h1, h2⟩ := k2 i hi
    rw [Array.getElem?_toList] at h1
    simp only [h1]
    exact h2
  · simp only [RV]
    refine ⟨cs, rfl, by simp [← k1], Rc.mk fun i u hu => ?_⟩
    have hi : i < n := by
      have := (List.getElem?_eq_some_iff.1 hu).1
      simpa using this
    obtain ⟨x, h1, h2⟩ := k2 i hi
    rw [cl_get hi] at hu
    cases hu
    rw [Array.getElem?_toList] at h1
    refine ⟨.int k x, by simpa using h1, rfl, ?_⟩
    simp only [RV, h1]

/-- Naturals, for an unsigned kind. -/
theorem cl_nat {n : Nat} {f : Nat → Int} (h : inK .u64 n f) : ∃ g : Nat → Nat, (∀ i, i < n → g i < 18446744073709551616) ∧ cl .u64 n f = cl .u64 n fun i => (g i : Int) := by
  have e : ∀ i, i < n → 0 ≤ f i ∧ f i < 18446744073709551616 := by
    intro i hi
    have := h i hi
    simp [Lit.wf, IntKind.min, IntKind.max, IntKind.bits, IntKind.signed] at this
    omega
  refine ⟨fun i => (f i).toNat, fun i hi => ?_, cl_congr fun i hi => ?_⟩
  · have := e i hi; show (f i).toNat < _; omega
  · have := e i hi; show f i = ((f i).toNat : Int); omega
end
end Go.Proofs.Ytnhejkfbnjopjaa.Ab
