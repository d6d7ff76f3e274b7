/- One rule more in a table; how many rows there are; the table's lesser answers. No condition. -/
import Derived.Test.YtffhmbdpmpgddaaWr
namespace Go.Proofs.Ytffhmbdpmpgddaa
open Go Ab
set_option linter.unusedSimpArgs false
set_option linter.unusedVariables false
set_option maxRecDepth 20000

theorem Inv2.added {T T' : Tbl} {r : Ru} {L : List (Int × Ru)} (h : Inv2 T L) (ha : Added T r T') (hl : 0 ≤ T.last) : Inv2 T' (L ++ [(T.last + 1, r)]) := by
  have hinv := h.inv.added ha hl
  obtain ⟨rows, i, x, s', ⟨hi, hb⟩, hr, hat, hlast⟩ := ha
  have hx : x ∈ rows := List.mem_of_getElem? hi
  obtain ⟨x', hx'⟩ : ∃ x', x' = { x with g := if r.rank > x.g then r.rank else x.g, many := x.many + 1, es := addE r.w (T.last + 1, r.rank) s' x.es } := ⟨_, rfl⟩
  rw [← hx'] at hr
  have hxe : x'.es = addE r.w (T.last + 1, r.rank) s' x.es := by rw [hx']
  have hold : ∀ y ∈ rows, (y ∈ T.rows) ∨ (y = x ∧ x.es = [] ∧ x.many = 0) := fun y hy => by
    rcases hb with ⟨h1, _⟩ | ⟨_, h1, _, _, _, h3, h2⟩
    · rw [h1] at hy; exact .inl hy
    · rw [h1] at hy
      rcases List.mem_append.1 hy with hy | hy
      · exact .inl hy
      · exact .inr ⟨List.mem_singleton.1 hy, h2, h3⟩
  have many0 : ∀ y ∈ rows, y.many = (cnt y : Int) := fun y hy => by
    rcases hold y hy with hy | ⟨rfl, h1, h2⟩
    · exact h.many y hy
    · unfold cnt
      rw [h1, h2]
      rfl
  have ent0 : ∀ y ∈ rows, ∀ e ∈ y.es, (e.ins.map (·.1)).Nodup ∧ e.ins ≠ [] ∧ ∀ n ∈ e.ins, n.1 ≤ T.last := fun y hy e he => by
    rcases hold y hy with hy | ⟨rfl, h1, _⟩
    · exact ⟨h.nod y hy e he, h.ne y hy e he, fun n hn => by
        obtain ⟨r', k1, _⟩ := h.inv.sound y hy e he n hn
        exact h.last _ k1⟩
    · rw [h1] at he; simp at he
  have hex : ∃ l0, (l0 = [] ∧ fndE r.w x.es 0 = none) ∨ ∃ j y, fndE r.w x.es 0 = some (j, y) ∧ l0 = y.ins := by
    cases e : fndE r.w x.es 0 with
    | none => exact ⟨[], .inl ⟨rfl, rfl⟩⟩
    | some z => obtain ⟨j, y⟩ := z; exact ⟨y.ins, .inr ⟨j, y, rfl, rfl⟩⟩
  obtain ⟨l0, hl0⟩ := hex
  have hl0n : (l0.map (·.1)).Nodup ∧ ∀ n ∈ l0, n.1 ≤ T.last := by
    rcases hl0 with ⟨rfl, _⟩ | ⟨j, y, hf, rfl⟩
    · exact ⟨List.nodup_nil, fun n hn => by simp at hn⟩
    · obtain ⟨_, h1, _⟩ := fndE_at hf
      have := ent0 x hx y (List.mem_of_getElem? h1)
      exact ⟨this.1, this.2.2⟩
  have hcnt : cnt x' = cnt x + 1 := by
    unfold cnt
    rw [hxe]
    unfold addE
    rcases hl0 with ⟨rfl, hf⟩ | ⟨j, y, hf, rfl⟩
    · rw [hf]
      simp
    · rw [hf]
      obtain ⟨_, h1, _⟩ := fndE_at hf
      rw [Nat.sub_zero] at h1
      obtain ⟨A, C, hAC, hAl⟩ := split_at h1
      simp only
      rw [hAC, ← hAl, set_split, sum_split, sum_split]
      simp only [ssort_len, List.length_append, List.length_cons, List.length_nil]
      omega
  have hcase : ∀ y ∈ T'.rows, y = x' ∨ y ∈ rows := fun y hy => by
    rw [hr] at hy
    rcases mem_set ((ssort_perm _).mem_iff.1 hy) with hh | ⟨j, _, hj⟩
    · exact .inl hh
    · exact .inr (List.mem_of_getElem? hj)
  have hnewr : ∀ y ∈ T'.rows, y = x' ∨ y ∈ T.rows := fun y hy => by
    rw [hr] at hy
    rcases mem_set ((ssort_perm _).mem_iff.1 hy) with hh | ⟨j, hji, hj⟩
    · exact .inl hh
    · rcases hb with ⟨h1, _⟩ | ⟨_, h1, h4, _⟩
      · rw [h1] at hj; exact .inr (List.mem_of_getElem? hj)
      · rw [h1] at hj
        have hjl := (List.getElem?_eq_some_iff.1 hj).1
        simp at hjl
        rw [List.getElem?_append_left (by omega)] at hj
        exact .inr (List.mem_of_getElem? hj)
  refine ⟨hinv, ?_, ?_, fun q hq => ?_, fun y hy => ?_, fun y hy => ?_, fun y hy e he => ?_, fun y hy e he => ?_⟩
  · rw [hat, h.at_, List.map_append]
    rfl
  · rw [List.pairwise_append]
    exact ⟨h.ids, List.pairwise_singleton _ _, fun a ha b hb => by
      rw [List.mem_singleton.1 hb]
      have := h.last a ha
      simp only
      omega⟩
  · rw [hlast]
    rcases List.mem_append.1 hq with hq | hq
    · have := h.last q hq; omega
    · rw [List.mem_singleton.1 hq]; exact Int.le_refl _
  · rcases hcase y hy with rfl | hy
    · rw [hcnt]
      have := many0 x hx
      rw [show y.many = x.many + 1 by rw [hx']]
      omega
    · exact many0 y hy
  · rcases hnewr y hy with rfl | hy
    · rw [hxe]
      intro e
      unfold addE at e
      rcases hl0 with ⟨rfl, hf⟩ | ⟨j, z, hf, rfl⟩
      · rw [hf] at e; simp at e
      · rw [hf] at e
        obtain ⟨_, h1, _⟩ := fndE_at hf
        simp only at e
        have := congrArg List.length e
        have h2 := (List.getElem?_eq_some_iff.1 h1).1
        simp only [List.length_set, List.length_nil] at this
        omega
    · exact h.rowne y hy
  · rcases hcase y hy with rfl | hy
    · rw [hxe] at he
      rcases addE_mem hl0 he with rfl | ⟨he2, _⟩
      · simp only
        refine (((ssort_perm (lt := ltIn) (l0 ++ [(T.last + 1, r.rank)])).map (·.1)).nodup_iff).2 ?_
        rw [List.map_append, List.nodup_append]
        refine ⟨hl0n.1, by simp, fun a ha b hb => ?_⟩
        simp only [List.map_cons, List.map_nil, List.mem_singleton] at hb
        obtain ⟨n, hn, rfl⟩ := List.mem_map.1 ha
        have := hl0n.2 n hn
        omega
      · exact (ent0 x hx e he2).1
    · exact (ent0 y hy e he).1
  · rcases hcase y hy with rfl | hy
    · rw [hxe] at he
      rcases addE_mem hl0 he with rfl | ⟨he2, _⟩
      · intro e
        have := congrArg List.length e
        simp [ssort_len] at this
      · exact (ent0 x hx e he2).2.1
    · exact (ent0 y hy e he).2.1
theorem Inv2.new {T : Tbl} (h1 : T.rows = []) (h2 : T.at_ = []) : Inv2 T [] :=
  ⟨⟨fun _ h => by rw [h1] at h; simp at h, fun _ h => by simp at h, by rw [h1]; exact List.Pairwise.nil, fun _ h => by rw [h1] at h; simp at h, fun _ h => by rw [h1] at h; simp at h, fun _ h => by rw [h1] at h; simp at h, by rw [h1]; exact List.Pairwise.nil, fun _ h => by simp at h⟩,
    by rw [h2]; rfl, List.Pairwise.nil, fun _ h => by simp at h, fun _ h => by rw [h1] at h; simp at h, fun _ h => by rw [h1] at h; simp at h, fun _ h => by rw [h1] at h; simp at h, fun _ h => by rw [h1] at h; simp at h⟩
theorem Bn.dropped {T T' : Tbl} {N : Nat} {id : Int} {r : Ru} {k i j : Nat} {x : Rw} {y : Ent} (h : Bn T N) (hr : U64 22 r.w) (hi : T.rows[i]? = some x) (hf : fndE r.w x.es 0 = some (j, y)) (hm : 1 ≤ x.many) (hd : Dropped T id r k i x T') : Bn T' N := by
  obtain ⟨hat, hlast, hrows⟩ := hd
  have hxm := List.mem_of_getElem? hi
  obtain ⟨_, hj, _⟩ := fndE_at hf
  rw [Nat.sub_zero] at hj
  have hym := List.mem_of_getElem? hj
  have hkw : U64 11 r.w := fun i hi => hr i (by omega)
  have hat' : T'.at_.length ≤ N ∧ ∀ z ∈ T'.at_, z.1 ≤ T'.last := by
    rw [hat, hlast]
    refine ⟨?_, fun z hz => h.ids z (List.mem_of_mem_eraseIdx hz)⟩
    have := h.at_
    rw [List.length_eraseIdx]
    split <;> omega
  have hcut : ∀ e ∈ cutE r.w id x.es, U64 11 e.key ∧ e.ins.length ≤ N := fun e he => by
    rcases cutE_mem hf he with ⟨rfl, _⟩ | ⟨a, _, ha⟩
    · refine ⟨hkw, ?_⟩
      have := h.nums x hxm y hym
      have h2 := List.length_filter_le (fun n : Int × Int => !decide (n.1 = id)) y.ins
      simp only
      omega
    · exact ⟨h.keys x hxm e (List.mem_of_getElem? ha), h.nums x hxm e (List.mem_of_getElem? ha)⟩
  rcases hrows with ⟨_, hr⟩ | ⟨_, G, _, hr⟩
  · have hmem : ∀ z ∈ T'.rows, z ∈ T.rows := fun z hz => by rw [hr] at hz; exact List.mem_of_mem_eraseIdx hz
    refine ⟨fun z hz => h.masks z (hmem z hz), fun z hz => h.keys z (hmem z hz), ?_, fun z hz => h.nums z (hmem z hz), fun z hz => h.many z (hmem z hz), by rw [hlast]; exact h.last, hat'.1, hat'.2⟩
    rw [hr, List.length_eraseIdx]
    have := h.num
    split <;> omega
  · have hcase : ∀ z ∈ T'.rows, z = { x with g := G, many := x.many - 1, es := cutE r.w id x.es } ∨ z ∈ T.rows := fun z hz => by
      rw [hr] at hz
      rcases mem_set ((ssort_perm _).mem_iff.1 hz) with hh | ⟨a, _, ha⟩
      · exact .inl hh
      · exact .inr (List.mem_of_getElem? ha)
    have hmx := h.many x hxm
    refine ⟨fun z hz => ?_, fun z hz e he => ?_, ?_, fun z hz e he => ?_, fun z hz => ?_, by rw [hlast]; exact h.last, hat'.1, hat'.2⟩
    · rcases hcase z hz with rfl | hz
      · exact h.masks x hxm
      · exact h.masks z hz
    · rcases hcase z hz with rfl | hz
      · exact (hcut e he).1
      · exact h.keys z hz e he
    · rw [hr, ssort_len, List.length_set]; exact h.num
    · rcases hcase z hz with rfl | hz
      · exact (hcut e he).2
      · exact h.nums z hz e he
    · rcases hcase z hz with rfl | hz
      · simp only; omega
      · exact h.many z hz

/-! ### How many rows there are -/
/-- How many masks there are. -/
def fsts : List (Nat → Nat) → Nat
  | [] => 0
  | a :: r => fsts r + (bif r.any (fun b => eqH b a) then 0 else 1)
theorem fsts_rows : ∀ {L R : List (Nat → Nat)}, R.Pairwise (fun a b => eqH a b = false) → (∀ l ∈ L, ∃ r ∈ R, eqH r l = true) → (∀ r ∈ R, ∃ l ∈ L, eqH r l = true) → fsts L = R.length
  | [], R, _, _, h3 => by
    cases R with
    | nil => rfl
    | cons a r => obtain ⟨l, hl, _⟩ := h3 a (by simp); simp at hl
  | a :: L, R, h1, h2, h3 => by
    simp only [fsts]
    cases e : L.any (fun b => eqH b a) with
    | true =>
      rw [List.any_eq_true] at e
      obtain ⟨b, hb, hba⟩ := e
      rw [fsts_rows h1 (fun l hl => h2 l (by simp [hl])) fun r hr => ?_]
      · rfl
      · obtain ⟨l, hl, hrl⟩ := h3 r hr
        rcases List.mem_cons.1 hl with rfl | hl
        · exact ⟨b, hb, eqH_trans hrl (eqH_symm hba)⟩
        · exact ⟨l, hl, hrl⟩
    | false =>
      obtain ⟨r, hr, hra⟩ := h2 a (by simp)
      obtain ⟨A, C, rfl⟩ := List.append_of_mem hr
      rw [List.pairwise_append, List.pairwise_cons] at h1
      obtain ⟨p1, ⟨p2, p3⟩, p4⟩ := h1
      have hno : ∀ b ∈ L, eqH b a = false := fun b hb => by
        cases e2 : eqH b a with
        | false => rfl
        | true => rw [List.any_eq_false] at e; exact absurd e2 (e b hb)
      have := fsts_rows (L := L) (R := A ++ C) (by rw [List.pairwise_append]; exact ⟨p1, p3, fun x hx y hy => p4 x hx y (by simp [hy])⟩) (fun l hl => by
        obtain ⟨z, hz, hzl⟩ := h2 l (by simp [hl])
        simp only [List.mem_append, List.mem_cons] at hz
        rcases hz with hz | rfl | hz
        · exact ⟨z, by simp [hz], hzl⟩
        · have := hno l hl
          rw [eqH_trans (eqH_symm hzl) hra] at this
          cases this
        · exact ⟨z, by simp [hz], hzl⟩) (fun z hz => by
        have hzm : z ∈ A ++ r :: C := by
          rcases List.mem_append.1 hz with hz | hz
          · simp [hz]
          · simp [hz]
        obtain ⟨l, hl, hzl⟩ := h3 z hzm
        rcases List.mem_cons.1 hl with rfl | hl
        · rcases List.mem_append.1 hz with hz | hz
          · have := p4 z hz r (by simp)
            rw [eqH_trans hzl (eqH_symm hra)] at this
            cases this
          · have := p2 z hz
            rw [eqH_trans hra (eqH_symm hzl)] at this
            cases this
        · exact ⟨l, hl, hzl⟩)
      rw [this]
      simp only [cond_false, List.length_append, List.length_cons]
      omega
theorem Inv2.rows {T : Tbl} {L : List (Int × Ru)} (h : Inv2 T L) : T.rows.length = fsts (L.reverse.map fun q => ruM q.2) := by
  rw [← List.length_map (f := fun x : Rw => x.mask)]
  refine (fsts_rows (List.pairwise_map.2 h.inv.masks) (fun l hl => ?_) fun r hr => ?_).symm
  · obtain ⟨q, hq, rfl⟩ := List.mem_map.1 hl
    obtain ⟨x, hx, _, _, _, h2, _⟩ := h.inv.full q (List.mem_reverse.1 hq)
    exact ⟨x.mask, List.mem_map.2 ⟨x, hx, rfl⟩, h2⟩
  · obtain ⟨x, hx, rfl⟩ := List.mem_map.1 hr
    obtain ⟨e, he⟩ := List.exists_mem_of_ne_nil _ (h.rowne x hx)
    obtain ⟨n, hn⟩ := List.exists_mem_of_ne_nil _ (h.ne x hx e he)
    obtain ⟨r', k1, _, k3, _⟩ := h.inv.sound x hx e he n hn
    exact ⟨_, List.mem_map.2 ⟨_, List.mem_reverse.2 k1, rfl⟩, k3⟩
end Go.Proofs.Ytffhmbdpmpgddaa
