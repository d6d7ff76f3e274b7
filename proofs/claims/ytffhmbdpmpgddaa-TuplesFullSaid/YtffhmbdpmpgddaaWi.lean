/- One more rule in a table, in plain Lean. No condition. -/
import Derived.Test.YtffhmbdpmpgddaaWg
namespace Go.Proofs.Ytffhmbdpmpgddaa
open Go Ab
set_option linter.unusedSimpArgs false
set_option linter.unusedVariables false
set_option maxRecDepth 20000

theorem ordRw : Ord Rw ltR := by
  refine ⟨fun a => ?_, fun a b c h1 h2 => ?_, fun a b c h1 h2 => ?_⟩
  · simp [ltR]
  · simp [ltR] at h1 h2 ⊢; omega
  · simp [ltR] at h1 h2 ⊢; omega
theorem mem_set {α : Type} {l : List α} {i : Nat} {a b : α} (h : b ∈ l.set i a) : b = a ∨ ∃ j, j ≠ i ∧ l[j]? = some b := by
  obtain ⟨j, hj⟩ := List.getElem?_of_mem h
  rw [List.getElem?_set] at hj
  by_cases hij : i = j
  · rw [if_pos hij] at hj
    split at hj
    · cases hj; exact .inl rfl
    · cases hj
  · rw [if_neg hij] at hj
    exact .inr ⟨j, fun e => hij e.symm, hj⟩
theorem set_mem {α : Type} {l : List α} {i j : Nat} {a b : α} (h : l[j]? = some b) (hne : j ≠ i) : b ∈ l.set i a := List.mem_of_getElem? (i := j) (by rw [List.getElem?_set_ne (Ne.symm hne)]; exact h)
theorem set_self {α : Type} {l : List α} {i : Nat} {a b : α} (h : l[i]? = some b) : a ∈ l.set i a := List.mem_of_getElem? (i := i) (List.getElem?_set_self (List.getElem?_eq_some_iff.1 h).1)
theorem addE_keys {k : Nat → Nat} {n : Int × Int} {s' : Nat} {es : List Ent} (h : es.Pairwise fun e f => eqH e.key f.key = false) : (addE k n s' es).Pairwise fun e f => eqH e.key f.key = false := by
  unfold addE
  cases hf : fndE k es 0 with
  | none =>
    simp only
    rw [List.pairwise_append]
    refine ⟨h, List.pairwise_singleton _ _, fun a ha b hb => ?_⟩
    rw [List.mem_singleton.1 hb]
    cases e : eqH a.key k with
    | false => rfl
    | true => have := fndE_none hf a ha; rw [eqH_symm e] at this; cases this
  | some z =>
    obtain ⟨j, y⟩ := z
    obtain ⟨_, h1, h2⟩ := fndE_at hf
    rw [Nat.sub_zero] at h1
    simp only
    rw [List.pairwise_iff_getElem] at h ⊢
    obtain ⟨hj, hj2⟩ := List.getElem?_eq_some_iff.1 h1
    intro a b ha hb hab
    simp only [List.length_set] at ha hb
    simp only [List.getElem_set]
    have hlt := h a b ha hb hab
    by_cases ja : j = a
    · subst ja
      rw [if_pos rfl, if_neg (by omega)]
      rw [hj2] at hlt
      cases e : eqH k es[b].key with
      | false => rfl
      | true => rw [eqH_trans (eqH_symm h2) e] at hlt; cases hlt
    · rw [if_neg ja]
      by_cases jb : j = b
      · subst jb
        rw [if_pos rfl]
        rw [hj2] at hlt
        cases e : eqH es[a].key k with
        | false => rfl
        | true => rw [eqH_trans e h2] at hlt; cases hlt
      · rw [if_neg jb]
        exact hlt
/-- A table with one more rule holds one more rule. -/
theorem Inv.added {T T' : Tbl} {r : Ru} {L : List (Int × Ru)} (h : Inv T L) (ha : Added T r T') (hl : 0 ≤ T.last) : Inv T' (L ++ [(T.last + 1, r)]) := by
  obtain ⟨rows, i, x, s', ⟨hi, hb⟩, hr, hat, hlast⟩ := ha
  have hx : x ∈ rows := List.mem_of_getElem? hi
  obtain ⟨x', hx'⟩ : ∃ x', x' = { x with g := if r.rank > x.g then r.rank else x.g, many := x.many + 1, es := addE r.w (T.last + 1, r.rank) s' x.es } := ⟨_, rfl⟩
  rw [← hx'] at hr
  have hxm : x'.mask = x.mask := by rw [hx']
  have hxe : x'.es = addE r.w (T.last + 1, r.rank) s' x.es := by rw [hx']
  have hxg : x'.g = if r.rank > x.g then r.rank else x.g := by rw [hx']
  have hxk : eqH x.mask (ruM r) = true := by
    rcases hb with ⟨_, h1⟩ | ⟨_, _, _, h1, _⟩
    · exact h1
    · rw [h1]; exact eqH_refl _
  have hin : ∀ y ∈ rows, y ∈ T.rows ∨ (y = x ∧ x.es = []) := fun y hy => by
    rcases hb with ⟨h1, _⟩ | ⟨_, h1, _, _, _, _, h2⟩
    · rw [h1] at hy; exact .inl hy
    · rw [h1] at hy
      rcases List.mem_append.1 hy with hy | hy
      · exact .inl hy
      · exact .inr ⟨List.mem_singleton.1 hy, h2⟩
  have hsub : ∀ y ∈ T.rows, y ∈ rows := fun y hy => by
    rcases hb with ⟨h1, _⟩ | ⟨_, h1, _⟩
    · rw [h1]; exact hy
    · rw [h1]; simp [hy]
  have sound0 : ∀ y ∈ rows, ∀ e ∈ y.es, ∀ n ∈ e.ins, ∃ r, (n.1, r) ∈ L ∧ n.2 = r.rank ∧ eqH y.mask (ruM r) = true ∧ eqH e.key r.w = true := fun y hy e he n hn => by
    rcases hin y hy with hy | ⟨rfl, h2⟩
    · exact h.sound y hy e he n hn
    · rw [h2] at he; simp at he
  have keys0 : ∀ y ∈ rows, y.es.Pairwise fun e f => eqH e.key f.key = false := fun y hy => by
    rcases hin y hy with hy | ⟨rfl, h2⟩
    · exact h.keys y hy
    · rw [h2]; exact List.Pairwise.nil
  have srt0 : ∀ y ∈ rows, ∀ e ∈ y.es, srt ltIn e.ins := fun y hy e he => by
    rcases hin y hy with hy | ⟨rfl, h2⟩
    · exact h.srtI y hy e he
    · rw [h2] at he; simp at he
  have top0 : ∀ y ∈ rows, ∀ e ∈ y.es, ∀ n ∈ e.ins, n.2 ≤ y.g := fun y hy e he n hn => by
    rcases hin y hy with hy | ⟨rfl, h2⟩
    · exact h.top y hy e he n hn
    · rw [h2] at he; simp at he
  have masks0 : rows.Pairwise fun x y => eqH x.mask y.mask = false := by
    rcases hb with ⟨h1, _⟩ | ⟨h0, h1, _, h2, _⟩
    · rw [h1]; exact h.masks
    · rw [h1, List.pairwise_append]
      exact ⟨h.masks, List.pairwise_singleton _ _, fun a ha b hb => by rw [List.mem_singleton.1 hb, h2]; exact h0 a ha⟩
  have masks1 : (rows.set i x').Pairwise fun x y => eqH x.mask y.mask = false := by
    have e : (rows.set i x').map (·.mask) = rows.map (·.mask) := by
      rw [List.map_set, hxm]
      refine List.ext_getElem? fun j => ?_
      rw [List.getElem?_set]
      by_cases hij : i = j
      · subst hij
        rw [if_pos rfl, List.getElem?_map, hi]
        simp [(List.getElem?_eq_some_iff.1 hi).1]
      · rw [if_neg hij]
    have h1 : (rows.map (·.mask)).Pairwise fun a b => eqH a b = false := List.pairwise_map.2 masks0
    rw [← e] at h1
    exact List.pairwise_map.1 h1
  have hex : ∃ l0, (l0 = [] ∧ fndE r.w x.es 0 = none) ∨ ∃ j y, fndE r.w x.es 0 = some (j, y) ∧ l0 = y.ins := by
    cases e : fndE r.w x.es 0 with
    | none => exact ⟨[], .inl ⟨rfl, rfl⟩⟩
    | some z => obtain ⟨j, y⟩ := z; exact ⟨y.ins, .inr ⟨j, y, rfl, rfl⟩⟩
  obtain ⟨l0, hl0⟩ := hex
  -- what the new row's lists hold
  have hl0s : ∀ n ∈ l0, ∃ r', (n.1, r') ∈ L ∧ n.2 = r'.rank ∧ eqH x.mask (ruM r') = true ∧ eqH r.w r'.w = true ∧ n.2 ≤ x.g := fun n hn => by
    rcases hl0 with ⟨rfl, _⟩ | ⟨j, y, hf, rfl⟩
    · simp at hn
    · obtain ⟨_, h1, h2⟩ := fndE_at hf
      have hy := List.mem_of_getElem? h1
      obtain ⟨r', k1, k2, k3, k4⟩ := sound0 x hx y hy n hn
      exact ⟨r', k1, k2, k3, eqH_trans h2 k4, top0 x hx y hy n hn⟩
  have hgx : x.g ≤ x'.g ∧ r.rank ≤ x'.g := by
    rw [hxg]
    by_cases hh : r.rank > x.g
    · rw [if_pos hh]; omega
    · rw [if_neg hh]; omega
  have hmemS : ∀ y, y ∈ T'.rows ↔ y ∈ rows.set i x' := fun y => by rw [hr]; exact (ssort_perm _).mem_iff
  have hcase : ∀ y ∈ T'.rows, y = x' ∨ ∃ j, j ≠ i ∧ rows[j]? = some y := fun y hy => mem_set ((hmemS y).1 hy)
  refine ⟨fun y hy e he n hn => ?_, fun q hq => ?_, ?_, fun y hy => ?_, fun y hy e he => ?_, fun y hy e he n hn => ?_, ?_, fun q hq => ?_⟩
  · rcases hcase y hy with rfl | ⟨j, _, hj⟩
    · rw [hxe] at he
      rcases addE_mem hl0 he with rfl | ⟨he2, _⟩
      · simp only at hn ⊢
        have hn2 := (ssort_perm _).mem_iff.1 hn
        rcases List.mem_append.1 hn2 with hn2 | hn2
        · obtain ⟨r', k1, k2, k3, k4, _⟩ := hl0s n hn2
          exact ⟨r', by simp [k1], k2, by rw [hxm]; exact k3, k4⟩
        · rw [List.mem_singleton.1 hn2]
          exact ⟨r, by simp, rfl, by rw [hxm]; exact hxk, eqH_refl _⟩
      · obtain ⟨r', k1, k2, k3, k4⟩ := sound0 x hx e he2 n hn
        exact ⟨r', by simp [k1], k2, by rw [hxm]; exact k3, k4⟩
    · obtain ⟨r', k1, k2, k3, k4⟩ := sound0 y (List.mem_of_getElem? hj) e he n hn
      exact ⟨r', by simp [k1], k2, k3, k4⟩
  · have newE : ∃ e ∈ x'.es, e = ⟨r.w, ssort ltIn (l0 ++ [(T.last + 1, r.rank)]), s'⟩ := by
      rw [hxe]
      unfold addE
      rcases hl0 with ⟨rfl, hf⟩ | ⟨j, y, hf, rfl⟩
      · rw [hf]
        exact ⟨⟨r.w, [(T.last + 1, r.rank)], s'⟩, List.mem_append.2 (.inr (by simp)), by rw [List.nil_append, ssort_one]⟩
      · rw [hf]
        obtain ⟨_, h1, _⟩ := fndE_at hf
        rw [Nat.sub_zero] at h1
        exact ⟨_, set_self h1, rfl⟩
    have hx'm : x' ∈ T'.rows := (hmemS x').2 (set_self hi)
    rcases List.mem_append.1 hq with hq | hq
    · obtain ⟨y, hy, e, he, h1, h2, h3⟩ := h.full q hq
      obtain ⟨a, ha⟩ := List.getElem?_of_mem (hsub y hy)
      by_cases hai : a = i
      · subst hai
        rw [hi] at ha
        cases ha
        obtain ⟨b, hb'⟩ := List.getElem?_of_mem he
        rcases hl0 with ⟨rfl, hf⟩ | ⟨j, z, hf, rfl⟩
        · refine ⟨x', hx'm, e, ?_, h1, by rw [hxm]; exact h2, h3⟩
          rw [hxe]
          unfold addE
          rw [hf]
          exact List.mem_append.2 (.inl he)
        · obtain ⟨_, g1, g2⟩ := fndE_at hf
          rw [Nat.sub_zero] at g1
          by_cases hbj : b = j
          · subst hbj
            rw [g1] at hb'
            cases hb'
            obtain ⟨e', he', rfl⟩ := newE
            exact ⟨x', hx'm, _, he', (ssort_perm _).mem_iff.2 (by simp [h1]), by rw [hxm]; exact h2, eqH_trans g2 h3⟩
          · refine ⟨x', hx'm, e, ?_, h1, by rw [hxm]; exact h2, h3⟩
            rw [hxe]
            unfold addE
            rw [hf]
            exact set_mem hb' hbj
      · exact ⟨y, (hmemS y).2 (set_mem ha hai), e, he, h1, h2, h3⟩
    · rw [List.mem_singleton.1 hq]
      obtain ⟨e', he', rfl⟩ := newE
      exact ⟨x', hx'm, _, he', (ssort_perm _).mem_iff.2 (by simp), by rw [hxm]; exact hxk, eqH_refl _⟩
  · rw [hr]
    refine (List.Perm.pairwise_iff (fun {a b} hh => ?_) (ssort_perm _)).2 masks1
    cases e : eqH b.mask a.mask with
    | false => rfl
    | true => rw [eqH_symm e] at hh; cases hh
  · rcases hcase y hy with rfl | ⟨j, _, hj⟩
    · rw [hxe]; exact addE_keys (keys0 x hx)
    · exact keys0 y (List.mem_of_getElem? hj)
  · rcases hcase y hy with rfl | ⟨j, _, hj⟩
    · rw [hxe] at he
      rcases addE_mem hl0 he with rfl | ⟨he2, _⟩
      · exact ssort_srt ordIn _
      · exact srt0 x hx e he2
    · exact srt0 y (List.mem_of_getElem? hj) e he
  · rcases hcase y hy with rfl | ⟨j, _, hj⟩
    · rw [hxe] at he
      rcases addE_mem hl0 he with rfl | ⟨he2, _⟩
      · rcases List.mem_append.1 ((ssort_perm _).mem_iff.1 hn) with hn2 | hn2
        · obtain ⟨r', _, _, _, _, k⟩ := hl0s n hn2
          omega
        · rw [List.mem_singleton.1 hn2]; exact hgx.2
      · have := top0 x hx e he2 n hn
        omega
    · exact top0 y (List.mem_of_getElem? hj) e he n hn
  · rw [hr]; exact ssort_srt ordRw _
  · rcases List.mem_append.1 hq with hq | hq
    · exact h.pos q hq
    · rw [List.mem_singleton.1 hq]; simp only; omega
/-- How great a table is after some rules were added. -/
structure Bn (T : Tbl) (N : Nat) : Prop where
  masks : ∀ x ∈ T.rows, U64 11 x.mask
  keys : ∀ x ∈ T.rows, ∀ e ∈ x.es, U64 11 e.key
  num : T.rows.length ≤ N
  nums : ∀ x ∈ T.rows, ∀ e ∈ x.es, e.ins.length ≤ N
  many : ∀ x ∈ T.rows, 0 ≤ x.many ∧ x.many ≤ N
  last : T.last = N
  at_ : T.at_.length ≤ N
  ids : ∀ x ∈ T.at_, x.1 ≤ T.last
theorem Bn.ok {T : Tbl} {N : Nat} (h : Bn T N) (hN : N < 100000) : TOk T :=
  ⟨h.masks, h.keys, by have := h.num; omega, fun x hx e he => by have := h.nums x hx e he; omega, fun x hx => by have := h.many x hx; omega, by have := h.last; omega, h.ids⟩
theorem Bn.added {T T' : Tbl} {r : Ru} {N : Nat} (h : Bn T N) (ha : Added T r T') (hr : U64 22 r.w) : Bn T' (N + 1) := by
  obtain ⟨rows, i, x, s', ⟨hi, hb⟩, hrw, hat, hlast⟩ := ha
  have hx : x ∈ rows := List.mem_of_getElem? hi
  have hkw : U64 11 r.w := fun i hi => hr i (by omega)
  have hkm : U64 11 (ruM r) := fun i hi => hr _ (by omega)
  have hin : ∀ y ∈ rows, U64 11 y.mask ∧ (∀ e ∈ y.es, U64 11 e.key ∧ e.ins.length ≤ N) ∧ 0 ≤ y.many ∧ y.many ≤ N := fun y hy => by
    have old : ∀ y ∈ T.rows, U64 11 y.mask ∧ (∀ e ∈ y.es, U64 11 e.key ∧ e.ins.length ≤ N) ∧ 0 ≤ y.many ∧ y.many ≤ N := fun y hy =>
      ⟨h.masks y hy, fun e he => ⟨h.keys y hy e he, h.nums y hy e he⟩, h.many y hy⟩
    rcases hb with ⟨h1, _⟩ | ⟨_, h1, _, h2, _, h3, h4⟩
    · rw [h1] at hy; exact old y hy
    · rw [h1] at hy
      rcases List.mem_append.1 hy with hy | hy
      · exact old y hy
      · rw [List.mem_singleton.1 hy]
        exact ⟨by rw [h2]; exact hkm, by rw [h4]; intro e he; simp at he, by rw [h3]; omega, by rw [h3]; omega⟩
  have hrl : rows.length ≤ N + 1 := by
    have := h.num
    rcases hb with ⟨h1, _⟩ | ⟨_, h1, _⟩
    · rw [h1]; omega
    · rw [h1]; simp; omega
  have hex : ∃ l0, ((l0 = [] ∧ fndE r.w x.es 0 = none) ∨ ∃ j y, fndE r.w x.es 0 = some (j, y) ∧ l0 = y.ins) ∧ l0.length ≤ N := by
    cases e : fndE r.w x.es 0 with
    | none => exact ⟨[], .inl ⟨rfl, rfl⟩, by simp⟩
    | some z =>
      obtain ⟨j, y⟩ := z
      obtain ⟨_, h1, _⟩ := fndE_at e
      exact ⟨y.ins, .inr ⟨j, y, rfl, rfl⟩, ((hin x hx).2.1 y (List.mem_of_getElem? h1)).2⟩
  obtain ⟨l0, hl0, hll⟩ := hex
  have hnew : ∀ y ∈ T'.rows, U64 11 y.mask ∧ (∀ e ∈ y.es, U64 11 e.key ∧ e.ins.length ≤ N + 1) ∧ 0 ≤ y.many ∧ y.many ≤ (N : Int) + 1 := fun y hy => by
    rw [hrw] at hy
    rcases mem_set ((ssort_perm _).mem_iff.1 hy) with rfl | ⟨j, _, hj⟩
    · obtain ⟨k1, k2, k3, k4⟩ := hin x hx
      refine ⟨k1, fun e he => ?_, by simp only; omega, by simp only; omega⟩
      rcases addE_mem hl0 he with rfl | ⟨he2, _⟩
      · refine ⟨hkw, ?_⟩
        simp only [ssort_len, List.length_append, List.length_cons, List.length_nil]
        omega
      · have := k2 e he2
        exact ⟨this.1, by omega⟩
    · obtain ⟨k1, k2, k3, k4⟩ := hin y (List.mem_of_getElem? hj)
      exact ⟨k1, fun e he => ⟨(k2 e he).1, by have := (k2 e he).2; omega⟩, k3, by omega⟩
  refine ⟨fun y hy => (hnew y hy).1, fun y hy e he => ((hnew y hy).2.1 e he).1, by rw [hrw, ssort_len, List.length_set]; exact hrl, fun y hy e he => ((hnew y hy).2.1 e he).2, fun y hy => ⟨(hnew y hy).2.2.1, by have := (hnew y hy).2.2.2; omega⟩, by rw [hlast, h.last]; omega, ?_, ?_⟩
  · rw [hat]
    have := h.at_
    simp
    omega
  · rw [hat, hlast]
    intro y hy
    rcases List.mem_append.1 hy with hy | hy
    · have := h.ids y hy; omega
    · rw [List.mem_singleton.1 hy]; exact Int.le_refl _
/-- The rules of a table that hit a header. -/
theorem hits_iff {r : Ru} {h : Nat → Nat} (hr : U64 22 r.w) (hh : U64 11 h) (hc : chk r.w = true) : eqH (undH h (ruM r)) r.w = true ↔ hits r.w h = true := by
  have h1 := (chk_iff r.w hr).1 hc
  rw [eqH_iff]
  unfold hits
  rw [hc, Bool.true_and, List.all_eq_true]
  constructor
  · intro k j hj
    have hj' : j < 11 := by simpa using hj
    have := hit_two (h j) (r.w j) (r.w (11 + j)) (h1 j hj').2
    unfold hitAt
    rw [← this, decide_eq_true_eq]
    exact k j hj'
  · intro k j hj
    have := k j (by simpa using hj)
    unfold hitAt at this
    rw [← hit_two (h j) (r.w j) (r.w (11 + j)) (h1 j hj).2, decide_eq_true_eq] at this
    exact this
/-- What is found is the best of all that hit. -/
theorem find_best {m : Mem} {p : Nat} {T : Tbl} {L : List (Int × Ru)} {h : Nat → Nat} (hT : TB m p T) (hi : Inv T L) (hL : ∀ q ∈ L, U64 22 q.2.w ∧ chk q.2.w = true) (hh : U64 11 h) :
    Best (fun n => ∃ r, (n.1, r) ∈ L ∧ n.2 = r.rank ∧ hits r.w h = true) (fndB h T.rows (0, 0)) := by
  have pos : ∀ x ∈ T.rows, ∀ e ∈ x.es, ∀ n ∈ e.ins, n.2 ≤ x.g ∧ 0 < n.1 := fun x hx e he n hn => by
    obtain ⟨r, h1, _⟩ := hi.sound x hx e he n hn
    exact ⟨hi.top x hx e he n hn, hi.pos _ h1⟩
  have hb := fndB_best (h := h) (R := T.rows) (b := (0, 0)) (P := fun _ => False) (.inl ⟨rfl, fun _ hn => hn⟩) hi.keys (fun x hx e he => ⟨hi.srtI x hx e he, (hT.tr x hx).ne e he⟩) pos hi.srtR
  have e : (fun n => False ∨ cand h T.rows n) = fun n => ∃ r, (n.1, r) ∈ L ∧ n.2 = r.rank ∧ hits r.w h = true := by
    funext n
    apply propext
    rw [false_or]
    constructor
    · rintro ⟨x, hx, e, he, h1, h2⟩
      obtain ⟨r, k1, k2, k3, k4⟩ := hi.sound x hx e he n h2
      refine ⟨r, k1, k2, ?_⟩
      obtain ⟨g1, g2⟩ := hL _ k1
      rw [← hits_iff g1 hh g2]
      have : eqH (undH h (ruM r)) (undH h x.mask) = true := eqH_iff.2 fun i hi => by
        unfold undH
        rw [eqH_iff.1 k3 i hi]
      exact eqH_trans this (eqH_trans h1 k4)
    · rintro ⟨r, k1, k2, k3⟩
      obtain ⟨g1, g2⟩ := hL _ k1
      rw [← hits_iff g1 hh g2] at k3
      obtain ⟨x, hx, e, he, q1, q2, q3⟩ := hi.full _ k1
      have h0 : n = (n.1, r.rank) := by rw [← k2]
      refine ⟨x, hx, e, he, ?_, by rw [h0]; exact q1⟩
      have : eqH (undH h x.mask) (undH h (ruM r)) = true := eqH_iff.2 fun i hi => by
        unfold undH
        rw [eqH_iff.1 q2 i hi]
      exact eqH_trans this (eqH_trans k3 (eqH_symm q3))
  rw [← e]
  exact hb
end Go.Proofs.Ytffhmbdpmpgddaa
