/- One rule less in a table, in plain Lean; how many rows there are. No condition. -/
import Derived.Test.YtffhmbdpmpgddaaWq
namespace Go.Proofs.Ytffhmbdpmpgddaa
open Go Ab
set_option linter.unusedSimpArgs false
set_option linter.unusedVariables false
set_option maxRecDepth 20000

def cnt (x : Rw) : Nat := (x.es.map (·.ins.length)).sum
/-- All that is known of a table that holds some rules with their numbers. -/
structure Inv2 (T : Tbl) (L : List (Int × Ru)) : Prop where
  inv : Inv T L
  at_ : T.at_ = L.map fun q => (q.1, V.agg (ruC { q.2 with cp := .nils }))
  ids : L.Pairwise fun a b => a.1 < b.1
  last : ∀ q ∈ L, q.1 ≤ T.last
  many : ∀ x ∈ T.rows, x.many = (cnt x : Int)
  rowne : ∀ x ∈ T.rows, x.es ≠ []
  nod : ∀ x ∈ T.rows, ∀ e ∈ x.es, (e.ins.map (·.1)).Nodup
  ne : ∀ x ∈ T.rows, ∀ e ∈ x.es, e.ins ≠ []

/-! ### Lists -/
theorem split_at {α : Type} {l : List α} {j : Nat} {y : α} (h : l[j]? = some y) : ∃ A C, l = A ++ y :: C ∧ A.length = j := by
  obtain ⟨h1, h2⟩ := List.getElem?_eq_some_iff.1 h
  refine ⟨l.take j, l.drop (j + 1), ?_, by simp; omega⟩
  rw [← h2, ← List.drop_eq_getElem_cons h1, List.take_append_drop]
theorem set_split {α : Type} {A C : List α} {y z : α} : (A ++ y :: C).set A.length z = A ++ z :: C := by simp
theorem erase_split {α : Type} {A C : List α} {y : α} : (A ++ y :: C).eraseIdx A.length = A ++ C := by
  rw [List.eraseIdx_append_of_length_le (Nat.le_refl _), Nat.sub_self]
  rfl
theorem sum_split (f : Ent → Nat) (A C : List Ent) (y : Ent) : ((A ++ y :: C).map f).sum = (A.map f).sum + f y + (C.map f).sum := by
  simp [Nat.add_assoc]
theorem pw_eq {α : Type} {f : α → (Nat → Nat)} {l : List α} (h : l.Pairwise fun a b => eqH (f a) (f b) = false) {i j : Nat} {a b : α} (ha : l[i]? = some a) (hb : l[j]? = some b) (he : eqH (f a) (f b) = true) : i = j := by
  rw [List.pairwise_iff_getElem] at h
  obtain ⟨a1, a2⟩ := List.getElem?_eq_some_iff.1 ha
  obtain ⟨b1, b2⟩ := List.getElem?_eq_some_iff.1 hb
  rcases Nat.lt_trichotomy i j with hl | hl | hl
  · have := h i j a1 b1 hl
    rw [a2, b2, he] at this
    cases this
  · exact hl
  · have := h j i b1 a1 hl
    rw [a2, b2, eqH_symm he] at this
    cases this
theorem ids_eq {L : List (Int × Ru)} (h : L.Pairwise fun a b => a.1 < b.1) {a b : Int × Ru} (ha : a ∈ L) (hb : b ∈ L) (he : a.1 = b.1) : a = b := by
  rw [List.pairwise_iff_getElem] at h
  obtain ⟨i, hi⟩ := List.getElem?_of_mem ha
  obtain ⟨j, hj⟩ := List.getElem?_of_mem hb
  obtain ⟨a1, a2⟩ := List.getElem?_eq_some_iff.1 hi
  obtain ⟨b1, b2⟩ := List.getElem?_eq_some_iff.1 hj
  rcases Nat.lt_trichotomy i j with hl | hl | hl
  · have := h i j a1 b1 hl
    rw [a2, b2] at this
    omega
  · subst hl
    rw [← a2, ← b2]
  · have := h j i b1 a1 hl
    rw [a2, b2] at this
    omega
theorem erase_filter {L : List (Int × Ru)} (h : L.Pairwise fun a b => a.1 < b.1) {k : Nat} {q : Int × Ru} (hk : L[k]? = some q) : L.eraseIdx k = L.filter fun x => !decide (x.1 = q.1) := by
  obtain ⟨A, C, rfl, hl⟩ := split_at hk
  rw [← hl, erase_split, List.filter_append, List.filter_cons]
  rw [List.pairwise_append, List.pairwise_cons] at h
  obtain ⟨_, ⟨h1, _⟩, h2⟩ := h
  have hA : A.filter (fun x => !decide (x.1 = q.1)) = A := List.filter_eq_self.2 fun a ha => by
    have := h2 a ha q (by simp)
    simp
    omega
  have hC : C.filter (fun x => !decide (x.1 = q.1)) = C := List.filter_eq_self.2 fun a ha => by
    have := h1 a ha
    simp
    omega
  rw [hA, hC]
  simp
theorem filter_one {l : List (Int × Int)} {id : Int} (hn : (l.map (·.1)).Nodup) (h : ∃ n ∈ l, n.1 = id) : (l.filter fun n => !decide (n.1 = id)).length + 1 = l.length := by
  induction l with
  | nil => obtain ⟨_, h, _⟩ := h; simp at h
  | cons a r ih =>
    simp only [List.map_cons, List.nodup_cons] at hn
    by_cases ha : a.1 = id
    · have : r.filter (fun n => !decide (n.1 = id)) = r := List.filter_eq_self.2 fun b hb => by
        have : b.1 ≠ id := fun e => hn.1 (List.mem_map.2 ⟨b, hb, by rw [e, ha]⟩)
        simp [this]
      rw [List.filter_cons, if_neg (by simp [ha]), this]
      rfl
    · obtain ⟨n, hn1, hn2⟩ := h
      rcases List.mem_cons.1 hn1 with rfl | hn1
      · exact absurd hn2 ha
      · have := ih hn.2 ⟨n, hn1, hn2⟩
        rw [List.filter_cons, if_pos (by simp [ha])]
        simp only [List.length_cons]
        omega
theorem cnt_two {es : List Ent} {a b : Int × Int} {i j : Nat} {e f : Ent} (hi : es[i]? = some e) (hj : es[j]? = some f) (ha : a ∈ e.ins) (hb : b ∈ f.ins) (hne : a ≠ b) : 2 ≤ (es.map (·.ins.length)).sum := by
  have h1 : ∀ {l : List (Int × Int)} {a : Int × Int}, a ∈ l → 1 ≤ l.length := fun h => List.length_pos_of_mem h
  have two : ∀ {l : List (Int × Int)}, a ∈ l → b ∈ l → 2 ≤ l.length := fun {l} h2 h3 => by
    match l, h2, h3 with
    | [x], h2, h3 => rw [List.mem_singleton.1 h2, List.mem_singleton.1 h3] at hne; exact absurd rfl hne
    | _ :: _ :: _, _, _ => simp
  by_cases hij : i = j
  · subst hij
    rw [hi] at hj
    cases hj
    obtain ⟨A, C, rfl, _⟩ := split_at hi
    rw [sum_split]
    have := two ha hb
    omega
  · have g2 := h1 hb
    obtain ⟨A, C, rfl, hl⟩ := split_at hi
    rw [sum_split]
    have := h1 ha
    have hfm : f ∈ A ++ C := by
      rcases Nat.lt_trichotomy j i with h | h | h
      · rw [List.getElem?_append_left (by omega)] at hj
        exact List.mem_append.2 (.inl (List.mem_of_getElem? hj))
      · exact absurd h.symm hij
      · rw [List.getElem?_append_right (by omega), show j - A.length = (j - A.length - 1) + 1 by omega, List.getElem?_cons_succ] at hj
        exact List.mem_append.2 (.inr (List.mem_of_getElem? hj))
    have big : ∀ {l : List Ent}, f ∈ l → f.ins.length ≤ (l.map (·.ins.length)).sum := fun {l} h => by
      obtain ⟨k, hk⟩ := List.getElem?_of_mem h
      obtain ⟨A, C, rfl, _⟩ := split_at hk
      rw [sum_split]
      omega
    rcases List.mem_append.1 hfm with h | h
    · have := big h; omega
    · have := big h; omega
theorem fndA_of {q : Int} {v : V} : ∀ {l : List (Int × V)} {i k : Nat}, l[k]? = some (q, v) → (∀ j, j < k → ∀ x, l[j]? = some x → x.1 ≠ q) → fndA q l i = some (i + k, v)
  | [], _, _, h, _ => by simp at h
  | x :: r, i, 0, h, _ => by
    simp at h
    subst h
    simp [fndA]
  | x :: r, i, k + 1, h, hn => by
    have h1 := hn 0 (by omega) x rfl
    have e : decide (q = x.1) = false := by simp; exact fun e => h1 e.symm
    simp only [fndA, e, cond_false]
    rw [fndA_of (i := i + 1) (k := k) (by simpa using h) fun j hj y hy => hn (j + 1) (by omega) y (by simpa using hy)]
    congr 2
    omega

/-- Where a rule of the table stands. -/
theorem Inv2.found {T : Tbl} {L : List (Int × Ru)} (h : Inv2 T L) {id : Int} {r : Ru} (hm : (id, r) ∈ L) :
    ∃ k i x j y, fndA id T.at_ 0 = some (k, .agg (ruC { r with cp := .nils })) ∧ L[k]? = some (id, r) ∧ fndR (ruM r) T.rows 0 = ((i : Nat) : Int) ∧ T.rows[i]? = some x ∧ fndE r.w x.es 0 = some (j, y) ∧ eqH x.mask (ruM r) = true ∧ ∃ n ∈ y.ins, n.1 = id := by
  obtain ⟨k, hk⟩ := List.getElem?_of_mem hm
  have hkl := (List.getElem?_eq_some_iff.1 hk).1
  have hA : fndA id T.at_ 0 = some (0 + k, .agg (ruC { r with cp := .nils })) := by
    refine fndA_of ?_ fun j hj x hx => ?_
    · rw [h.at_, List.getElem?_map, hk]
      rfl
    · rw [h.at_, List.getElem?_map, Option.map_eq_some_iff] at hx
      obtain ⟨q, hq, rfl⟩ := hx
      have := h.ids
      rw [List.pairwise_iff_getElem] at this
      obtain ⟨q1, q2⟩ := List.getElem?_eq_some_iff.1 hq
      obtain ⟨k1, k2⟩ := List.getElem?_eq_some_iff.1 hk
      have := this j k q1 k1 hj
      rw [q2, k2] at this
      simp only at this ⊢
      omega
  rw [Nat.zero_add] at hA
  obtain ⟨x', hx', e', he', h1, h2, h3⟩ := h.inv.full _ hm
  simp only at h1 h2 h3
  rcases fndR_cases (k := ruM r) (l := T.rows) (i := 0) with ⟨_, hh⟩ | ⟨i, x, g1, g2, g3⟩
  · have := hh x' hx'
    rw [h2] at this
    cases this
  · obtain ⟨i', hi'⟩ := List.getElem?_of_mem hx'
    have hii := pw_eq (f := fun x : Rw => x.mask) h.inv.masks g2 hi' (eqH_trans g3 (eqH_symm h2))
    subst hii
    have hxx : x = x' := by rw [g2] at hi'; exact Option.some.inj hi'
    rw [← hxx] at he'
    rw [Nat.zero_add] at g1
    cases hf : fndE r.w x.es 0 with
    | none =>
      have := fndE_none hf e' he'
      rw [eqH_symm h3] at this
      cases this
    | some z =>
      obtain ⟨j, y⟩ := z
      obtain ⟨_, hj, hjk⟩ := fndE_at hf
      rw [Nat.sub_zero] at hj
      obtain ⟨j', hj'⟩ := List.getElem?_of_mem he'
      have hjj := pw_eq (f := fun e : Ent => e.key) (h.inv.keys x (List.mem_of_getElem? g2)) hj hj' (eqH_trans (eqH_symm hjk) (eqH_symm h3))
      subst hjj
      have hyy : y = e' := by rw [hj] at hj'; exact Option.some.inj hj'
      rw [← hyy] at h1
      exact ⟨k, i, x, j, y, hA, hk, g1, g2, hf, g3, _, h1, rfl⟩

theorem filter_mem {l : List (Int × Int)} {id : Int} {n : Int × Int} : n ∈ (l.filter fun n => !decide (n.1 = id)) ↔ n ∈ l ∧ n.1 ≠ id := by
  rw [List.mem_filter]
  simp
theorem srt_head {l : List (Int × Int)} (h : srt ltIn l) {n : Int × Int} (hn : n ∈ l) : n.2 ≤ (l.headD (0, 0)).2 := by
  cases l with
  | nil => simp at hn
  | cons c r =>
    rcases List.mem_cons.1 hn with rfl | hn
    · exact Int.le_refl _
    · have := (List.pairwise_cons.1 h).1 n hn
      simp only [ltIn, Bool.or_eq_false_iff, decide_eq_false_iff_not] at this
      show n.2 ≤ c.2
      omega
/-- A table without one of its rules. -/
theorem Inv2.dropped {T T' : Tbl} {L : List (Int × Ru)} (h : Inv2 T L) {id : Int} {r r2 : Ru} {k i j : Nat} {x : Rw} {y : Ent} (hk : L[k]? = some (id, r)) (hw : r2.w = r.w) (hi : T.rows[i]? = some x) (hf : fndE r.w x.es 0 = some (j, y)) (hxk : eqH x.mask (ruM r) = true)
    (hin : ∃ n ∈ y.ins, n.1 = id) (hd : Dropped T id r2 k i x T') : Inv2 T' (L.filter fun q => !decide (q.1 = id)) := by
  obtain ⟨hat, hlast, hrows⟩ := hd
  rw [hw] at hrows
  have hxm := List.mem_of_getElem? hi
  obtain ⟨_, hj, hjk⟩ := fndE_at hf
  rw [Nat.sub_zero] at hj
  have hym := List.mem_of_getElem? hj
  have hLm : (id, r) ∈ L := List.mem_of_getElem? hk
  have hLf : ∀ q, q ∈ (L.filter fun q => !decide (q.1 = id)) ↔ q ∈ L ∧ q.1 ≠ id := fun q => by rw [List.mem_filter]; simp
  have hids : ∀ {r'}, (id, r') ∈ L → r' = r := fun hh => congrArg Prod.snd (ids_eq h.ids hh hLm rfl)
  -- the number stands in no other row, and in no other list of its row
  have hrow : ∀ {a : Nat} {z : Rw}, T.rows[a]? = some z → ∀ e ∈ z.es, ∀ n ∈ e.ins, n.1 = id → a = i := fun {a z} ha e he n hn hid => by
    obtain ⟨r', k1, _, k3, _⟩ := h.inv.sound z (List.mem_of_getElem? ha) e he n hn
    rw [hid] at k1
    rw [hids k1] at k3
    exact pw_eq (f := fun x : Rw => x.mask) h.inv.masks ha hi (eqH_trans k3 (eqH_symm hxk))
  have hent : ∀ {a : Nat} {e : Ent}, x.es[a]? = some e → ∀ n ∈ e.ins, n.1 = id → a = j := fun {a e} ha n hn hid => by
    obtain ⟨r', k1, _, _, k4⟩ := h.inv.sound x hxm e (List.mem_of_getElem? ha) n hn
    rw [hid] at k1
    rw [hids k1] at k4
    exact pw_eq (f := fun e : Ent => e.key) (h.inv.keys x hxm) ha hj (eqH_trans k4 hjk)
  obtain ⟨l', hl'⟩ : ∃ l', l' = y.ins.filter fun n => !decide (n.1 = id) := ⟨_, rfl⟩
  have hlen := filter_one (h.nod x hxm y hym) hin
  rw [← hl'] at hlen
  obtain ⟨A, C, hAC, hAl⟩ := split_at hj
  have hcx : cnt x = (A.map (·.ins.length)).sum + y.ins.length + (C.map (·.ins.length)).sum := by unfold cnt; rw [hAC, sum_split]
  -- the new row's lists
  have hcut : (l' = [] ∧ cutE r.w id x.es = A ++ C) ∨ (l' ≠ [] ∧ cutE r.w id x.es = A ++ ⟨r.w, l', y.s⟩ :: C) := by
    unfold cutE
    rw [hf]
    simp only
    rw [← hl']
    cases l' with
    | nil => exact .inl ⟨rfl, by rw [hAC, ← hAl]; exact erase_split⟩
    | cons a b => exact .inr ⟨by simp, by rw [hAC, ← hAl]; exact set_split⟩
  have hcs : ((cutE r.w id x.es).map (·.ins.length)).sum + 1 = cnt x := by
    rcases hcut with ⟨h1, h2⟩ | ⟨h1, h2⟩
    · rw [h2, List.map_append, List.sum_append, hcx]
      rw [h1] at hlen
      simp only [List.length_nil] at hlen
      omega
    · rw [h2, sum_split, hcx]
      simp only
      omega
  have hcm : ∀ e ∈ cutE r.w id x.es, (e = ⟨r.w, l', y.s⟩ ∧ l' ≠ []) ∨ ∃ a, a ≠ j ∧ x.es[a]? = some e := fun e he => by
    rw [hl']
    exact cutE_mem hf he
  have hcn : ∀ {a : Nat} {e : Ent}, a ≠ j → x.es[a]? = some e → e ∈ cutE r.w id x.es := fun {a e} ha he => by
    unfold cutE
    rw [hf]
    simp only
    cases (y.ins.filter fun n => !decide (n.1 = id)).isEmpty with
    | true =>
      simp only [cond_true]
      rcases Nat.lt_or_ge a j with hl | hl
      · exact List.mem_of_getElem? (i := a) (by rw [List.getElem?_eraseIdx, if_pos hl]; exact he)
      · exact List.mem_of_getElem? (i := a - 1) (by rw [List.getElem?_eraseIdx, if_neg (by omega), show a - 1 + 1 = a by omega]; exact he)
    | false =>
      simp only [cond_false]
      exact set_mem he ha
  have hcl : l' ≠ [] → (⟨r.w, l', y.s⟩ : Ent) ∈ cutE r.w id x.es := fun hne => by
    rcases hcut with ⟨h1, _⟩ | ⟨_, h2⟩
    · exact absurd h1 hne
    · rw [h2]; simp
  have hsound' : ∀ e ∈ cutE r.w id x.es, ∀ n ∈ e.ins, n.1 ≠ id ∧ (∃ r', (n.1, r') ∈ L ∧ n.2 = r'.rank ∧ eqH x.mask (ruM r') = true ∧ eqH e.key r'.w = true) := fun e he n hn => by
    rcases hcm e he with ⟨rfl, _⟩ | ⟨a, ha, hae⟩
    · simp only at hn
      rw [hl'] at hn
      obtain ⟨hn1, hn2⟩ := filter_mem.1 hn
      obtain ⟨r', k1, k2, k3, k4⟩ := h.inv.sound x hxm y hym n hn1
      exact ⟨hn2, r', k1, k2, k3, eqH_trans hjk k4⟩
    · exact ⟨fun hh => ha (hent hae n hn hh), h.inv.sound x hxm e (List.mem_of_getElem? hae) n hn⟩
  have hfull' : ∀ e ∈ x.es, ∀ n ∈ e.ins, n.1 ≠ id → ∃ e' ∈ cutE r.w id x.es, n ∈ e'.ins ∧ ∀ w, eqH e.key w = true → eqH e'.key w = true := fun e he n hn hne => by
    obtain ⟨a, ha⟩ := List.getElem?_of_mem he
    by_cases haj : a = j
    · subst haj
      rw [hj] at ha
      cases ha
      have hnl : n ∈ l' := by rw [hl']; exact filter_mem.2 ⟨hn, hne⟩
      exact ⟨_, hcl (List.ne_nil_of_mem hnl), hnl, fun w hw => eqH_trans hjk hw⟩
    · exact ⟨e, hcn haj ha, hn, fun w hw => hw⟩
  have hkeys' : (cutE r.w id x.es).Pairwise fun e f => eqH e.key f.key = false := by
    have hp := h.inv.keys x hxm
    rw [hAC, List.pairwise_append, List.pairwise_cons] at hp
    obtain ⟨p1, ⟨p2, p3⟩, p4⟩ := hp
    have neg : ∀ {a b c : Nat → Nat}, eqH a b = true → eqH b c = false → eqH a c = false := fun {a b c} h1 h2 => by
      cases e : eqH a c with
      | false => rfl
      | true => rw [eqH_trans (eqH_symm h1) e] at h2; cases h2
    rcases hcut with ⟨_, h2⟩ | ⟨_, h2⟩
    · rw [h2, List.pairwise_append]
      exact ⟨p1, p3, fun a ha b hb => p4 a ha b (by simp [hb])⟩
    · rw [h2, List.pairwise_append, List.pairwise_cons]
      refine ⟨p1, ⟨fun b hb => neg hjk (p2 b hb), p3⟩, fun a ha b hb => ?_⟩
      rcases List.mem_cons.1 hb with rfl | hb
      · have := p4 a ha y (by simp)
        cases e : eqH a.key r.w with
        | false => rfl
        | true => rw [eqH_trans e hjk] at this; cases this
      · exact p4 a ha b (by simp [hb])
  have hsrt' : ∀ e ∈ cutE r.w id x.es, srt ltIn e.ins ∧ (e.ins.map (·.1)).Nodup ∧ e.ins ≠ [] := fun e he => by
    rcases hcm e he with ⟨rfl, hne⟩ | ⟨a, _, hae⟩
    · refine ⟨?_, ?_, hne⟩
      · simp only
        rw [hl']
        exact (h.inv.srtI x hxm y hym).sublist List.filter_sublist
      · simp only
        rw [hl']
        exact (h.nod x hxm y hym).sublist (List.filter_sublist.map _)
    · have := List.mem_of_getElem? hae
      exact ⟨h.inv.srtI x hxm e this, h.nod x hxm e this, h.ne x hxm e this⟩
  have hat' : T'.at_ = (L.filter fun q => !decide (q.1 = id)).map fun q => (q.1, V.agg (ruC { q.2 with cp := .nils })) := by
    rw [hat, h.at_, ← eraseIdx_mapL, erase_filter h.ids hk]
  have hids' := h.ids.sublist (List.filter_sublist (l := L) (p := fun q => !decide (q.1 = id)))
  have hlast' : ∀ q ∈ (L.filter fun q => !decide (q.1 = id)), q.1 ≤ T'.last := fun q hq => by rw [hlast]; exact h.last q ((hLf q).1 hq).1
  have hpos' : ∀ q ∈ (L.filter fun q => !decide (q.1 = id)), 0 < q.1 := fun q hq => h.inv.pos q ((hLf q).1 hq).1
  rcases hrows with ⟨hm1, hr⟩ | ⟨hm1, G, hG, hr⟩
  · -- the row is gone
    have hc1 : cnt x = 1 := by have := h.many x hxm; omega
    have hmem : ∀ z ∈ T'.rows, ∃ a, a ≠ i ∧ T.rows[a]? = some z := fun z hz => by
      rw [hr] at hz
      obtain ⟨a, ha⟩ := List.getElem?_of_mem hz
      rw [List.getElem?_eraseIdx] at ha
      split at ha
      · exact ⟨a, by omega, ha⟩
      · exact ⟨a + 1, by omega, ha⟩
    have hmemT : ∀ z ∈ T'.rows, z ∈ T.rows := fun z hz => by obtain ⟨a, _, ha⟩ := hmem z hz; exact List.mem_of_getElem? ha
    refine ⟨⟨fun z hz e he n hn => ?_, fun q hq => ?_, ?_, fun z hz => h.inv.keys z (hmemT z hz), fun z hz => h.inv.srtI z (hmemT z hz), fun z hz => h.inv.top z (hmemT z hz), ?_, hpos'⟩, hat', hids', hlast', fun z hz => h.many z (hmemT z hz), fun z hz => h.rowne z (hmemT z hz), fun z hz => h.nod z (hmemT z hz), fun z hz => h.ne z (hmemT z hz)⟩
    · obtain ⟨a, hai, ha⟩ := hmem z hz
      obtain ⟨r', k1, k2, k3, k4⟩ := h.inv.sound z (hmemT z hz) e he n hn
      exact ⟨r', (hLf _).2 ⟨k1, fun hh => hai (hrow ha e he n hn hh)⟩, k2, k3, k4⟩
    · obtain ⟨q1, q2⟩ := (hLf q).1 hq
      obtain ⟨z, hz, e, he, k1, k2, k3⟩ := h.inv.full q q1
      obtain ⟨a, ha⟩ := List.getElem?_of_mem hz
      by_cases hai : a = i
      · subst hai
        have hzx : z = x := by rw [hi] at ha; exact (Option.some.inj ha).symm
        subst hzx
        obtain ⟨n, hn1, hn2⟩ := hin
        obtain ⟨b, hb⟩ := List.getElem?_of_mem he
        have := cnt_two hb hj k1 hn1 (fun ee => q2 (by have := congrArg Prod.fst ee; simp only at this; omega))
        unfold cnt at hc1
        omega
      · refine ⟨z, ?_, e, he, k1, k2, k3⟩
        rw [hr]
        rcases Nat.lt_or_ge a i with hl | hl
        · exact List.mem_of_getElem? (i := a) (by rw [List.getElem?_eraseIdx, if_pos hl]; exact ha)
        · exact List.mem_of_getElem? (i := a - 1) (by rw [List.getElem?_eraseIdx, if_neg (by omega), show a - 1 + 1 = a by omega]; exact ha)
    · rw [hr]; exact h.inv.masks.sublist (List.eraseIdx_sublist _ _)
    · rw [hr]; exact h.inv.srtR.sublist (List.eraseIdx_sublist _ _)
  · obtain ⟨x', hx'⟩ : ∃ x' : Rw, x' = { x with g := G, many := x.many - 1, es := cutE r.w id x.es } := ⟨_, rfl⟩
    rw [← hx'] at hr
    have hxm' : x'.mask = x.mask := by rw [hx']
    have hxe' : x'.es = cutE r.w id x.es := by rw [hx']
    have hxg' : x'.g = G := by rw [hx']
    have hmemS : ∀ z, z ∈ T'.rows ↔ z ∈ T.rows.set i x' := fun z => by rw [hr]; exact (ssort_perm _).mem_iff
    have hcase : ∀ z ∈ T'.rows, z = x' ∨ ∃ a, a ≠ i ∧ T.rows[a]? = some z := fun z hz => mem_set ((hmemS z).1 hz)
    have hmx : (x'.many : Int) = (cnt x' : Int) := by
      have := h.many x hxm
      have e1 : cnt x' = ((cutE r.w id x.es).map (·.ins.length)).sum := by unfold cnt; rw [hxe']
      rw [e1, hx']
      simp only
      omega
    refine ⟨⟨fun z hz e he n hn => ?_, fun q hq => ?_, ?_, fun z hz => ?_, fun z hz e he => ?_, fun z hz e he n hn => ?_, by rw [hr]; exact ssort_srt ordRw _, hpos'⟩, hat', hids', hlast', fun z hz => ?_, fun z hz => ?_, fun z hz e he => ?_, fun z hz e he => ?_⟩
    · rcases hcase z hz with rfl | ⟨a, hai, ha⟩
      · rw [hxe'] at he
        obtain ⟨k0, r', k1, k2, k3, k4⟩ := hsound' e he n hn
        exact ⟨r', (hLf _).2 ⟨k1, k0⟩, k2, by rw [hxm']; exact k3, k4⟩
      · obtain ⟨r', k1, k2, k3, k4⟩ := h.inv.sound z (List.mem_of_getElem? ha) e he n hn
        exact ⟨r', (hLf _).2 ⟨k1, fun hh => hai (hrow ha e he n hn hh)⟩, k2, k3, k4⟩
    · obtain ⟨q1, q2⟩ := (hLf q).1 hq
      obtain ⟨z, hz, e, he, k1, k2, k3⟩ := h.inv.full q q1
      obtain ⟨a, ha⟩ := List.getElem?_of_mem hz
      by_cases hai : a = i
      · subst hai
        have hzx : z = x := by rw [hi] at ha; exact (Option.some.inj ha).symm
        subst hzx
        obtain ⟨e', g1, g2, g3⟩ := hfull' e he _ k1 q2
        exact ⟨x', (hmemS x').2 (set_self hi), e', by rw [hxe']; exact g1, g2, by rw [hxm']; exact k2, g3 _ k3⟩
      · exact ⟨z, (hmemS z).2 (set_mem ha hai), e, he, k1, k2, k3⟩
    · have masks1 : (T.rows.set i x').Pairwise fun x y => eqH x.mask y.mask = false := by
        have e : (T.rows.set i x').map (·.mask) = T.rows.map (·.mask) := by
          rw [List.map_set, hxm']
          refine List.ext_getElem? fun a => ?_
          rw [List.getElem?_set]
          by_cases hij : i = a
          · subst hij
            rw [if_pos rfl, List.getElem?_map, hi]
            simp [(List.getElem?_eq_some_iff.1 hi).1]
          · rw [if_neg hij]
        have h1 : (T.rows.map (·.mask)).Pairwise fun a b => eqH a b = false := List.pairwise_map.2 h.inv.masks
        rw [← e] at h1
        exact List.pairwise_map.1 h1
      rw [hr]
      refine (List.Perm.pairwise_iff (fun {a b} hh => ?_) (ssort_perm _)).2 masks1
      cases e : eqH b.mask a.mask with
      | false => rfl
      | true => rw [eqH_symm e] at hh; cases hh
    · rcases hcase z hz with rfl | ⟨a, _, ha⟩
      · rw [hxe']; exact hkeys'
      · exact h.inv.keys z (List.mem_of_getElem? ha)
    · rcases hcase z hz with rfl | ⟨a, _, ha⟩
      · rw [hxe'] at he; exact (hsrt' e he).1
      · exact h.inv.srtI z (List.mem_of_getElem? ha) e he
    · rcases hcase z hz with rfl | ⟨a, _, ha⟩
      · rw [hxe'] at he
        rw [hxg']
        have := srt_head (hsrt' e he).1 hn
        have := hG e he
        omega
      · exact h.inv.top z (List.mem_of_getElem? ha) e he n hn
    · rcases hcase z hz with rfl | ⟨a, _, ha⟩
      · exact hmx
      · exact h.many z (List.mem_of_getElem? ha)
    · rcases hcase z hz with rfl | ⟨a, _, ha⟩
      · rw [hxe']
        intro ee
        rw [ee] at hcs
        have := h.many x hxm
        simp at hcs
        omega
      · exact h.rowne z (List.mem_of_getElem? ha)
    · rcases hcase z hz with rfl | ⟨a, _, ha⟩
      · rw [hxe'] at he; exact (hsrt' e he).2.1
      · exact h.nod z (List.mem_of_getElem? ha) e he
    · rcases hcase z hz with rfl | ⟨a, _, ha⟩
      · rw [hxe'] at he; exact (hsrt' e he).2.2
      · exact h.ne z (List.mem_of_getElem? ha) e he
end Go.Proofs.Ytffhmbdpmpgddaa
