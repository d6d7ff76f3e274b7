/- A call on two blocks inside a drawn region; what is taken out of a table's maps; a range over a row's map. No condition. -/
import Derived.Test.YtffhmbdpmpgddaaWn
namespace Go.Proofs.Ytffhmbdpmpgddaa
open Go Ab
set_option linter.unusedSimpArgs false
set_option linter.unusedVariables false
set_option maxRecDepth 20000

/-! ### A call on two blocks -/
section
variable {P : Program} {f : FuncId} {m : Mem}
theorem getD_at {n : Nat} {b : B} (h : m[n]? = some b) : m.getD n .dead = b := by simp only [List.getD, h, Option.getD_some]
theorem roots_two {s b : Nat} {B1 B2 : B} {vs : List V} (hs : m[s]? = some B1) (hb : m[b]? = some B2) (f1 : nfB B1 = true) (f2 : nfB B2 = true) (hne : s ≠ b) (hv : nmss vs = [s, b]) : rootsV m vs = [s, b] := by
  unfold rootsV
  rw [hv]
  have e1 : nmsB (m.getD s .dead) = [] := by rw [getD_at hs]; exact nmsB_flat f1
  have e2 : nmsB (m.getD b .dead) = [] := by rw [getD_at hb]; exact nmsB_flat f2
  have c1 : ([] : List Nat).contains s = false := rfl
  have c2 : [s].contains b = false := by simp; omega
  rw [show (2000 : Nat) = 1997 + 1 + 1 + 1 from rfl]
  simp only [reach, c1, cond_false, e1, List.append_nil, List.nil_append, c2, e2, List.cons_append]
theorem callE_two {s b : Nat} {B1 B2 B1' B2' : B} {vs vs1 : List V} {v v2 : V} {K0 : V → Prop} {K1 : V → Mem → List Nat → Prop} (h : Snd P f vs1 [B1, B2] fun r => r = .ret v [B1', B2']) (he : enterable P f = true)
    (hs : m[s]? = some B1) (hb : m[b]? = some B2) (f1 : nfB B1 = true) (f2 : nfB B2 = true) (f1' : nfB B1' = true) (f2' : nfB B2' = true) (hne : s ≠ b) (hv : nmss vs = [s, b])
    (hi : inDs (fun k => [s, b].contains k) vs = true) (hr : rens (idx [s, b]) vs = vs1) (hd : inD (fun _ => true) v = true) (hv2 : ren (back [s, b] m.length) v = v2) (hk : K1 v2 ((m.set s B1').set b B2') [s, b]) : callE P f vs m K0 K1 := by
  have hsl := (List.getElem?_eq_some_iff.1 hs).1
  have hbl := (List.getElem?_eq_some_iff.1 hb).1
  refine .inr ?_
  rw [roots_two hs hb f1 f2 hne hv, hr]
  have hview : view [s, b] m = [B1, B2] := by
    unfold view
    simp only [List.map_cons, List.map_nil, getD_at hs, getD_at hb, nfB_renB _ f1, nfB_renB _ f2]
  have hclosed : closedB [s, b] m = true := by
    unfold closedB
    simp only [List.all_cons, List.all_nil, getD_at hs, getD_at hb, nfB_inDB _ f1, nfB_inDB _ f2, Bool.and_true, nodupB, Bool.and_eq_true, Nat.blt_eq]
    refine ⟨?_, hsl, hbl⟩
    simp
    omega
  rw [hview]
  refine ⟨by unfold okCall; rw [hi, hclosed]; rfl, he, v, _, h, ?_, rfl, ?_⟩
  · unfold okBack
    simp only [hd, List.all_cons, List.all_nil, nfB_inDB _ f1', nfB_inDB _ f2']
    rfl
  · rw [hv2]
    have : merge [s, b] m [B1', B2'] = (m.set s B1').set b B2' := by
      unfold merge
      simp only [List.length_cons, List.length_nil, List.take, List.drop, List.map_cons, List.map_nil, List.append_nil, nfB_renB _ f1', nfB_renB _ f2', setAll]
    rw [this]
    exact hk
/-- What is new behind a call that answers a slice is let go. -/
theorem Snd_dropS {vs : List V} {mv mw : Mem} {sz n off len : Nat} (hl0 : mw.length = mv.length) (hc : closedB (List.range mw.length) mw = true) (hn : n < mw.length) (h : Snd P f vs mv fun r => ∃ new, r = .ret (.sl sz n off len) (mw ++ new)) : Snd P f vs mv fun r => r = .ret (.sl sz n off len) mw := by
  intro ρ I w xs hr hl hrt
  refine (h ρ I w xs hr hl hrt).mono ?_
  rintro e w' ⟨r, ⟨new, rfl⟩, x, ρ', I', rfl, p1, p2, p3⟩
  obtain ⟨c1, c2, c3⟩ := closed_parts hc
  have hget : ∀ k, k < mw.length → (mw ++ new).getD k .dead = mw.getD k .dead := fun k hk => by
    simp only [List.getD, List.getElem?_append_left hk]
  have hc' : closedB (List.range mw.length) (mw ++ new) = true := by
    unfold closedB at hc ⊢
    simp only [Bool.and_eq_true, List.all_eq_true, Nat.blt_eq] at hc ⊢
    refine ⟨hc.1, fun k hk => by have := hc.2.1 k hk; simp; omega, fun k hk => ?_⟩
    rw [hget k (List.mem_range.1 hk)]
    exact hc.2.2 k hk
  have hv : view (List.range mw.length) (mw ++ new) = mw := by
    apply List.ext_getElem?
    intro k
    unfold view
    rw [List.getElem?_map]
    rcases Nat.lt_or_ge k mw.length with hk | hk
    · rw [List.getElem?_range hk, Option.map_some, hget k hk, List.getElem?_eq_getElem hk]
      congr 1
      have e1 : mw.getD k .dead = mw[k] := by simp [List.getD, hk]
      rw [e1]
      refine renB_id (D := fun j => (List.range mw.length).contains j) (fun j hj => idx_range (List.mem_range.1 (by simpa using hj))) ?_
      have := c3 k (List.mem_range.2 hk)
      rwa [e1] at this
    · rw [List.getElem?_eq_none (by simpa using hk), List.getElem?_eq_none hk]
      rfl
  have hvw := p1.view hc'
  rw [show (CR.ret (.sl sz n off len) (mw ++ new)).mem = mw ++ new from rfl, hv] at hvw
  have hrho' : ∀ k, k < mw.length → ρ' ((List.range mw.length).getD k 0) = ρ' k := fun k hk => by rw [getD_range hk]
  have hrho : ∀ k, k < mv.length → ρ' ((List.range mw.length).getD k 0) = ρ k := fun k hk => by
    rw [getD_range (by omega)]
    exact p2.rho k hk
  have hlive : ∀ n, n < mv.length → live mw n → live mv n := fun n hn h => p2.dead n hn (by
    obtain ⟨b, hb, hb2⟩ := h
    exact ⟨b, by show (mw ++ new)[n]? = some b; rw [List.getElem?_append_left (by omega)]; exact hb, hb2⟩)
  refine ⟨_, rfl, x, _, I', rfl, hvw, ⟨by show mv.length ≤ mw.length; omega, hrho, fun n hn h => hlive n hn h, p2.iSub, p2.iNew, fun b hb => ?_, p2.wle, p2.frame⟩, ?_⟩
  · obtain ⟨n, h1, h2⟩ := hb
    have hn : n < mw.length := Ab.live_lt h1
    right
    exact ⟨n, hlive n (by omega) h1, by rw [← h2]; exact (congrArg Prod.fst (hrho n (by omega))).symm⟩
  · simp only [CR.val, CR.mem, RV] at p3 ⊢
    obtain ⟨_, o, cap, h1, h2, h3, c, ty, h4, h5⟩ := p3
    rw [hrho' n hn]
    exact ⟨hn, o, cap, h1, h2, h3, c, ty, h4, h5⟩
end
theorem nfM_one {b : B} {r : Mem} : nfM (b :: r) = (nfB b && nfM r) := rfl
theorem nfB_ins (l : List (Int × Int)) : nfB (.row 65 2 (l.map inC)) = true := by
  unfold nfB
  refine nfss_all fun x hx => ?_
  obtain ⟨y, _, rfl⟩ := List.mem_map.1 hx
  rfl
/-- slices.DeleteFunc, on its two blocks. -/
theorem snd29v {id : Int} {l : List (Int × Int)} (hl : l.length < 1000000) (hin : ∃ x ∈ l, x.1 = id) :
    Snd Try.prog 29 [.sl 2 0 0 l.length, .fn 30 [] [.ptr 1 0]] [.row 65 2 (l.map inC), .var 3 [.int .i64 id]] fun q => q = .ret (.sl 2 0 0 (l.filter fun x => !decide (x.1 = id)).length) [.row 65 2 ((l.filter fun x => !decide (x.1 = id)).map inC), .var 3 [.int .i64 id]] := by
  refine Snd_dropS rfl ?_ (Nat.zero_lt_succ _) ((snd29 (m := [.row 65 2 (l.map inC), .var 3 [.int .i64 id]]) (b := 1) (s := 0) rfl rfl hl hin).mono ?_)
  · unfold closedB
    have e : List.range [B.row 65 2 ((l.filter fun x => !decide (x.1 = id)).map inC), .var 3 [.int .i64 id]].length = [0, 1] := rfl
    rw [e]
    simp only [List.all_cons, List.all_nil, Bool.and_true, List.getD_cons_zero, List.getD_cons_succ, nfB_inDB _ (nfB_ins _)]
    rfl
  · rintro q ⟨m', rfl, h1, h2, h3⟩
    refine ⟨m'.drop 2, ?_⟩
    have h4 := h3 1 (Nat.lt_succ_self _) (by decide)
    congr 1
    apply List.ext_getElem?
    intro k
    match k with
    | 0 => rw [h1]; rfl
    | 1 => rw [h4]; rfl
    | k + 2 => simp [Nat.add_comm]

/-! ### By number -/
def fndA (q : Int) : List (Int × V) → Nat → Option (Nat × V)
  | [], _ => none
  | x :: r, i => bif decide (q = x.1) then some (i, x.2) else fndA q r (i + 1)
theorem findA {q : Int} : ∀ {l : List (Int × V)} {i : Nat}, findV Try.prog 3 (.int .i64 q) (l.map enA) i = some (fndA q l i)
  | [], _ => rfl
  | x :: r, i => by
    have e := eqK3 q x.1
    simp only [List.map_cons, enA, findV, fndA, e]
    cases decide (q = x.1) with
    | true => rfl
    | false => exact findA
theorem fndA_at {q : Int} : ∀ {l : List (Int × V)} {i k : Nat} {v : V}, fndA q l i = some (k, v) → i ≤ k ∧ l[k - i]? = some (q, v)
  | [], _, _, _, h => by cases h
  | x :: r, i, k, v, h => by
    simp only [fndA] at h
    cases e : decide (q = x.1) with
    | true =>
      rw [e] at h
      simp at e
      cases h
      refine ⟨Nat.le_refl _, ?_⟩
      rw [Nat.sub_self, e]
      rfl
    | false =>
      rw [e] at h
      obtain ⟨h1, h2⟩ := fndA_at h
      refine ⟨by omega, ?_⟩
      rw [show k - i = (k - (i + 1)) + 1 by omega]
      exact h2
theorem fndA_none {q : Int} : ∀ {l : List (Int × V)} {i : Nat}, fndA q l i = none → ∀ x ∈ l, x.1 ≠ q
  | [], _, _, _, h => by simp at h
  | x :: r, i, hf, y, h => by
    simp only [fndA] at hf
    cases e : decide (q = x.1) with
    | true => rw [e] at hf; cases hf
    | false =>
      rw [e] at hf
      rcases List.mem_cons.1 h with rfl | h
      · simp at e; exact fun ee => e ee.symm
      · exact fndA_none hf y h
theorem look_at {m : Mem} {a : Nat} {l : List (Int × V)} {id : Int} (h : isMap m a (l.map enA)) {z : V} (hz : zeroV Try.prog 32 = some z) :
    lookupV Try.prog 52 m (.mp a) (.int .i64 id) true = some (match fndA id l 0 with | some (_, v) => .tup [v, .bool true] | none => .tup [z, .bool false]) := by
  obtain ⟨bs, clk, h1, _⟩ := h
  simp only [lookupV, un52, key3, cond_true, h1, findA]
  cases fndA id l 0 with
  | none => simp [hz]
  | some x => rfl
theorem isMap_erase {m : Mem} {n : Nat} {es : List (V × V)} {bs : List Nat} {clk k : Nat} (hlt : n < m.length) (h2 : bs.length = es.length) (h3 : bs.Nodup) (h4 : ∀ b ∈ bs, b < clk) : isMap (m.set n (.map (es.eraseIdx k) (bs.eraseIdx k) clk)) n (es.eraseIdx k) := by
  refine ⟨bs.eraseIdx k, clk, by simp [hlt], ?_, h3.sublist (List.eraseIdx_sublist bs k), fun b hb => h4 b (List.mem_of_mem_eraseIdx hb)⟩
  simp only [List.length_eraseIdx, h2]
theorem eraseIdx_mapL {α β : Type} (f : α → β) : ∀ (l : List α) (k : Nat), (l.eraseIdx k).map f = (l.map f).eraseIdx k
  | [], _ => by simp
  | x :: r, 0 => rfl
  | x :: r, k + 1 => by simp [eraseIdx_mapL f r k]
theorem del_at {m : Mem} {a : Nat} {l : List (Int × V)} {id : Int} {k : Nat} {v : V} (h : isMap m a (l.map enA)) (hf : fndA id l 0 = some (k, v)) :
    ∃ b, delV Try.prog 52 m (.mp a) (.int .i64 id) = some (m.set a b) ∧ isMap (m.set a b) a ((l.eraseIdx k).map enA) := by
  obtain ⟨bs, clk, h1, h2, h3, h4⟩ := h
  have hlt := (List.getElem?_eq_some_iff.1 h1).1
  have hfe := findA (q := id) (l := l) (i := 0)
  rw [hf] at hfe
  refine ⟨.map ((l.map enA).eraseIdx k) (bs.eraseIdx k) clk, ?_, ?_⟩
  · simp only [delV, un52, key3, cond_true, h1, hfe]
  · rw [eraseIdx_mapL]
    exact isMap_erase hlt h2 h3 h4

/-! ### By what is left of a header -/
theorem del_es {m : Mem} {n : Nat} {es : List Ent} {k : Nat → Nat} {j : Nat} {e : Ent} (h : isMap m n (es.map enE)) (hk : U64 11 k) (hks : ∀ e ∈ es, U64 11 e.key) (hf : fndE k es 0 = some (j, e)) :
    ∃ b, delV Try.prog 59 m (.mp n) (.agg (hC k)) = some (m.set n b) ∧ isMap (m.set n b) n ((es.eraseIdx j).map enE) := by
  obtain ⟨bs, clk, h1, h2, h3, h4⟩ := h
  have hlt := (List.getElem?_eq_some_iff.1 h1).1
  have hfe := findE hk (i := 0) hks
  rw [hf] at hfe
  refine ⟨.map ((es.map enE).eraseIdx j) (bs.eraseIdx j) clk, ?_, ?_⟩
  · simp only [delV, un59, key25 hk, cond_true, h1, hfe, Option.map_some]
  · rw [eraseIdx_mapL]
    exact isMap_erase hlt h2 h3 h4
theorem fndE_set {k : Nat → Nat} : ∀ {es : List Ent} {i j : Nat} {e e' : Ent}, fndE k es i = some (j, e) → eqH k e'.key = true → fndE k (es.set (j - i) e') i = some (j, e')
  | [], _, _, _, _, h, _ => by cases h
  | x :: r, i, j, e, e', h, h2 => by
    have hij := (fndE_at h).1
    simp only [fndE] at h
    cases hq : eqH k x.key with
    | true =>
      rw [hq] at h
      cases h
      rw [Nat.sub_self]
      simp only [List.set_cons_zero, fndE, h2, cond_true]
    | false =>
      rw [hq] at h
      have h3 := (fndE_at h).1
      have := fndE_set h h2
      rw [show j - i = (j - (i + 1)) + 1 by omega]
      simp only [List.set_cons_succ, fndE, hq, cond_false]
      exact this

/-! ### A range over a row's map -/
theorem rg59 {m : Mem} {n : Nat} {es : List (V × V)} {bs : List Nat} {clk : Nat} (h : m[n]? = some (.map es bs clk)) : rangeV Try.prog 59 m (.mp n) = some (.ptr m.length 0, m ++ [.iter n clk [] clk]) := by
  simp only [rangeV, un59, h]
/-- How many are still to come. -/
def leftB (bs seen : List Nat) : Nat := (bs.filter fun b => !seen.contains b).length
theorem leftB_lt {bs seen : List Nat} {b : Nat} (h : b ∈ bs) (hs : b ∉ seen) : leftB bs (seen ++ [b]) < leftB bs seen := by
  unfold leftB
  have e : (bs.filter fun x => !(seen ++ [b]).contains x) = ((bs.filter fun x => !seen.contains x)).filter fun x => !(x == b) := by
    rw [List.filter_filter]
    congr 1
    funext x
    by_cases h1 : x ∈ seen <;> by_cases h2 : x = b <;> simp [h1, h2]
  rw [e]
  refine List.length_filter_lt_length_iff_exists.2 ⟨b, ?_, by simp⟩
  simp [h, hs]
theorem next_es {m : Mem} {r n : Nat} {es : List Ent} {bs seen : List Nat} {clk : Nat} (h1 : m[r]? = some (.iter n clk seen clk)) (h2 : m[n]? = some (.map (es.map enE) bs clk)) (h3 : bs.length = es.length) (h4 : ∀ b ∈ bs, b < clk) :
    ∃ l, nextV m (.ptr r 0) = some l ∧ ∀ p ∈ l, (p = (.tup [.bool false], m.set r .dead) ∧ ∀ i (h : i < bs.length), bs[i] ∈ seen) ∨
      ∃ i, ∃ hb : i < bs.length, ∃ he : i < es.length, bs[i] ∉ seen ∧ p = (.tup [.bool true, .agg (hC es[i].key), .sl 2 es[i].s 0 es[i].ins.length], m.set r (.iter n clk (seen ++ [bs[i]]) clk)) := by
  have hb : bs.all (fun b => Nat.blt b clk) = true := by
    rw [List.all_eq_true]
    intro b hb
    simpa using h4 b hb
  have hl : Nat.ble clk clk = true := by simp
  simp only [nextV, h1, h2, hb, hl, Bool.and_self, cond_true]
  have hz : ∀ i (hi : i < bs.length), ((es.map enE).zip bs)[i]? = some (enE (es[i]'(by omega)), bs[i]) := fun i hi => by
    rw [List.getElem?_zip_eq_some]
    exact ⟨by simp [show i < es.length by omega], by simp [hi]⟩
  cases e : ((es.map enE).zip bs).filter (fun p => !seen.contains p.2) with
  | nil =>
    refine ⟨_, rfl, fun p hp => .inl ⟨List.mem_singleton.1 hp, fun i hi => ?_⟩⟩
    have := List.filter_eq_nil_iff.1 e _ (List.mem_of_getElem? (hz i hi))
    simpa using this
  | cons q qs =>
    refine ⟨_, rfl, fun p hp => .inr ?_⟩
    obtain ⟨q', hq, rfl⟩ := List.mem_map.1 hp
    rw [← e] at hq
    obtain ⟨h5, h6⟩ := List.mem_filter.1 hq
    obtain ⟨i, hi⟩ := List.getElem?_of_mem h5
    have hil : i < bs.length := by
      have := (List.getElem?_eq_some_iff.1 hi).1
      simp at this
      omega
    have hiE := hz i hil
    rw [hi] at hiE
    cases hiE
    exact ⟨i, hil, by omega, by simpa using h6, rfl⟩
theorem entry_es {m : Mem} {r n : Nat} {es : List Ent} {bs seen : List Nat} {clk i : Nat} (hb : i < bs.length) (he : i < es.length) (h1 : m[r]? = some (.iter n clk (seen ++ [bs[i]]) clk)) (h2 : m[n]? = some (.map (es.map enE) bs clk)) (h3 : bs.length = es.length) (hnd : bs.Nodup) :
    entryV m (.ptr r 0) = some (.tup [.agg (hC es[i].key), .sl 2 es[i].s 0 es[i].ins.length]) := by
  have hc : Nat.beq clk clk = true := by simp
  have hg : (seen ++ [bs[i]]).getLast? = some bs[i] := by simp
  have hz : ∀ i (hi : i < bs.length), ((es.map enE).zip bs)[i]? = some (enE (es[i]'(by omega)), bs[i]) := fun i hi => by
    rw [List.getElem?_zip_eq_some]
    exact ⟨by simp [show i < es.length by omega], by simp [hi]⟩
  have hfind : ((es.map enE).zip bs).find? (fun p => p.2 == bs[i]) = some (enE es[i], bs[i]) := by
    have hm := List.mem_of_getElem? (hz i hb)
    cases e : ((es.map enE).zip bs).find? (fun p => p.2 == bs[i]) with
    | none =>
      have := List.find?_eq_none.1 e _ hm
      simp at this
    | some q =>
      have g1 := List.find?_some e
      obtain ⟨k, hk⟩ := List.getElem?_of_mem (List.mem_of_find?_eq_some e)
      have hkl : k < bs.length := by
        have := (List.getElem?_eq_some_iff.1 hk).1
        simp at this
        omega
      have hkE := hz k hkl
      rw [hk] at hkE
      cases hkE
      simp only [beq_iff_eq] at g1
      have : k = i := (List.getElem_inj hnd).1 g1
      subst this
      rfl
  simp only [entryV, h1, h2, hc, cond_true, hg, hfind, Option.map_some]
  rfl
end Go.Proofs.Ytffhmbdpmpgddaa
