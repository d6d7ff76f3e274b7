/- Switches join the map: walking through the gates. No condition. -/
import Derived.Test.YtpmbhjmlghoogaaUh
namespace Go.Proofs.Ytpmbhjmlghoogaa
open Go Ab
set_option linter.unusedSimpArgs false
set_option linter.unusedVariables false
set_option maxRecDepth 20000

theorem nfM_mem : ∀ {m : Mem}, nfM m = true → ∀ b ∈ m, nfB b = true
  | [], _, _, h => by cases h
  | c :: r, h, b, hb => by
    simp only [nfM, Bool.and_eq_true] at h
    rcases List.mem_cons.1 hb with rfl | hb
    · exact h.1
    · exact nfM_mem h.2 b hb
theorem still_flat {P : Program} {f : FuncId} {vs vs1 : List V} {m mv : Mem} (L : List Nat) {v : V} (hi : inDs (fun k => L.contains k) vs = true) (hr : rens (idx L) vs = vs1) (hview : (L.map fun n => m.getD n .dead) = mv) (hflat : nfM mv = true) (hnd : nodupB L = true)
    (hlt : (L.all fun n => Nat.blt n m.length) = true) (hv : nf v = true) (h : Snd P f vs1 mv fun r => r = .ret v mv) : Snd P f vs m fun r => r = .ret v m := by
  have hb : ∀ n ∈ L, nfB (m.getD n .dead) = true := fun n hn => nfM_mem hflat _ (hview ▸ List.mem_map.2 ⟨n, hn, rfl⟩)
  have hvw : view L m = mv := by
    rw [← hview]
    unfold view
    exact List.map_congr_left fun n hn => nfB_renB _ (hb n hn)
  have hc : closedB L m = true := by
    unfold closedB
    rw [hnd, hlt]
    simp only [Bool.true_and, List.all_eq_true]
    exact fun n hn => nfB_inDB _ (hb n hn)
  subst hr
  exact Snd_stillI (L := L) (by unfold okCall; rw [hi, hc]; rfl) (by rw [hvw]; exact all_inDB hflat) hv (by rw [hvw]; exact h)
/-- What is new behind a call is let go. -/
theorem Snd_dropW {P : Program} {f : FuncId} {vs : List V} {mv mw : Mem} {v : V} (hl0 : mw.length = mv.length) (hc : closedB (List.range mw.length) mw = true) (hb : nf v = true) (h : Snd P f vs mv fun r => ∃ new, r = .ret v (mw ++ new)) : Snd P f vs mv fun r => r = .ret v mw := by
  intro ρ I w xs hr hl hrt
  refine (h ρ I w xs hr hl hrt).mono ?_
  rintro e w' ⟨r, ⟨new, rfl⟩, x, ρ', I', rfl, p1, p2, p3⟩
  obtain ⟨c1, c2, c3⟩ := closed_parts hc
  have hget : ∀ k, k < mw.length → (mw ++ new).getD k .dead = mw.getD k .dead := fun k hk => by
    simp only [List.getD, List.getElem?_append_left hk]
  have hc' : closedB (List.range mw.length) (mw ++ new) = true := by
    unfold closedB at hc ⊢
    simp only [Bool.and_eq_true, List.all_eq_true, Nat.blt_eq] at hc ⊢
    refine ⟨hc.1, fun k hk => by have := hc.2.1 k hk; simp; omega, fun k hk => ?_⟩
    rw [hget k (List.mem_range.1 hk)]
    exact hc.2.2 k hk
  have hv : view (List.range mw.length) (mw ++ new) = mw := by
    apply List.ext_getElem?
    intro k
    unfold view
    rw [List.getElem?_map]
    rcases Nat.lt_or_ge k mw.length with hk | hk
    · rw [List.getElem?_range hk, Option.map_some, hget k hk, List.getElem?_eq_getElem hk]
      congr 1
      have e1 : mw.getD k .dead = mw[k] := by simp [List.getD, hk]
      rw [e1]
      refine renB_id (D := fun j => (List.range mw.length).contains j) (fun j hj => idx_range (List.mem_range.1 (by simpa using hj))) ?_
      have := c3 k (List.mem_range.2 hk)
      rwa [e1] at this
    · rw [List.getElem?_eq_none (by simpa using hk), List.getElem?_eq_none hk]
      rfl
  have hvw := p1.view hc'
  rw [show (CR.ret v (mw ++ new)).mem = mw ++ new from rfl, hv] at hvw
  have hrho : ∀ k, k < mv.length → ρ' ((List.range mw.length).getD k 0) = ρ k := fun k hk => by
    rw [getD_range (by omega)]
    exact p2.rho k hk
  have hlive : ∀ n, n < mv.length → live mw n → live mv n := fun n hn h => p2.dead n hn (by
    obtain ⟨b, hb, hb2⟩ := h
    exact ⟨b, by show (mw ++ new)[n]? = some b; rw [List.getElem?_append_left (by omega)]; exact hb, hb2⟩)
  refine ⟨_, rfl, x, _, I', rfl, hvw, ⟨by show mv.length ≤ mw.length; omega, hrho, fun n hn h => hlive n hn h, p2.iSub, p2.iNew, fun b hb => ?_, p2.wle, p2.frame⟩, RV_nf _ _ hb p3⟩
  obtain ⟨n, h1, h2⟩ := hb
  have hn : n < mw.length := Ab.live_lt h1
  right
  exact ⟨n, hlive n (by omega) h1, by rw [← h2]; exact (congrArg Prod.fst (hrho n (by omega))).symm⟩

def gtR (gs : List Gt) : B := gtB gs (List.range gs.length) gs.length
theorem rg67 {b0 : B} {es : List (V × V)} {bs : List Nat} {clk : Nat} {r : Mem} : rangeV Try.prog 67 (b0 :: .map es bs clk :: r) (.mp 1) = some (.ptr (r.length + 2) 0, (b0 :: .map es bs clk :: r) ++ [.iter 1 clk [] clk]) := by
  simp only [rangeV, un67]
  rfl
/-- How many are still to come. -/
def left (k : Nat) (seen : List Nat) : Nat := ((List.range k).filter fun b => !seen.contains b).length
theorem left_lt {k b : Nat} {seen : List Nat} (h : b < k) (hs : b ∉ seen) : left k (seen ++ [b]) < left k seen := by
  unfold left
  have e : ((List.range k).filter fun x => !(seen ++ [b]).contains x) = (((List.range k).filter fun x => !seen.contains x)).filter fun x => !(x == b) := by
    rw [List.filter_filter]
    congr 1
    funext x
    by_cases h1 : x ∈ seen <;> by_cases h2 : x = b <;> simp [h1, h2]
  rw [e]
  refine List.length_filter_lt_length_iff_exists.2 ⟨b, ?_, by simp⟩
  simp [h, hs]
theorem zip_gt {gs : List Gt} {p : (V × V) × Nat} (h : p ∈ (gtM gs).zip (List.range gs.length)) : ∃ (h : p.2 < gs.length), p.1 = gtE gs[p.2] := by
  obtain ⟨i, hi⟩ := List.getElem?_of_mem h
  rw [List.getElem?_zip_eq_some] at hi
  obtain ⟨h1, h2⟩ := hi
  have h3 := (List.getElem?_eq_some_iff.1 h2).1
  rw [List.length_range] at h3
  rw [List.getElem?_range h3] at h2
  simp at h2
  subst h2
  refine ⟨h3, ?_⟩
  simp [gtM, h3] at h1
  exact h1.symm
theorem find_gt {gs : List Gt} {i : Nat} (h : i < gs.length) : ((gtM gs).zip (List.range gs.length)).find? (fun p => p.2 == i) = some (gtE gs[i], i) := by
  have hm : (gtE gs[i], i) ∈ (gtM gs).zip (List.range gs.length) := by
    refine List.mem_of_getElem? (i := i) ?_
    rw [List.getElem?_zip_eq_some]
    exact ⟨by simp [gtM, h], by simp [h]⟩
  cases e : ((gtM gs).zip (List.range gs.length)).find? (fun p => p.2 == i) with
  | none =>
    have := List.find?_eq_none.1 e _ hm
    simp at this
  | some q =>
    have h1 := List.find?_some e
    have h2 := List.mem_of_find?_eq_some e
    obtain ⟨h3, h4⟩ := zip_gt h2
    simp at h1
    subst h1
    obtain ⟨q1, q2⟩ := q
    simp at h4 ⊢
    exact h4
/-- A round through the gates. -/
theorem next_gt {m : Mem} {r n : Nat} {gs : List Gt} {seen : List Nat} (h1 : m[r]? = some (.iter n gs.length seen gs.length)) (h2 : m[n]? = some (gtR gs)) :
    ∃ l, nextV m (.ptr r 0) = some l ∧ ∀ p ∈ l, (p = (.tup [.bool false], m.set r .dead)) ∨ ∃ i, ∃ h : i < gs.length, i ∉ seen ∧ p = (.tup [.bool true, (gtE gs[i]).1, (gtE gs[i]).2], m.set r (.iter n gs.length (seen ++ [i]) gs.length)) := by
  have hb : (List.range gs.length).all (fun b => Nat.blt b gs.length) = true := by simp
  have hl : Nat.ble gs.length gs.length = true := by simp
  simp only [nextV, h1, h2, gtR, gtB, hb, hl, Bool.and_self, cond_true]
  cases e : ((gtM gs).zip (List.range gs.length)).filter (fun p => !seen.contains p.2) with
  | nil => exact ⟨_, rfl, fun p hp => .inl (List.mem_singleton.1 hp)⟩
  | cons q qs =>
    refine ⟨_, rfl, fun p hp => .inr ?_⟩
    obtain ⟨q', hq, rfl⟩ := List.mem_map.1 hp
    rw [← e] at hq
    obtain ⟨h3, h4⟩ := List.mem_filter.1 hq
    obtain ⟨h5, h6⟩ := zip_gt h3
    refine ⟨q'.2, h5, by simpa using h4, ?_⟩
    rw [h6]
theorem entry_gt {m : Mem} {r n i : Nat} {gs : List Gt} {seen : List Nat} (h1 : m[r]? = some (.iter n gs.length (seen ++ [i]) gs.length)) (h2 : m[n]? = some (gtR gs)) (h : i < gs.length) : entryV m (.ptr r 0) = some (.tup [(gtE gs[i]).1, (gtE gs[i]).2]) := by
  have hb : Nat.beq gs.length gs.length = true := by simp
  have hg : (seen ++ [i]).getLast? = some i := by simp
  simp only [entryV, h1, h2, gtR, gtB, hb, cond_true, hg, find_gt h, Option.map_some]
end Go.Proofs.Ytpmbhjmlghoogaa
