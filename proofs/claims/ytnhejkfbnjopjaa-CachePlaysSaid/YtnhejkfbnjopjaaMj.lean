/- A header that is asked for stays. No condition. -/
import Derived.Test.YtnhejkfbnjopjaaMi
namespace Go.Proofs.Ytnhejkfbnjopjaa
open Go Ab
set_option linter.unusedSimpArgs false
set_option linter.unusedVariables false
set_option maxRecDepth 20000

/-! ### A cache behind a header in memory -/
def cav (p q n t hd : Nat) : B := .var 63 [.sl 15 p 0 n, .mp q, .int .i64 (t : Int), .int .i64 (hd : Int)]
def cam3 (x : B) (l : List Ent) (a : List (Hd × Nat)) (t hd : Nat) : Mem := [cav 2 3 l.length t hd, x, .row 69 15 (l.map enC), .map (a.map atC)]
theorem closedL4 {m : Mem} {n0 n1 n2 n3 : Nat} {b0 b1 : B} {ty s : Nat} {es : List (List V)} {ms : List (V × V)} (h0 : m[n0]? = some b0) (h1 : m[n1]? = some b1) (h2 : m[n2]? = some (.row ty s es)) (h3 : m[n3]? = some (.map ms)) (L : List Nat) (hL : ∀ n ∈ L, n = n0 ∨ n = n1 ∨ n = n2 ∨ n = n3) (hd : nodupB L = true)
    (hb : inDB (fun k => L.contains k) b0 = true) (hb1 : inDB (fun k => L.contains k) b1 = true) (he : nfss es = true) (hm : nfp ms = true) : closedB L m = true := by
  have k1 : inDB (fun k => L.contains k) (.row ty s es) = true := he
  have k2 : inDB (fun k => L.contains k) (.map ms) = true := hm
  have g : ∀ {n : Nat} {b : B}, m[n]? = some b → m.getD n .dead = b ∧ n < m.length := fun h => ⟨by simp [List.getD, h], (List.getElem?_eq_some_iff.1 h).1⟩
  obtain ⟨a0, l0⟩ := g h0
  obtain ⟨a1, l1⟩ := g h1
  obtain ⟨a2, l2⟩ := g h2
  obtain ⟨a3, l3⟩ := g h3
  simp only [closedB, hd, Bool.true_and, Bool.and_eq_true, List.all_eq_true, Nat.blt_eq]
  refine ⟨fun n hn => ?_, fun n hn => ?_⟩
  · rcases hL n hn with rfl | rfl | rfl | rfl <;> assumption
  · rcases hL n hn with rfl | rfl | rfl | rfl
    · rw [a0]; exact hb
    · rw [a1]; exact hb1
    · rw [a2]; exact k1
    · rw [a3]; exact k2

theorem callD_c3 {f : FuncId} {vs vs1 : List V} {v : V} {K Kp : V → Mem → Prop} {x : B} {l l' : List Ent} {a a' : List (Hd × Nat)} {t t' hd hd' : Nat} (h : Snd Try.prog f vs1 (caM l a t hd) fun r => r = .ret v (caM l' a' t' hd')) (he : enterable Try.prog f = true)
    (hr : rootsV (cam3 x l a t hd) vs = [0, 2, 3]) (hi : inDs (fun k => [0, 2, 3].contains k) vs = true) (hv1 : rens (idx [0, 2, 3]) vs = vs1) (hv : nf v = true) (hk : K v (cam3 x l' a' t' hd')) : callD Try.prog f vs (cam3 x l a t hd) K Kp := by
  refine callD_at [0, 2, 3] h he hr ?_ hv1 rfl hv (all3 _ _ _ _) rfl rfl rfl hk
  unfold okCall
  rw [hi, closedL3 (n0 := 0) (n1 := 2) (n2 := 3) rfl rfl rfl rfl rfl (nfs_ens l) (nfp_at a)]
  rfl

/-! ### Lists of headers -/
def hdsV (l : List Hd) : V := .isl 11 (l.map hdC)
theorem nfs_hds : ∀ l : List Hd, nfss (l.map hdC) = true
  | [] => rfl
  | a :: r => by simp [nfss, nfs_hd, nfs_hds r]
theorem nf_hds (l : List Hd) : nf (hdsV l) = true := by simp only [nf, hdsV]; exact nfs_hds l
theorem len_hds (m : Mem) (l : List Hd) : lenV Try.prog m 53 (hdsV l) = some (.int .i64 (l.length : Int)) := by unfold hdsV; rw [lni53, List.length_map]
theorem ia_hds {l : List Hd} {j : Nat} {k : IntKind} (h : j < l.length) : iaddrS 11 (hdsV l) (.int k (j : Int)) = some (.ip (hdC l[j])) := iaddrS_isl (by simp [h])

/-! ### What stays -/
structure Stay (l : List Ent) (h : Hd) (p : Nat) : Prop where
  lt : p < l.length
  full : l[p].full = true
  key : eqH l[p].h h = true
  id : l[p].id = 7
  turn : l[p].turn = 0
  rest : ∀ j (hj : j < l.length), j ≠ p → l[j].mark = false

theorem Stay.find {l : List Ent} {a : List (Hd × Nat)} {h : Hd} {p : Nat} (I : Inv l a) (S : Stay l h p) : fnd l h = some p := by
  cases hf : fnd l h with
  | none =>
    have := fnd_none hf _ (List.getElem_mem S.lt) S.full
    rw [S.key] at this; cases this
  | some k =>
    obtain ⟨hk, h1, h2⟩ := fnd_some hf
    rw [I.uniq (List.getElem?_eq_getElem hk) (List.getElem?_eq_getElem S.lt) h1 S.full (eqH_trans h2 (eqH_symm S.key))]
theorem Stay.got {l : List Ent} {a : List (Hd × Nat)} {h : Hd} {p : Nat} (I : Inv l a) (S : Stay l h p) : getI l 0 h = (7, true) ∧ getL l 0 h = l.set p { l[p]'S.lt with mark := true } ∧ getA l a 0 h = a := by
  have hd : decide ((l[p]'S.lt).turn = 0) = true := by simp [S.turn]
  unfold getI getL getA
  rw [S.find I]
  simp only [List.getElem?_eq_getElem S.lt, hd, cond_true, S.id, and_self]
/-- A place beside is changed; what is there is not marked. -/
theorem Stay.beside {l : List Ent} {h : Hd} {p k : Nat} (S : Stay l h p) (hk : k ≠ p) {e : Ent} (he : e.mark = false) : Stay (l.set k e) h p := by
  have e1 : (l.set k e)[p]'(by simpa using S.lt) = l[p]'S.lt := List.getElem_set_ne hk _
  exact ⟨by simpa using S.lt, by rw [e1]; exact S.full, by rw [e1]; exact S.key, by rw [e1]; exact S.id, by rw [e1]; exact S.turn, fun j hj hjp => by
    by_cases hjk : k = j
    · subst hjk; simp [he]
    · rw [List.getElem_set_ne hjk]
      exact S.rest j (by simpa using hj) hjp⟩
theorem Stay.mark {l : List Ent} {h : Hd} {p : Nat} (S : Stay l h p) (b : Bool) : Stay (l.set p { l[p]'S.lt with mark := b }) h p := by
  refine ⟨by simpa using S.lt, ?_, ?_, ?_, ?_, fun j hj hjp => ?_⟩
  · rw [List.getElem_set_self]; exact S.full
  · rw [List.getElem_set_self]; exact S.key
  · rw [List.getElem_set_self]; exact S.id
  · rw [List.getElem_set_self]; exact S.turn
  · rw [List.getElem_set_ne (fun q => hjp q.symm)]
    exact S.rest j (by simpa using hj) hjp

theorem Stay.put {l : List Ent} {a : List (Hd × Nat)} {h o : Hd} {p hd : Nat} (id : Int) (I : Inv l a) (S : Stay l h p) (h2 : 2 ≤ l.length) (hhd : hd < l.length) (ho : eqH o h = false) (hm : (l[p]'S.lt).mark = true) : Stay (putR l a 0 hd o id).1 h p := by
  unfold putR
  rw [if_neg (by omega)]
  cases hf : fnd l o with
  | some k =>
    obtain ⟨hk, h3, h4⟩ := fnd_some hf
    simp only [List.getElem?_eq_getElem hk]
    have hkp : k ≠ p := by
      rintro rfl
      have := eqH_trans (eqH_symm h4) S.key
      rw [ho] at this; cases this
    exact S.beside hkp (S.rest k hk hkp)
  | none =>
    simp only
    cases hfr : free l with
    | some k =>
      obtain ⟨hk, h3⟩ := free_some hfr
      have hkp : k ≠ p := by
        rintro rfl
        rw [S.full] at h3; cases h3
      exact S.beside hkp rfl
    | none =>
      simp only
      -- the hand
      have cold : ∀ j (hj : j < l.length), j ≠ p → hot 0 l[j] = false := fun j hj hjp => by simp [hot, S.rest j hj hjp]
      have key : ∃ i, i ≠ p ∧ i < l.length ∧ ((clk 0 (l.length + 1) l hd).2 = i) ∧ Stay (clk 0 (l.length + 1) l hd).1 h p ∧ (clk 0 (l.length + 1) l hd).1.length = l.length := by
        by_cases hp : hd = p
        · subst hp
          cases hh : hot 0 l[hd] with
          | false => simp [hot, hm, S.turn] at hh
          | true =>
            refine ⟨nxt l.length (hd + 1), ?_, ?_, ?_⟩
            · unfold nxt; split <;> omega
            · unfold nxt; split <;> omega
            · have hn : nxt l.length (hd + 1) ≠ hd ∧ nxt l.length (hd + 1) < l.length := by unfold nxt; split <;> omega
              have e1 : clk 0 (l.length + 1) l hd = clk 0 l.length (l.set hd { l[hd] with mark := false }) (nxt l.length (hd + 1)) := by
                conv => lhs; unfold clk
                simp only [List.getElem?_eq_getElem S.lt, hh, cond_true]
              obtain ⟨n, hn'⟩ : ∃ n, l.length = n + 1 := ⟨l.length - 1, by omega⟩
              have S2 := S.mark false
              have e2 : clk 0 (n + 1) (l.set hd { l[hd] with mark := false }) (nxt l.length (hd + 1)) = (l.set hd { l[hd] with mark := false }, nxt l.length (hd + 1)) := by
                unfold clk
                rw [List.getElem?_eq_getElem (by simpa using hn.2)]
                simp only
                rw [show hot 0 ((l.set hd { l[hd] with mark := false })[nxt l.length (hd + 1)]'(by simpa using hn.2)) = false by simp [hot, S2.rest _ (by simpa using hn.2) hn.1]]
                rfl
              rw [e1]
              rw [show clk 0 l.length (l.set hd { l[hd] with mark := false }) (nxt l.length (hd + 1)) = (l.set hd { l[hd] with mark := false }, nxt l.length (hd + 1)) by rw [← e2, ← hn']]
              exact ⟨rfl, S2, by simp⟩
        · refine ⟨hd, hp, hhd, ?_⟩
          have e2 : clk 0 (l.length + 1) l hd = (l, hd) := by
            unfold clk
            simp only [List.getElem?_eq_getElem hhd, cold hd hhd hp, cond_false]
          rw [e2]
          exact ⟨rfl, S, rfl⟩
      obtain ⟨i, k1, k2, k3, k4, k5⟩ := key
      rw [List.getElem?_eq_getElem (by omega)]
      simp only
      exact k4.beside (by omega) rfl
end Go.Proofs.Ytnhejkfbnjopjaa
