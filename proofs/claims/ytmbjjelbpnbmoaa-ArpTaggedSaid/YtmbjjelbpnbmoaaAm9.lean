/- Answers told with their rows lent; calls on rows of flat memory. No condition. -/
import Derived.Test.YtmbjjelbpnbmoaaAm8
namespace Go.Proofs.Ytmbjjelbpnbmoaa.Ab
open Go
set_option linter.unusedSimpArgs false
set_option linter.unusedVariables false

/-- An answer whose rows are told as rows that are not written again. -/
def lendT (m : Mem) : V → V
  | .tup l => .tup (l.map (lendV m))
  | v => lendV m v

theorem lend_any {N : Nat} {ρ : Pl} {I : Nat → Prop} {m : Mem} {w : World} (hr : Rep ρ I m w) {v : V} {x : Value} (hx : RV m.length ρ I w v x) (hn : nf (lendT m v) = true) :
    RV N ρ (fun b => I b ∨ Own ρ m b) w (lendT m v) x := by
  cases v with
  | tup l =>
    simp only [lendT, nf] at hn ⊢
    simp only [RV] at hx
    obtain ⟨c, h1, h2, h3⟩ := hx
    have h4 := lend_Rt hr h3 hn
    have : RV 0 (fun _ => (0, 0)) (fun b => I b ∨ Own ρ m b) w (.tup (l.map (lendV m))) x := by
      simp only [RV]
      exact ⟨c, h1, by simpa using h2, h4⟩
    exact RV_nf _ x (by simpa [nf] using hn) this
  | _ => exact RV_nf _ x hn (lend_RV hr hx hn)

theorem ans_lend {P : Program} {f : FuncId} {vs : List V} {v : V} (h : Snd P f vs [] fun r => ∃ m1 v0, r = .ret v0 m1 ∧ lendT m1 v0 = v) (hv : nf v = true) : Ans P f vs v := by
  intro ρ I w xs hr hl hrt
  refine (h ρ I w xs hr hl hrt).mono ?_
  rintro e w' ⟨r, ⟨m1, v0, rfl, rfl⟩, x, ρ', I', rfl, k1, k2, k3⟩
  have k3' : RV m1.length ρ' I' w' v0 x := k3
  have k1 : Rep ρ' I' m1 w' := k1
  have noOwn : ∀ b, ¬ Own ρ ([] : Mem) b := by rintro b ⟨n, hn, _⟩; simp [live] at hn
  have deadL : ∀ n, ¬ live (m1.map fun _ => B.dead) n := by
    rintro n ⟨b, hb, hl⟩
    rw [List.getElem?_map] at hb
    cases hm : m1[n]? with
    | none => rw [hm] at hb; cases hb
    | some c => rw [hm] at hb; cases hb; cases hl
  have new : ∀ b, Own ρ' m1 b → w.heap.size ≤ b := by
    intro b hb
    rcases k2.own b hb with h | h
    · exact h
    · exact absurd h (noOwn _)
  refine ⟨.ret (lendT m1 v0) (m1.map fun _ => B.dead), ⟨_, rfl⟩, x, ρ', fun b => I' b ∨ Own ρ' m1 b, rfl, ⟨?_, fun n hn => absurd hn (deadL n), fun n _ hn => absurd hn (deadL n), ?_⟩, ?_, ?_⟩
  · intro n b hb
    have : ∀ b, (m1.map fun _ => B.dead)[n]? = some b → b = .dead := by
      intro b hb
      rw [List.getElem?_map] at hb
      cases hm : m1[n]? with
      | none => rw [hm] at hb; cases hb
      | some c => rw [hm] at hb; cases hb; rfl
    rw [this b hb]
    trivial
  · rintro b (hb | hb)
    · exact k1.ilt b hb
    · exact own_lt k1 hb
  · refine ⟨by simp, fun n hn => by simp at hn, fun n hn => by simp at hn, fun b hb => .inl (k2.iSub b hb), ?_, fun b ⟨n, hn, _⟩ => absurd hn (deadL n), k2.wle, k2.frame⟩
    rintro b (hb | hb)
    · exact k2.iNew b hb
    · exact .inr (.inl (new b hb))
  · exact lend_any k1 k3' hv

/-! ### Calls in flat memory -/
theorem nmsB_flat {b : B} (h : nfB b = true) : nmsB b = [] := by
  cases b with
  | var t l => exact nfs_nmss l h
  | _ => rfl
theorem reach_flat1 {m : Mem} (hm : nfM m = true) (k n : Nat) : reach m (k + 2) [n] [] = [n] := by
  have h := nmsB_flat (nfM_at hm n)
  have h2 : reach m (k + 1) [] [n] = [n] := rfl
  simp only [reach, List.contains_nil, cond_false, List.nil_append, h, h2]
theorem roots_flat1 {m : Mem} (hm : nfM m = true) {n s o len : Nat} {r : List V} (hr : nfs r = true) : rootsV m (.sl s n o len :: r) = [n] := by
  unfold rootsV
  simp only [nmss, nms, nfs_nmss r hr, List.append_nil]
  exact reach_flat1 hm 78 n
theorem flat_ren (τ : Nat → Nat) : ∀ {l : Mem}, nfM l = true → l.map (renB τ) = l
  | [], _ => rfl
  | b :: r, h => by
    simp only [nfM, Bool.and_eq_true] at h
    rw [List.map_cons, flat_ren τ h.2, nfB_renB _ h.1]
theorem nfM_get {m : Mem} (hm : nfM m = true) {n : Nat} {b : B} (h : m[n]? = some b) : nfB b = true := by
  have := nfM_at hm n
  rw [List.getD, h] at this
  exact this
theorem nfM_app : ∀ {a b : Mem}, nfM a = true → nfM b = true → nfM (a ++ b) = true
  | [], _, _, h => h
  | c :: r, b, h, h2 => by
    simp only [nfM, Bool.and_eq_true] at h
    exact nfM_cons h.1 (nfM_app h.2 h2)
theorem nfM_set : ∀ {a : Mem} {n : Nat} {b : B}, nfM a = true → nfB b = true → nfM (a.set n b) = true
  | [], _, _, h, _ => h
  | c :: r, 0, b, h, h2 => by
    simp only [nfM, Bool.and_eq_true] at h
    exact nfM_cons h2 h.2
  | c :: r, n + 1, b, h, h2 => by
    simp only [nfM, Bool.and_eq_true] at h
    exact nfM_cons h.1 (nfM_set h.2 h2)

section
variable {P : Program} {f : FuncId} {m m1 : Mem} {s n len : Nat} {r : List V} {b b1 : B} {v : V}

theorem sl1_parts (hm : nfM m = true) (hn : m[n]? = some b) (hr : nfs r = true) :
    okCall [n] m (.sl s n 0 len :: r) = true ∧ rens (idx [n]) (.sl s n 0 len :: r) = .sl s 0 0 len :: r ∧ view [n] m = [b] := by
  have hlt : n < m.length := (List.getElem?_eq_some_iff.1 hn).1
  refine ⟨?_, ?_, ?_⟩
  · unfold okCall
    rw [closed_flat hm (by simp [nodupB, hlt])]
    simp [inDs, inD, nfs_inDs _ r hr]
  · simp [rens, ren, idx, rens_nf _ _ hr]
  · rw [view_flat hm]
    simp [List.getD, hn]
theorem sl1_merge (hm1 : nfM (b1 :: m1) = true) : merge [n] m (b1 :: m1) = m.set n b1 ++ m1 := by
  unfold merge
  rw [flat_ren _ (show nfM ((b1 :: m1).take [n].length) = true from by simp only [nfM, Bool.and_eq_true] at hm1; simp [nfM, hm1.1]), flat_ren _ (show nfM ((b1 :: m1).drop [n].length) = true from by simp only [nfM, Bool.and_eq_true] at hm1; simp [nfM, hm1.2])]
  rfl
/-- A call whose first argument is a row, and that hands back a value with names. -/
theorem callD_sl {K Kp : V → Mem → Prop} (h : Snd P f (.sl s 0 0 len :: r) [b] fun q => q = .ret v (b1 :: m1)) (he : enterable P f = true) (hm : nfM m = true) (hm1 : nfM (b1 :: m1) = true) (hn : m[n]? = some b) (hr : nfs r = true) (hd : inD (fun _ => true) v = true)
    (hk : K (ren (back [n] m.length) v) (m.set n b1 ++ m1)) : callD P f (.sl s n 0 len :: r) m K Kp := by
  obtain ⟨p1, p2, p3⟩ := sl1_parts (s := s) (len := len) hm hn hr
  unfold callD
  rw [roots_flat1 hm hr, p2, p3]
  refine ⟨p1, he, _, h, ?_⟩
  rintro q rfl
  refine ⟨?_, ?_⟩
  · simp only [okRes, CR.val, CR.mem, okBack, hd, all_inDB hm1]
    simp
  · simp only [backV, List.isEmpty_cons, Bool.false_and, cond_false, sl1_merge hm1]
    exact hk
theorem callE_sl {K0 : V → Prop} {K1 : V → Mem → List Nat → Prop} (h : Snd P f (.sl s 0 0 len :: r) [b] fun q => q = .ret v (b1 :: m1)) (he : enterable P f = true) (hm : nfM m = true) (hm1 : nfM (b1 :: m1) = true) (hn : m[n]? = some b) (hr : nfs r = true) (hd : inD (fun _ => true) v = true)
    (hk : K1 (ren (back [n] m.length) v) (m.set n b1 ++ m1) [n]) : callE P f (.sl s n 0 len :: r) m K0 K1 := by
  obtain ⟨p1, p2, p3⟩ := sl1_parts (s := s) (len := len) hm hn hr
  refine .inr ?_
  rw [roots_flat1 hm hr, p2, p3]
  refine ⟨p1, he, v, b1 :: m1, h, ?_, rfl, ?_⟩
  · simp only [okBack, hd, all_inDB hm1]
    simp
  · rw [sl1_merge hm1]
    exact hk
/-- A call on values without names whose answer names new memory. -/
theorem callE_new {vs : List V} {K0 : V → Prop} {K1 : V → Mem → List Nat → Prop} (h : Snd P f vs [] fun q => q = .ret v m1) (he : enterable P f = true) (hn : nfs vs = true) (hm1 : nfM m1 = true) (hd : inD (fun _ => true) v = true) (hnv : nf (ren (back [] m.length) v) = false)
    (hk : K1 (ren (back [] m.length) v) (m ++ m1) []) : callE P f vs m K0 K1 := by
  have hroots : rootsV m vs = [] := by unfold rootsV; rw [nfs_nmss vs hn]; rfl
  refine .inr ?_
  rw [hroots, rens_nf _ _ hn]
  refine ⟨by simp [okCall, nfs_inDs _ vs hn, closedB, nodupB], he, v, m1, h, ?_, ?_, ?_⟩
  · simp only [okBack, hd, all_inDB hm1]
    simp
  · rw [hnv]; rfl
  · have : merge [] m m1 = m ++ m1 := by
      unfold merge
      simp only [List.length_nil, List.take_zero, List.map_nil, List.drop_zero, setAll]
      rw [flat_ren _ hm1]
    rw [this]
    exact hk
/-- A call on values without names, told by what its answers may be. -/
theorem callD_newQ {vs : List V} {K Kp : V → Mem → Prop} {Q : CR → Prop} (h : Snd P f vs [] Q) (he : enterable P f = true) (hn : nfs vs = true)
    (hk : ∀ q, Q q → ∃ v m1, q = .ret v m1 ∧ nfM m1 = true ∧ inD (fun _ => true) v = true ∧ nf v = false ∧ K (ren (back [] m.length) v) (m ++ m1)) : callD P f vs m K Kp := by
  have hroots : rootsV m vs = [] := by unfold rootsV; rw [nfs_nmss vs hn]; rfl
  unfold callD
  rw [hroots, rens_nf _ _ hn]
  refine ⟨by simp [okCall, nfs_inDs _ vs hn, closedB, nodupB], he, _, h, ?_⟩
  intro q hq
  obtain ⟨v, m1, rfl, hm1, hd, hnv, hk⟩ := hk q hq
  refine ⟨?_, ?_⟩
  · simp only [okRes, CR.val, CR.mem, okBack, hd, all_inDB hm1]
    simp
  · simp only [backV, hnv, Bool.and_false, cond_false]
    have : merge [] m m1 = m ++ m1 := by
      unfold merge
      simp only [List.length_nil, List.take_zero, List.map_nil, List.drop_zero, setAll]
      rw [flat_ren _ hm1]
    rw [this]
    exact hk
end
end Go.Proofs.Ytmbjjelbpnbmoaa.Ab
