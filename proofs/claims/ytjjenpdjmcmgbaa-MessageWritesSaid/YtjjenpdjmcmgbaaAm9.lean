/- Answers told with their rows lent; calls on rows of flat memory. No condition. A call that leaves all as it was, and whose answer names nothing: told of whatever memory holds the same where it looks. No condition. The evaluator, run: what is closed is shown by running it. No condition. A region whose order is open, in which calls that come one behind the other may turn memory, and all else only looks. No condition. -/
import Derived.Test.YtjjenpdjmcmgbaaAm8
namespace Go.Proofs.Ytjjenpdjmcmgbaa.Ab
open Go
set_option linter.unusedSimpArgs false
set_option linter.unusedVariables false

/-- An answer whose rows are told as rows that are not written again. -/
def lendT (m : Mem) : V → V
  | .tup l => .tup (l.map (lendV m))
  | v => lendV m v

theorem lend_any {N : Nat} {ρ : Pl} {I : Nat → Prop} {m : Mem} {w : World} (hr : Rep ρ I m w) {v : V} {x : Value} (hx : RV m.length ρ I w v x) (hn : nf (lendT m v) = true) :
    RV N ρ (fun b => I b ∨ Own ρ m b) w (lendT m v) x := by
  cases v with
  | tup l =>
    simp only [lendT, nf] at hn ⊢
    simp only [RV] at hx
    obtain ⟨c, h1, h2, h3⟩ := hx
    have h4 := lend_Rt hr h3 hn
    have : RV 0 (fun _ => (0, 0)) (fun b => I b ∨ Own ρ m b) w (.tup (l.map (lendV m))) x := by
      simp only [RV]
      exact ⟨c, h1, by simpa using h2, h4⟩
    exact RV_nf _ x (by simpa [nf] using hn) this
  | _ => exact RV_nf _ x hn (lend_RV hr hx hn)

theorem ans_lend {P : Program} {f : FuncId} {vs : List V} {v : V} (h : Snd P f vs [] fun r => ∃ m1 v0, r = .ret v0 m1 ∧ lendT m1 v0 = v) (hv : nf v = true) : Ans P f vs v := by
  intro ρ I w xs hr hl hrt
  refine (h ρ I w xs hr hl hrt).mono ?_
  rintro e w' ⟨r, ⟨m1, v0, rfl, rfl⟩, x, ρ', I', rfl, k1, k2, k3⟩
  have k3' : RV m1.length ρ' I' w' v0 x := k3
  have k1 : Rep ρ' I' m1 w' := k1
  have noOwn : ∀ b, ¬ Own ρ ([] : Mem) b := by rintro b ⟨n, hn, _⟩; simp [live] at hn
  have deadL : ∀ n, ¬ live (m1.map fun _ => B.dead) n := by
    rintro n ⟨b, hb, hl⟩
    rw [List.getElem?_map] at hb
    cases hm : m1[n]? with
    | none => rw [hm] at hb; cases hb
    | some c => rw [hm] at hb; cases hb; cases hl
  have new : ∀ b, Own ρ' m1 b → w.heap.size ≤ b := by
    intro b hb
    rcases k2.own b hb with h | h
    · exact h
    · exact absurd h (noOwn _)
  refine ⟨.ret (lendT m1 v0) (m1.map fun _ => B.dead), ⟨_, rfl⟩, x, ρ', fun b => I' b ∨ Own ρ' m1 b, rfl, ⟨?_, fun n hn => absurd hn (deadL n), fun n _ hn => absurd hn (deadL n), ?_⟩, ?_, ?_⟩
  · intro n b hb
    have : ∀ b, (m1.map fun _ => B.dead)[n]? = some b → b = .dead := by
      intro b hb
      rw [List.getElem?_map] at hb
      cases hm : m1[n]? with
      | none => rw [hm] at hb; cases hb
      | some c => rw [hm] at hb; cases hb; rfl
    rw [this b hb]
    trivial
  · rintro b (hb | hb)
    · exact k1.ilt b hb
    · exact own_lt k1 hb
  · refine ⟨by simp, fun n hn => by simp at hn, fun n hn => by simp at hn, fun b hb => .inl (k2.iSub b hb), ?_, fun b ⟨n, hn, _⟩ => absurd hn (deadL n), k2.wle, k2.frame⟩
    rintro b (hb | hb)
    · exact k2.iNew b hb
    · exact .inr (.inl (new b hb))
  · exact lend_any k1 k3' hv

/-! ### Calls in flat memory -/
theorem reach_flat1 {m : Mem} (hm : nfM m = true) (k n : Nat) : reach m (k + 2) [n] [] = [n] := by
  have h := nmsB_flat (nfM_at hm n)
  have h2 : reach m (k + 1) [] [n] = [n] := rfl
  simp only [reach, List.contains_nil, cond_false, List.nil_append, h, h2]
theorem roots_flat1 {m : Mem} (hm : nfM m = true) {n s o len : Nat} {r : List V} (hr : nfs r = true) : rootsV m (.sl s n o len :: r) = [n] := by
  unfold rootsV
  simp only [nmss, nms, nfs_nmss r hr, List.append_nil]
  exact reach_flat1 hm 1998 n
theorem flat_ren (τ : Nat → Nat) : ∀ {l : Mem}, nfM l = true → l.map (renB τ) = l
  | [], _ => rfl
  | b :: r, h => by
    simp only [nfM, Bool.and_eq_true] at h
    rw [List.map_cons, flat_ren τ h.2, nfB_renB _ h.1]
theorem nfM_get {m : Mem} (hm : nfM m = true) {n : Nat} {b : B} (h : m[n]? = some b) : nfB b = true := by
  have := nfM_at hm n
  rw [List.getD, h] at this
  exact this
theorem nfM_app : ∀ {a b : Mem}, nfM a = true → nfM b = true → nfM (a ++ b) = true
  | [], _, _, h => h
  | c :: r, b, h, h2 => by
    simp only [nfM, Bool.and_eq_true] at h
    exact nfM_cons h.1 (nfM_app h.2 h2)
theorem nfM_set : ∀ {a : Mem} {n : Nat} {b : B}, nfM a = true → nfB b = true → nfM (a.set n b) = true
  | [], _, _, h, _ => h
  | c :: r, 0, b, h, h2 => by
    simp only [nfM, Bool.and_eq_true] at h
    exact nfM_cons h2 h.2
  | c :: r, n + 1, b, h, h2 => by
    simp only [nfM, Bool.and_eq_true] at h
    exact nfM_cons h.1 (nfM_set h.2 h2)

section
variable {P : Program} {f : FuncId} {m m1 : Mem} {s n len : Nat} {r : List V} {b b1 : B} {v : V}

theorem sl1_parts (hm : nfM m = true) (hn : m[n]? = some b) (hr : nfs r = true) :
    okCall [n] m (.sl s n 0 len :: r) = true ∧ rens (idx [n]) (.sl s n 0 len :: r) = .sl s 0 0 len :: r ∧ view [n] m = [b] := by
  have hlt : n < m.length := (List.getElem?_eq_some_iff.1 hn).1
  refine ⟨?_, ?_, ?_⟩
  · unfold okCall
    rw [closed_flat hm (by simp [nodupB, hlt])]
    simp [inDs, inD, nfs_inDs _ r hr]
  · simp [rens, ren, idx, rens_nf _ _ hr]
  · rw [view_flat hm]
    simp [List.getD, hn]
theorem sl1_merge (hm1 : nfM (b1 :: m1) = true) : merge [n] m (b1 :: m1) = m.set n b1 ++ m1 := by
  unfold merge
  rw [flat_ren _ (show nfM ((b1 :: m1).take [n].length) = true from by simp only [nfM, Bool.and_eq_true] at hm1; simp [nfM, hm1.1]), flat_ren _ (show nfM ((b1 :: m1).drop [n].length) = true from by simp only [nfM, Bool.and_eq_true] at hm1; simp [nfM, hm1.2])]
  rfl
/-- A call whose first argument is a row, and that hands back a value with names. -/
theorem callD_sl {K Kp : V → Mem → Prop} (h : Snd P f (.sl s 0 0 len :: r) [b] fun q => q = .ret v (b1 :: m1)) (he : enterable P f = true) (hm : nfM m = true) (hm1 : nfM (b1 :: m1) = true) (hn : m[n]? = some b) (hr : nfs r = true) (hd : inD (fun _ => true) v = true)
    (hk : K (ren (back [n] m.length) v) (m.set n b1 ++ m1)) : callD P f (.sl s n 0 len :: r) m K Kp := by
  obtain ⟨p1, p2, p3⟩ := sl1_parts (s := s) (len := len) hm hn hr
  refine .inl ?_
  unfold callL
  rw [roots_flat1 hm hr, p2, p3]
  refine ⟨p1, he, _, h, ?_⟩
  rintro q rfl
  refine ⟨?_, ?_⟩
  · simp only [okRes, CR.val, CR.mem, okBack, hd, all_inDB hm1]
    simp
  · simp only [backV, List.isEmpty_cons, Bool.false_and, cond_false, sl1_merge hm1]
    exact hk
theorem callE_sl {K0 : V → Prop} {K1 : V → Mem → List Nat → Prop} (h : Snd P f (.sl s 0 0 len :: r) [b] fun q => q = .ret v (b1 :: m1)) (he : enterable P f = true) (hm : nfM m = true) (hm1 : nfM (b1 :: m1) = true) (hn : m[n]? = some b) (hr : nfs r = true) (hd : inD (fun _ => true) v = true)
    (hk : K1 (ren (back [n] m.length) v) (m.set n b1 ++ m1) [n]) : callE P f (.sl s n 0 len :: r) m K0 K1 := by
  obtain ⟨p1, p2, p3⟩ := sl1_parts (s := s) (len := len) hm hn hr
  refine .inr ?_
  rw [roots_flat1 hm hr, p2, p3]
  refine ⟨p1, he, v, b1 :: m1, h, ?_, rfl, ?_⟩
  · simp only [okBack, hd, all_inDB hm1]
    simp
  · rw [sl1_merge hm1]
    exact hk
/-- A call on values without names whose answer names new memory. -/
theorem callE_new {vs : List V} {K0 : V → Prop} {K1 : V → Mem → List Nat → Prop} (h : Snd P f vs [] fun q => q = .ret v m1) (he : enterable P f = true) (hn : nfs vs = true) (hm1 : nfM m1 = true) (hd : inD (fun _ => true) v = true) (hnv : nf (ren (back [] m.length) v) = false)
    (hk : K1 (ren (back [] m.length) v) (m ++ m1) []) : callE P f vs m K0 K1 := by
  have hroots : rootsV m vs = [] := by unfold rootsV; rw [nfs_nmss vs hn]; rfl
  refine .inr ?_
  rw [hroots, rens_nf _ _ hn]
  refine ⟨by simp [okCall, nfs_inDs _ vs hn, closedB, nodupB], he, v, m1, h, ?_, ?_, ?_⟩
  · simp only [okBack, hd, all_inDB hm1]
    simp
  · rw [hnv]; rfl
  · have : merge [] m m1 = m ++ m1 := by
      unfold merge
      simp only [List.length_nil, List.take_zero, List.map_nil, List.drop_zero, setAll]
      rw [flat_ren _ hm1]
    rw [this]
    exact hk
/-- A call on values without names, told by what its answers may be. -/
theorem callD_newQ {vs : List V} {K Kp : V → Mem → Prop} {Q : CR → Prop} (h : Snd P f vs [] Q) (he : enterable P f = true) (hn : nfs vs = true)
    (hk : ∀ q, Q q → ∃ v m1, q = .ret v m1 ∧ nfM m1 = true ∧ inD (fun _ => true) v = true ∧ nf v = false ∧ K (ren (back [] m.length) v) (m ++ m1)) : callD P f vs m K Kp := by
  have hroots : rootsV m vs = [] := by unfold rootsV; rw [nfs_nmss vs hn]; rfl
  refine .inl ?_
  unfold callL
  rw [hroots, rens_nf _ _ hn]
  refine ⟨by simp [okCall, nfs_inDs _ vs hn, closedB, nodupB], he, _, h, ?_⟩
  intro q hq
  obtain ⟨v, m1, rfl, hm1, hd, hnv, hk⟩ := hk q hq
  refine ⟨?_, ?_⟩
  · simp only [okRes, CR.val, CR.mem, okBack, hd, all_inDB hm1]
    simp
  · simp only [backV, hnv, Bool.and_false, cond_false]
    have : merge [] m m1 = m ++ m1 := by
      unfold merge
      simp only [List.length_nil, List.take_zero, List.map_nil, List.drop_zero, setAll]
      rw [flat_ren _ hm1]
    rw [this]
    exact hk
end
end Go.Proofs.Ytjjenpdjmcmgbaa.Ab

namespace Go.Proofs.Ytjjenpdjmcmgbaa.Ab
open Go
set_option linter.unusedSimpArgs false
set_option linter.unusedVariables false

mutual
theorem ren_ren (σ τ : Nat → Nat) : ∀ v, ren σ (ren τ v) = ren (fun n => σ (τ n)) v
  | .ptr _ _ => rfl
  | .ep _ _ _ _ => rfl
  | .sl _ _ _ _ => rfl
  | .mp _ => rfl
  | .unk => rfl
  | .ip _ => rfl
  | .isl _ _ => rfl
  | .fn _ a b => by simp only [ren, rens_ren σ τ a, rens_ren σ τ b]
  | .ifc _ v => by simp only [ren, ren_ren σ τ v]
  | .agg l => by simp only [ren, rens_ren σ τ l]
  | .tup l => by simp only [ren, rens_ren σ τ l]
  | .bool _ => rfl
  | .int _ _ => rfl
  | .str _ => rfl
  | .nilp => rfl
  | .nils => rfl
  | .nilm => rfl
  | .nilf => rfl
  | .nili => rfl
theorem rens_ren (σ τ : Nat → Nat) : ∀ l, rens σ (rens τ l) = rens (fun n => σ (τ n)) l
  | [] => rfl
  | v :: r => by simp only [rens, ren_ren σ τ v, rens_ren σ τ r]
end
theorem renss_ren (σ τ : Nat → Nat) : ∀ l, renss σ (renss τ l) = renss (fun n => σ (τ n)) l
  | [] => rfl
  | v :: r => by simp only [renss, rens_ren σ τ v, renss_ren σ τ r]
theorem renp_ren (σ τ : Nat → Nat) : ∀ l, renp σ (renp τ l) = renp (fun n => σ (τ n)) l
  | [] => rfl
  | (a, b) :: r => by simp only [renp, ren_ren σ τ a, ren_ren σ τ b, renp_ren σ τ r]
theorem renB_ren (σ τ : Nat → Nat) (b : B) : renB σ (renB τ b) = renB (fun n => σ (τ n)) b := by
  cases b <;> simp only [renB, rens_ren, renss_ren, renp_ren]

theorem merge_view {L : List Nat} {m : Mem} (hc : closedB L m = true) : merge L m (view L m) = m := by
  obtain ⟨c1, c2, c3⟩ := closed_parts hc
  have hl : (view L m).length = L.length := by simp [view]
  unfold merge
  rw [List.drop_of_length_le (by omega), List.take_of_length_le (by omega)]
  have : (view L m).map (renB (back L m.length)) = L.map fun n => m.getD n .dead := by
    unfold view
    rw [List.map_map]
    refine List.map_congr_left fun n hn => ?_
    simp only [Function.comp, renB_ren]
    refine renB_id (D := fun k => L.contains k) (fun k hk => ?_) (c3 n hn)
    have hk' : k ∈ L := by simpa using hk
    rw [back_lt (idx_lt hk')]
    exact getD_of (idx_get hk')
  rw [this, setAll_same L c2]
  simp

theorem idx_range {n k : Nat} (h : k < n) : idx (List.range n) k = k := by
  have h1 : k ∈ List.range n := List.mem_range.2 h
  have h2 := idx_get h1
  have h3 := idx_lt h1
  rw [List.length_range] at h3
  rw [List.getElem?_range h3] at h2
  exact Option.some.inj h2
theorem getD_range {n k : Nat} (h : k < n) : (List.range n).getD k 0 = k := getD_of (by rw [List.getElem?_range h])

/-- What is new behind a call, and named by nothing, is let go. -/
theorem Snd_drop {P : Program} {f : FuncId} {vs : List V} {mv : Mem} {v : V} (hc : closedB (List.range mv.length) mv = true) (hb : bareT v = true) (h : Snd P f vs mv fun r => ∃ new, r = .ret v (mv ++ new)) : Snd P f vs mv fun r => r = .ret v mv := by
  intro ρ I w xs hr hl hrt
  refine (h ρ I w xs hr hl hrt).mono ?_
  rintro e w' ⟨r, ⟨new, rfl⟩, x, ρ', I', rfl, p1, p2, p3⟩
  obtain ⟨c1, c2, c3⟩ := closed_parts hc
  have hget : ∀ k, k < mv.length → (mv ++ new).getD k .dead = mv.getD k .dead := fun k hk => by
    simp only [List.getD, List.getElem?_append_left hk]
  have hc' : closedB (List.range mv.length) (mv ++ new) = true := by
    unfold closedB at hc ⊢
    simp only [Bool.and_eq_true, List.all_eq_true, Nat.blt_eq] at hc ⊢
    refine ⟨hc.1, fun k hk => by have := hc.2.1 k hk; simp; omega, fun k hk => ?_⟩
    rw [hget k (List.mem_range.1 hk)]
    exact hc.2.2 k hk
  have hv : view (List.range mv.length) (mv ++ new) = mv := by
    apply List.ext_getElem?
    intro k
    unfold view
    rw [List.getElem?_map]
    rcases Nat.lt_or_ge k mv.length with hk | hk
    · rw [List.getElem?_range hk, Option.map_some, hget k hk, List.getElem?_eq_getElem hk]
      congr 1
      have e1 : mv.getD k .dead = mv[k] := by simp [List.getD, hk]
      rw [e1]
      refine renB_id (D := fun j => (List.range mv.length).contains j) (fun j hj => idx_range (List.mem_range.1 (by simpa using hj))) ?_
      have := c3 k (List.mem_range.2 hk)
      rwa [e1] at this
    · rw [List.getElem?_eq_none (by simpa using hk), List.getElem?_eq_none hk]
      rfl
  have hvw := p1.view hc'
  rw [show (CR.ret v (mv ++ new)).mem = mv ++ new from rfl, hv] at hvw
  have hrho : ∀ k, k < mv.length → ρ' ((List.range mv.length).getD k 0) = ρ k := fun k hk => by
    rw [getD_range hk]
    exact p2.rho k hk
  refine ⟨_, rfl, x, _, I', rfl, hvw, ⟨Nat.le_refl _, hrho, fun n hn h => h, p2.iSub, p2.iNew, fun b hb => ?_, p2.wle, p2.frame⟩, bareT_go hb p3⟩
  obtain ⟨n, h1, h2⟩ := hb
  have hn := Ab.live_lt h1
  right
  exact ⟨n, h1, by rw [← h2]; exact (congrArg Prod.fst (hrho n hn)).symm⟩

/-- Such a call in greater memory. -/
theorem Snd_still {P : Program} {f : FuncId} {vs : List V} {m : Mem} {L : List Nat} {v : V} (hok : okCall L m vs = true) (hin : (view L m).all (inDB fun _ => true) = true) (hb : bareT v = true)
    (h : Snd P f (rens (idx L) vs) (view L m) fun r => r = .ret v (view L m)) : Snd P f vs m fun r => r = .ret v m := by
  unfold okCall at hok
  simp only [Bool.and_eq_true] at hok
  intro ρ I w xs hr hl hrt
  have hview := hr.view hok.2
  have hrt' := Rt_sub (N' := (view L m).length) (ρ' := fun i => ρ (L.getD i 0)) (fun n hn hm => view_names (ρ := ρ) (m := m) n hn hm) _ _ 0 hok.1 hrt
  refine (h _ I w xs hview (by rw [rens_length]; exact hl) hrt').mono ?_
  rintro e w' ⟨r, rfl, x, ρ1, I1, rfl, p1, p2, p3⟩
  obtain ⟨ρ', m1, m2, _⟩ := hr.merge hok.2 p1 p2 hin
  rw [show (CR.ret v (view L m)).mem = view L m from rfl, merge_view hok.2] at m1 m2
  exact ⟨_, rfl, x, ρ', I1, rfl, m1, m2, bareT_go hb p3⟩

/-- The same of whatever memory holds the same there. -/
theorem quiet_of {P : Program} {f : FuncId} {vs : List V} {m : Mem} {L : List Nat} {v : V} (hok : okCall L m vs = true) (hin : (view L m).all (inDB fun _ => true) = true) (hcl : closedB (List.range (view L m).length) (view L m) = true) (hb : bareT v = true)
    (h : Snd P f (rens (idx L) vs) (view L m) fun r => ∃ new, r = .ret v (view L m ++ new)) : ∀ m2 : Mem, (∀ n ∈ L, m2[n]? = m[n]?) → Snd P f vs m2 fun r => r = .ret v m2 := by
  intro m2 hm2
  have hd : ∀ n ∈ L, m2.getD n .dead = m.getD n .dead := fun n hn => by simp only [List.getD, hm2 n hn]
  have hv : view L m2 = view L m := by
    unfold view
    exact List.map_congr_left fun n hn => by rw [hd n hn]
  have hok2 : okCall L m2 vs = true := by
    unfold okCall closedB at hok ⊢
    simp only [Bool.and_eq_true, List.all_eq_true, Nat.blt_eq] at hok ⊢
    refine ⟨hok.1, hok.2.1, fun n hn => ?_, fun n hn => by rw [hd n hn]; exact hok.2.2.2 n hn⟩
    have h1 := hok.2.2.1 n hn
    have h2 := hm2 n hn
    rw [List.getElem?_eq_getElem h1] at h2
    exact (List.getElem?_eq_some_iff.1 h2).1
  exact Snd_still hok2 (by rw [hv]; exact hin) hb (by rw [hv]; exact Snd_drop hcl hb h)
end Go.Proofs.Ytjjenpdjmcmgbaa.Ab

namespace Go.Proofs.Ytjjenpdjmcmgbaa.Ab
open Go
set_option linter.unusedSimpArgs false
set_option linter.unusedVariables false

section
variable (P : Program) (call : FuncId → List V → Mem → Option (List CR))

inductive Ro where
  | ok (e : Env) (m : Mem)
  | pan (v : V) (m : Mem)

/-! ### The same value twice is looked at once -/
mutual
def eqV0 : V → V → Bool
  | .unk, .unk => true
  | .bool a, .bool b => a == b
  | .int j a, .int k b => decide (j = k) && decide (a = b)
  | .nilp, .nilp => true
  | .ptr a b, .ptr c d => Nat.beq a c && Nat.beq b d
  | .ep a b c d, .ep e f g h => Nat.beq a e && (Nat.beq b f && (Nat.beq c g && Nat.beq d h))
  | .ip a, .ip b => eqVs a b
  | .nils, .nils => true
  | .sl a b c d, .sl e f g h => Nat.beq a e && (Nat.beq b f && (Nat.beq c g && Nat.beq d h))
  | .isl a b, .isl c d => Nat.beq a c && eqVss b d
  | .nilm, .nilm => true
  | .mp a, .mp b => Nat.beq a b
  | .nilf, .nilf => true
  | .fn a b c, .fn d e f => Nat.beq a d && (eqVs b e && eqVs c f)
  | .nili, .nili => true
  | .ifc a b, .ifc c d => Nat.beq a c && eqV0 b d
  | .agg a, .agg b => eqVs a b
  | .tup a, .tup b => eqVs a b
  | _, _ => false
def eqVs : List V → List V → Bool
  | [], [] => true
  | a :: r, b :: s => eqV0 a b && eqVs r s
  | _, _ => false
def eqVss : List (List V) → List (List V) → Bool
  | [], [] => true
  | a :: r, b :: s => eqVs a b && eqVss r s
  | _, _ => false
end
def eqVp : List (V × V) → List (V × V) → Bool
  | [], [] => true
  | (a, c) :: r, (b, d) :: s => eqV0 a b && (eqV0 c d && eqVp r s)
  | _, _ => false
def eqNs : List Nat → List Nat → Bool
  | [], [] => true
  | a :: r, b :: s => Nat.beq a b && eqNs r s
  | _, _ => false
def eqB : B → B → Bool
  | .dead, .dead => true
  | .var a b, .var c d => Nat.beq a c && eqVs b d
  | .row a b c, .row d e f => Nat.beq a d && (Nat.beq b e && eqVss c f)
  | .map a b c, .map d e f => eqVp a d && (eqNs b e && Nat.beq c f)
  | .iter a b c d, .iter e f g h => Nat.beq a e && (Nat.beq b f && (eqNs c g && Nat.beq d h))
  | _, _ => false
def eqM : Mem → Mem → Bool
  | [], [] => true
  | a :: r, b :: s => eqB a b && eqM r s
  | _, _ => false
def eqCR : CR → CR → Bool
  | .ret v m, .ret u n => eqV0 v u && eqM m n
  | .pan v m, .pan u n => eqV0 v u && eqM m n
  | _, _ => false

mutual
theorem eqV0_eq : ∀ {a b : V}, eqV0 a b = true → a = b
  | .unk, b, h => by cases b <;> first | rfl | (simp [eqV0] at h)
  | .bool x, b, h => by cases b <;> simp [eqV0] at h ⊢; exact h
  | .int j x, b, h => by cases b <;> simp [eqV0] at h ⊢; exact h
  | .str _, b, h => by cases b <;> simp [eqV0] at h
  | .nilp, b, h => by cases b <;> first | rfl | (simp [eqV0] at h)
  | .ptr _ _, b, h => by cases b <;> simp [eqV0] at h ⊢; exact h
  | .ep _ _ _ _, b, h => by cases b <;> simp [eqV0] at h ⊢; exact h
  | .ip x, b, h => by
    cases b with
    | ip y =>
      simp only [eqV0] at h
      rw [eqVs_eq h]
    | _ => simp [eqV0] at h
  | .nils, b, h => by cases b <;> first | rfl | (simp [eqV0] at h)
  | .sl _ _ _ _, b, h => by cases b <;> simp [eqV0] at h ⊢; exact h
  | .isl _ x, b, h => by
    cases b with
    | isl _ y =>
      simp only [eqV0, Bool.and_eq_true] at h
      rw [Nat.eq_of_beq_eq_true h.1, eqVss_eq h.2]
    | _ => simp [eqV0] at h
  | .nilm, b, h => by cases b <;> first | rfl | (simp [eqV0] at h)
  | .mp _, b, h => by cases b <;> simp [eqV0] at h ⊢; exact h
  | .nilf, b, h => by cases b <;> first | rfl | (simp [eqV0] at h)
  | .fn _ x z, b, h => by
    cases b with
    | fn _ y u =>
      simp only [eqV0, Bool.and_eq_true] at h
      rw [Nat.eq_of_beq_eq_true h.1, eqVs_eq h.2.1, eqVs_eq h.2.2]
    | _ => simp [eqV0] at h
  | .nili, b, h => by cases b <;> first | rfl | (simp [eqV0] at h)
  | .ifc _ x, b, h => by
    cases b with
    | ifc _ y =>
      simp only [eqV0, Bool.and_eq_true] at h
      rw [Nat.eq_of_beq_eq_true h.1, eqV0_eq h.2]
    | _ => simp [eqV0] at h
  | .agg x, b, h => by
    cases b with
    | agg y => simp only [eqV0] at h; rw [eqVs_eq h]
    | _ => simp [eqV0] at h
  | .tup x, b, h => by
    cases b with
    | tup y => simp only [eqV0] at h; rw [eqVs_eq h]
    | _ => simp [eqV0] at h
theorem eqVs_eq : ∀ {a b : List V}, eqVs a b = true → a = b
  | [], [], _ => rfl
  | [], _ :: _, h => by simp [eqVs] at h
  | _ :: _, [], h => by simp [eqVs] at h
  | a :: r, b :: s, h => by
    simp only [eqVs, Bool.and_eq_true] at h
    rw [eqV0_eq h.1, eqVs_eq h.2]
theorem eqVss_eq : ∀ {a b : List (List V)}, eqVss a b = true → a = b
  | [], [], _ => rfl
  | [], _ :: _, h => by simp [eqVss] at h
  | _ :: _, [], h => by simp [eqVss] at h
  | a :: r, b :: s, h => by
    simp only [eqVss, Bool.and_eq_true] at h
    rw [eqVs_eq h.1, eqVss_eq h.2]
end
theorem eqVp_eq : ∀ {a b : List (V × V)}, eqVp a b = true → a = b
  | [], [], _ => rfl
  | [], _ :: _, h => by simp [eqVp] at h
  | _ :: _, [], h => by simp [eqVp] at h
  | (a, c) :: r, (b, d) :: s, h => by
    simp only [eqVp, Bool.and_eq_true] at h
    rw [eqV0_eq h.1, eqV0_eq h.2.1, eqVp_eq h.2.2]
theorem eqNs_eq : ∀ {a b : List Nat}, eqNs a b = true → a = b
  | [], [], _ => rfl
  | [], _ :: _, h => by simp [eqNs] at h
  | _ :: _, [], h => by simp [eqNs] at h
  | a :: r, b :: s, h => by
    simp only [eqNs, Bool.and_eq_true] at h
    rw [Nat.eq_of_beq_eq_true h.1, eqNs_eq h.2]
theorem eqB_eq : ∀ {a b : B}, eqB a b = true → a = b
  | .dead, b, h => by cases b <;> first | rfl | (simp [eqB] at h)
  | .var _ x, b, h => by
    cases b with
    | var _ y => simp only [eqB, Bool.and_eq_true] at h; rw [Nat.eq_of_beq_eq_true h.1, eqVs_eq h.2]
    | _ => simp [eqB] at h
  | .row _ _ x, b, h => by
    cases b with
    | row _ _ y => simp only [eqB, Bool.and_eq_true] at h; rw [Nat.eq_of_beq_eq_true h.1, Nat.eq_of_beq_eq_true h.2.1, eqVss_eq h.2.2]
    | _ => simp [eqB] at h
  | .map x y z, b, h => by
    cases b with
    | map x' y' z' => simp only [eqB, Bool.and_eq_true] at h; rw [eqVp_eq h.1, eqNs_eq h.2.1, Nat.eq_of_beq_eq_true h.2.2]
    | _ => simp [eqB] at h
  | .iter x y z u, b, h => by
    cases b with
    | iter x' y' z' u' => simp only [eqB, Bool.and_eq_true] at h; rw [Nat.eq_of_beq_eq_true h.1, Nat.eq_of_beq_eq_true h.2.1, eqNs_eq h.2.2.1, Nat.eq_of_beq_eq_true h.2.2.2]
    | _ => simp [eqB] at h
theorem eqM_eq : ∀ {a b : Mem}, eqM a b = true → a = b
  | [], [], _ => rfl
  | [], _ :: _, h => by simp [eqM] at h
  | _ :: _, [], h => by simp [eqM] at h
  | a :: r, b :: s, h => by
    simp only [eqM, Bool.and_eq_true] at h
    rw [eqB_eq h.1, eqM_eq h.2]
theorem eqCR_eq : ∀ {a b : CR}, eqCR a b = true → a = b
  | .ret v m, b, h => by
    cases b with
    | ret u n => simp only [eqCR, Bool.and_eq_true] at h; rw [eqV0_eq h.1, eqM_eq h.2]
    | pan _ _ => simp [eqCR] at h
  | .pan v m, b, h => by
    cases b with
    | pan u n => simp only [eqCR, Bool.and_eq_true] at h; rw [eqV0_eq h.1, eqM_eq h.2]
    | ret _ _ => simp [eqCR] at h

/-- Each once. -/
def once : List CR → List CR
  | [] => []
  | a :: r => (fun s => bif s.any (eqCR a) then s else a :: s) (once r)
theorem mem_once : ∀ {l : List CR} {a : CR}, a ∈ l → a ∈ once l
  | b :: r, a, h => by
    simp only [once]
    cases hb : (once r).any (eqCR b) with
    | true =>
      simp only [cond_true]
      rcases List.mem_cons.1 h with rfl | h
      · obtain ⟨c, h1, h2⟩ := List.any_eq_true.1 hb
        rw [eqCR_eq h2]; exact h1
      · exact mem_once h
    | false =>
      simp only [cond_false]
      rcases List.mem_cons.1 h with rfl | h
      · simp
      · exact List.mem_cons_of_mem _ (mem_once h)

/-- One behind the other, all that comes. -/
def allX {α β : Type} (f : α → Option (List β)) : List α → Option (List β)
  | [] => some []
  | a :: r => match f a with
    | none => none
    | some l => match allX f r with
      | none => none
      | some s => some (l ++ s)
theorem allX_spec {α β : Type} {f : α → Option (List β)} : ∀ {l : List α} {s : List β}, allX f l = some s → ∀ a ∈ l, ∃ t, f a = some t ∧ ∀ b ∈ t, b ∈ s
  | a :: r, s, h, x, hx => by
    simp only [allX] at h
    split at h
    · cases h
    · rename_i l hl
      split at h
      · cases h
      · rename_i s' hs
        cases h
        rcases List.mem_cons.1 hx with rfl | hx
        · exact ⟨l, hl, fun b hb => List.mem_append_left _ hb⟩
        · obtain ⟨t, h1, h2⟩ := allX_spec hs x hx
          exact ⟨t, h1, fun b hb => List.mem_append_right _ (h2 b hb)⟩

/-- A call's answer, in the caller's memory. -/
def backX (L : List Nat) (m : Mem) : CR → Option (List CR)
  | .ret v m1 => bif okRes L v m1 then some [.ret (backV L m v m1).1 (backV L m v m1).2] else none
  | .pan v m1 => bif okRes L v m1 then some [.pan (backV L m v m1).1 (backV L m v m1).2] else none

/-- A call: all that it may hand back, in the caller's memory. -/
def callX (f : FuncId) (vs : List V) (m : Mem) : Option (List CR) :=
  (fun L => bif okCall L m vs && enterable P f then match call f (rens (idx L) vs) (view L m) with
    | some l => allX (backX L m) (once l)
    | none => none
    else none) (rootsV m vs)

def runX (all : Array Oper) : List Oper → Env → Mem → Option (List Ro)
  | [], env, m => some [.ok env m]
  | o :: r, env, m =>
    match wantD all env o with
    | none => none
    | some false => runX all r (put env o.dst (.tup [])) m
    | some true => match panicV (evO env) o.op with
      | some v => some [.pan v m]
      | none => match calleeV (evO env) o.op with
        | some (f, vs) => match callX P call f vs m with
          | some l => allX (fun q => match q with
            | .ret v m' => runX all r (put env o.dst v) m'
            | .pan v m' => some [.pan v m']) l
          | none => none
        | none => match execD P (evO env) m o.op with
          | some (.val v m') => runX all r (put env o.dst v) m'
          | some (.skip m') => runX all r (put env o.dst (.tup [])) m'
          | some (.any l) => allX (fun q => runX all r (put env o.dst q.1) q.2) l
          | none => none

/-- A step in a region whose order is open. -/
def stepX (o : Oper) (env : Env) (m : Mem) : Option (V × Mem) :=
  match calleeV (evO env) o.op with
  | some (f, vs) => bif okCall (rootsV m vs) m vs && enterable P f then match call f (rens (idx (rootsV m vs)) vs) (view (rootsV m vs) m) with
    | some l => match once l with
      | [.ret v m1] => bif okRes (rootsV m vs) v m1 then some (backV (rootsV m vs) m v m1) else none
      | _ => none
    | none => none
    else none
  | none => match execD P (evO env) m o.op with
    | some (.val v m') => some (v, m')
    | some (.skip m') => some (.tup [], m')
    | _ => none

/-- The same, with where it looks and what it turns; a call that turns nothing is told so. -/
def stepQ (o : Oper) (env : Env) (m : Mem) : Option (V × Mem × Info) :=
  match calleeV (evO env) o.op with
  | some (f, vs) => (fun L => bif okCall L m vs && enterable P f then match call f (rens (idx L) vs) (view L m) with
    | some l => match once l with
      | [.ret v m1] => bif bareT v && (eqM (m1.take (view L m).length) (view L m) && ((view L m).all (inDB fun _ => true) && closedB (List.range (view L m).length) (view L m))) then some (v, m, ⟨L, [], false⟩)
        else bif okRes L v m1 then (match infoD (evO env) m o.op (backV L m v m1).1 with
          | some inf => some ((backV L m v m1).1, (backV L m v m1).2, inf)
          | none => none) else none
      | _ => none
    | none => none
    else none) (rootsV m vs)
  | none => match stepX P call o env m with
    | some (v, m') => match infoD (evO env) m o.op v with
      | some inf => some (v, m', inf)
      | none => none
    | none => none

/-- A literal told as a row that is not written again. -/
def litX (P : Program) (o : Oper) (env : Env) : Option V := match o.op with
  | .buildSlice t n ps => bif nfs (ps.toList.map fun p => evO env p.2) then match bsliceV P t n (ps.toList.map fun p => (p.1, evO env p.2)) [] with
    | some (.sl sz 0 0 n', [.row _ sz' es]) => bif Nat.beq n' n && (Nat.beq sz' sz && (Nat.beq es.length n && nfss es)) then some (.isl sz es) else none
    | _ => none
    else none
  | _ => none

def drawX (chk : Nat → Env → Bool) (all : Array Oper) : Nat → List (Nat × Info × Nat) → List Oper → Env → Mem → Option Ro
  | _, _, [], env, m => some (.ok env m)
  | k, acc, o :: r, env, m => bif !chk k env then none else
    match wantD all env o with
    | none => none
    | some false => drawX chk all (k + 1) acc r (put env o.dst (.tup [])) m
    | some true => match panicV (evO env) o.op with
      | some _ => none
      | none => match stepQ P call o env m with
        | none => none
        | some (v, m', inf) => bif isPure inf then drawX chk all (k + 1) acc r (put env o.dst v) m' else bif (inf.rd ++ inf.wr).all (fun n => Nat.blt n m.length) && acc.all (fun x => indep x.2.1 x.2.2 inf || waits all o x.1) then drawX chk all (k + 1) ((k, inf, m.length) :: acc) r (put env o.dst v) m' else match litX P o env with
          | some u => drawX chk all (k + 1) acc r (put env o.dst u) m
          | none => none

/-- Where a new variable is laid and written. -/
def lateFind (P : Program) (all : Array Oper) : Option (Nat × Nat × Nat × Nat) :=
  match all.toList.findIdx? (fun o => match o.op with | .alloc _ => true | _ => false) with
  | some p => match all[p]? with
    | some ⟨some d, .alloc t, _, _, _, _⟩ => match all.toList.findIdx? (fun o => match o.op with | .store _ (.tmp k) _ => Nat.beq k d | _ => false), P.info? t with
      | some s, some i => some (p, s, d, i.size)
      | _, _ => none
    | _ => none
  | none => none
/-- A region whose order is open, run. -/
def regX (all : Array Oper) (env : Env) (m : Mem) : Option Ro := match drawX P call (fun _ _ => true) all 0 [] all.toList env m with
  | some r => some r
  | none => match lateFind P all with
    | some (p, s, d, sz) => bif lateB P all p s d sz then drawX P call (lateC all s sz) (lateA all p s d) 0 [] (lateA all p s d).toList env m else none
    | none => none

def iterX (K0 : Nat) (keep : List Nat) (body : Env → Mem → Option (List (Ex × Env × Mem))) : Nat → Env → Mem → Option (List (Ex × Env × Mem))
  | 0, _, _ => none
  | n + 1, env, m => match canon K0 keep env m with
    | none => none
    | some (env', m') => match body env' m' with
      | none => none
      | some l => allX (fun q => match q with
        | (.nrm, e, m2) => iterX K0 keep body n e m2
        | r => some [r]) l

def codeX (fuel : Nat) (K0 : Nat) (R : List Nat) : Code → (Nat → List Nat) → List Nat → Env → Mem → Option (List (Ex × Env × Mem))
  | .skip, _, _, env, m => some [(.nrm, env, m)]
  | .label _, _, _, env, m => some [(.nrm, env, m)]
  | .region _ ops true, _, _, env, m => match regX P call ops env m with
    | some (.ok e m') => some [(.nrm, e, m')]
    | _ => none
  | .region _ ops false, _, _, env, m => match runX P call ops ops.toList env m with
    | some l => some (l.map fun q => match q with
      | .ok e m' => (.nrm, e, m')
      | .pan v m' => (.pan v, wipe ops env, m'))
    | none => none
  | .seq a b, E, L, env, m => match codeX fuel K0 R a E (lv R b E L) env m with
    | some l => allX (fun q => match q with
      | (.nrm, e, m') => codeX fuel K0 R b E L e m'
      | r => some [r]) l
    | none => none
  | .cond c a b, E, L, env, m => match evO env c with
    | .bool true => codeX fuel K0 R a E L env m
    | .bool false => codeX fuel K0 R b E L env m
    | _ => none
  | .block id b, E, L, env, m => match codeX fuel K0 R b (fun i => bif Nat.beq i id then L else E i) L env m with
    | some l => some (l.map fun q => match q with
      | (.exit i, e, m') => bif Nat.beq i id then (.nrm, e, m') else (.exit i, e, m')
      | r => r)
    | none => none
  | .loop b, E, _, env, m => iterX K0 (lv R b E []) (fun e m => codeX fuel K0 R b E (lv R b E []) e m) fuel env m
  | .exit id, _, _, env, m => some [(.exit id, env, m)]
  | .ret, _, _, env, m => some [(.ret, env, m)]
  | .scope b, E, L, env, m => codeX fuel K0 R b E L env m
  | _, _, _, _, _ => none
end

/-- A deferred closure that recovers, run: what memory it leaves. -/
def dfrX (P : Program) (call : FuncId → List V → Mem → Option (List CR)) (fuel : Nat) (g : FuncId) (cs : List V) (m : Mem) (pv : Option V) : Option (List Mem) :=
  match P.funcs[g]? with
  | some gn => match gn.body with
    | some (.seq (.region _ ops false) rest) => match ops.toList with
      | [⟨some k, .call ⟨.builtin .recover, as, _⟩, _, _, _, none⟩, ⟨some j, .assign (.tmp k'), _, _, _, none⟩] =>
        bif Nat.beq k' k && (as.isEmpty && (codeOk gn.ntmps rest && (Nat.blt k gn.ntmps && (Nat.blt j gn.ntmps && (gn.results.isEmpty && Nat.ble cs.length gn.ntmps))))) then
          match codeX P call fuel m.length [] rest (fun _ => []) [] (put (put (argEnv cs) (some k) (pv.getD .nili)) (some j) (pv.getD .nili)) m with
          | some l => allX (fun q => match q with
            | (.nrm, _, m') => some [m']
            | (.ret, _, m') => some [m']
            | _ => none) l
          | none => none
        else none
      | _ => none
    | _ => none
  | none => none

/-- A function that defers a closure first, run. -/
def defX (P : Program) (call : FuncId → List V → Mem → Option (List CR)) (fuel : Nat) (fn : Func) (vs : List V) (m : Mem) : Code → Option (List CR)
  | .seq r0 (.seq (.region _ ops false) rest) => match ops.toList with
    | [⟨some k, .makeFunc (.func g) fs caps, _, _, _, none⟩, ⟨none, .defer ⟨.value (.tmp k'), as, _⟩, _, _, _, none⟩] =>
      bif Nat.beq k' k && (as.isEmpty && (fs.isEmpty && (enterable P g && (codeOk fn.ntmps r0 && (codeOk fn.ntmps rest && (Nat.blt k fn.ntmps && Nat.ble vs.length fn.ntmps)))))) then
        match codeX P call fuel m.length [] r0 (fun _ => []) [] (argEnv vs) m with
        | some l0 => allX (fun q0 => match q0 with
          | (.nrm, env, m1) => match codeX P call fuel m1.length (resT fn) rest (fun _ => []) [] (put env (some k) (.fn g [] (caps.toList.map (evO env)))) m1 with
            | some l => allX (fun q => match q with
              | (.exit _, _, _) => none
              | (.pan v, e, m2) => match dfrX P call fuel g (caps.toList.map (evO env)) m2 (some v) with
                | some ms => allX (fun m3 => (resV P fn e m3).map fun r => [.ret r m3]) ms
                | none => none
              | (_, e, m2) => match dfrX P call fuel g (caps.toList.map (evO env)) m2 none with
                | some ms => allX (fun m3 => (resV P fn e m3).map fun r => [.ret r m3]) ms
                | none => none) l
            | none => none
          | _ => none) l0
        | none => none
      else none
    | _ => none
  | _ => none

/-- Is there a deferred closure at the head? -/
def hasD : Code → Bool
  | .seq _ (.seq (.region _ ops false) _) => ops.toList.any fun o => match o.op with | .defer _ => true | _ => false
  | _ => false

/-- A call that is known: with what, in which memory, and all that may come of it. -/
structure Ent where
  f : FuncId
  vs : List V
  m : Mem
  l : List CR
def lookT : List Ent → FuncId → List V → Mem → Option (List CR)
  | [], _, _, _ => none
  | e :: r, f, vs, m => bif Nat.beq e.f f && (eqVs e.vs vs && eqM e.m m) then some e.l else lookT r f vs m

/-- A function, run; what is known is not run again. -/
def funXT (P : Program) (es : List Ent) : Nat → FuncId → List V → Mem → Option (List CR)
  | 0, _, _, _ => none
  | n + 1, f, vs, m => match lookT es f vs m with
    | some l => some l
    | none => match P.funcs[f]? with
      | none => none
      | some fn => match fn.body with
        | none => none
        | some c => bif hasD c then defX P (funXT P es n) n fn vs m c else bif codeOk fn.ntmps c && Nat.ble vs.length fn.ntmps then match codeX P (funXT P es n) n m.length (resT fn) c (fun _ => []) [] (argEnv vs) m with
            | some l => allX (fun q => match q with
              | (.nrm, e, m') => (resV P fn e m').map fun v => [.ret v m']
              | (.ret, e, m') => (resV P fn e m').map fun v => [.ret v m']
              | (.pan v, _, m') => some [.pan v m']
              | _ => none) l
            | none => none
          else none
/-- A function, run. -/
def funX (P : Program) : Nat → FuncId → List V → Mem → Option (List CR) := funXT P []

section
variable {P : Program} {call : FuncId → List V → Mem → Option (List CR)}
def Good (P : Program) (call : FuncId → List V → Mem → Option (List CR)) : Prop := ∀ f vs m l, call f vs m = some l → Snd P f vs m fun q => q ∈ l

def inCR (L : List Nat) (m : Mem) (l : List CR) : CR → Prop
  | .ret v m1 => okRes L v m1 = true ∧ CR.ret (backV L m v m1).1 (backV L m v m1).2 ∈ l
  | .pan v m1 => okRes L v m1 = true ∧ CR.pan (backV L m v m1).1 (backV L m v m1).2 ∈ l

theorem callX_sound (hc : Good P call) {f : FuncId} {vs : List V} {m : Mem} {l : List CR} (h : callX P call f vs m = some l) :
    okCall (rootsV m vs) m vs = true ∧ enterable P f = true ∧ Snd P f (rens (idx (rootsV m vs)) vs) (view (rootsV m vs) m) fun q => inCR (rootsV m vs) m l q := by
  unfold callX at h
  cases h1 : okCall (rootsV m vs) m vs && enterable P f with
  | false => simp only [h1, cond_false] at h; cases h
  | true =>
    simp only [h1, cond_true] at h
    rw [Bool.and_eq_true] at h1
    split at h
    · rename_i l0 hcall
      refine ⟨h1.1, h1.2, (hc _ _ _ _ hcall).mono fun q hq => ?_⟩
      obtain ⟨t, h2, h3⟩ := allX_spec h q (mem_once hq)
      cases q with
      | ret v m1 =>
        simp only [backX] at h2
        cases h4 : okRes (rootsV m vs) v m1 with
        | false => rw [h4] at h2; cases h2
        | true =>
          rw [h4] at h2
          cases h2
          exact ⟨h4, h3 _ (by simp)⟩
      | pan v m1 =>
        simp only [backX] at h2
        cases h4 : okRes (rootsV m vs) v m1 with
        | false => rw [h4] at h2; cases h2
        | true =>
          rw [h4] at h2
          cases h2
          exact ⟨h4, h3 _ (by simp)⟩
    · cases h

def fitR (K : Env → Mem → Prop) (Kp : V → Mem → Prop) : Ro → Prop
  | .ok e m' => K e m'
  | .pan v m' => Kp v m'

theorem runX_sound (hc : Good P call) {all : Array Oper} {K : Env → Mem → Prop} {Kp : V → Mem → Prop} : ∀ (l : List Oper) (env : Env) (m : Mem) (rs : List Ro), runX P call all l env m = some rs → (∀ r ∈ rs, fitR K Kp r) → runOps P all l env m K Kp
  | [], env, m, rs, h, hk => by
    simp only [runX] at h
    cases h
    exact hk _ (List.mem_singleton.2 rfl)
  | o :: l, env, m, rs, h, hk => by
    simp only [runX] at h
    simp only [runOps]
    cases hw : wantD all env o with
    | none => rw [hw] at h; cases h
    | some bw =>
      rw [hw] at h
      cases bw with
      | false => exact runX_sound hc l _ _ rs h hk
      | true =>
        simp only at h ⊢
        cases hp : panicV (evO env) o.op with
        | some v =>
          rw [hp] at h
          cases h
          exact hk _ (List.mem_singleton.2 rfl)
        | none =>
          rw [hp] at h
          simp only at h ⊢
          cases hcal : calleeV (evO env) o.op with
          | some q =>
            obtain ⟨f, vs⟩ := q
            rw [hcal] at h
            simp only at h ⊢
            cases hx : callX P call f vs m with
            | none => rw [hx] at h; cases h
            | some l' =>
              rw [hx] at h
              obtain ⟨k1, k2, k3⟩ := callX_sound hc hx
              refine .inl ⟨k1, k2, _, k3, ?_⟩
              intro q hq
              cases q with
              | ret v m1 =>
                refine ⟨hq.1, ?_⟩
                obtain ⟨t, h1, h2⟩ := allX_spec h _ hq.2
                exact runX_sound hc l _ _ t h1 fun r hr => hk r (h2 r hr)
              | pan v m1 =>
                refine ⟨hq.1, ?_⟩
                obtain ⟨t, h1, h2⟩ := allX_spec h _ hq.2
                cases h1
                exact hk _ (h2 _ (List.mem_singleton.2 rfl))
          | none =>
            rw [hcal] at h
            simp only at h ⊢
            cases hx : execD P (evO env) m o.op with
            | none => rw [hx] at h; cases h
            | some y =>
              rw [hx] at h
              cases y with
              | val v m' => exact runX_sound hc l _ _ rs h hk
              | skip m' => exact runX_sound hc l _ _ rs h hk
              | any outs =>
                intro p hp
                obtain ⟨t, h1, h2⟩ := allX_spec h p hp
                exact runX_sound hc l _ _ t h1 fun r hr => hk r (h2 r hr)

mutual
theorem nf_ren (τ : Nat → Nat) : ∀ v, nf (ren τ v) = nf v
  | .ptr _ _ => rfl
  | .ep _ _ _ _ => rfl
  | .sl _ _ _ _ => rfl
  | .mp _ => rfl
  | .unk => rfl
  | .ip _ => rfl
  | .isl _ _ => rfl
  | .fn _ a b => by simp only [ren, nf, nfs_rens τ a, nfs_rens τ b]
  | .ifc _ v => by simp only [ren, nf, nf_ren τ v]
  | .agg l => by simp only [ren, nf, nfs_rens τ l]
  | .tup l => by simp only [ren, nf, nfs_rens τ l]
  | .bool _ => rfl
  | .int _ _ => rfl
  | .str _ => rfl
  | .nilp => rfl
  | .nils => rfl
  | .nilm => rfl
  | .nilf => rfl
  | .nili => rfl
theorem nfs_rens (τ : Nat → Nat) : ∀ l, nfs (rens τ l) = nfs l
  | [] => rfl
  | v :: r => by simp only [rens, nfs, nf_ren τ v, nfs_rens τ r]
end
theorem stepX_sound (hc : Good P call) {o : Oper} {env : Env} {m m' : Mem} {v : V} (h : stepX P call o env m = some (v, m')) : StepV P o env m v m' := by
  unfold stepX at h
  unfold StepV
  cases hcal : calleeV (evO env) o.op with
  | some q =>
    obtain ⟨f, vs⟩ := q
    rw [hcal] at h
    simp only at h ⊢
    cases hok : okCall (rootsV m vs) m vs && enterable P f with
    | false => rw [hok] at h; cases h
    | true =>
      rw [hok] at h
      rw [Bool.and_eq_true] at hok
      simp only [cond_true] at h
      split at h
      · rename_i l hcall
        split at h
        · rename_i v1 m1 hone
          cases k3 : okRes (rootsV m vs) v1 m1 with
          | false => rw [k3] at h; cases h
          | true =>
            rw [k3] at h
            simp only [cond_true, Option.some.injEq] at h
            have k5 : Snd P f (rens (idx (rootsV m vs)) vs) (view (rootsV m vs) m) (fun q => q = .ret v1 m1) := (hc _ _ _ _ hcall).mono fun q hq => by
              have := mem_once hq
              rw [hone] at this
              exact List.mem_singleton.1 this
            refine ⟨hok.1, hok.2, ?_⟩
            cases he : (rootsV m vs).isEmpty && nf v1 with
            | true =>
              have e1 : backV (rootsV m vs) m v1 m1 = (v1, m) := by unfold backV; rw [he]; rfl
              rw [e1] at h
              cases h
              rw [Bool.and_eq_true] at he
              exact .inl ⟨he.1, he.2, rfl, k5.mono fun q hq => ⟨m1, hq⟩⟩
            | false =>
              have e1 : backV (rootsV m vs) m v1 m1 = (ren (back (rootsV m vs) m.length) v1, merge (rootsV m vs) m m1) := by unfold backV; rw [he]; rfl
              rw [e1] at h
              cases h
              have hok : okBack (rootsV m vs) v1 m1 = true := by
                unfold okRes at k3
                rw [he, Bool.false_or] at k3
                exact k3
              exact .inr ⟨v1, m1, k5, hok, by rw [nf_ren]; exact he, rfl, rfl⟩
        · cases h
      · cases h
  | none =>
    rw [hcal] at h
    simp only at h ⊢
    cases hx : execD P (evO env) m o.op with
    | none => rw [hx] at h; cases h
    | some y =>
      rw [hx] at h
      cases y with
      | val v m' => cases h; exact ⟨rfl, rfl⟩
      | skip m' => cases h; exact ⟨rfl, rfl⟩
      | any _ => cases h

theorem stepQ_sound (hc : Good P call) {o : Oper} {env : Env} {m m' : Mem} {v : V} {inf : Info} (h : stepQ P call o env m = some (v, m', inf)) : StepI P o env m v m' inf := by
  unfold stepQ at h
  cases hcal : calleeV (evO env) o.op with
  | some q =>
    obtain ⟨f, vs⟩ := q
    rw [hcal] at h
    simp only at h
    cases hok : okCall (rootsV m vs) m vs && enterable P f with
    | false => rw [hok] at h; cases h
    | true =>
      rw [hok] at h
      have hok2 := hok
      rw [Bool.and_eq_true] at hok
      simp only [cond_true] at h
      cases hcall : call f (rens (idx (rootsV m vs)) vs) (view (rootsV m vs) m) with
      | none => rw [hcall] at h; cases h
      | some l =>
        rw [hcall] at h
        simp only at h
        split at h
        · rename_i v1 m1 hone
          cases hq : bareT v1 && (eqM (m1.take (view (rootsV m vs) m).length) (view (rootsV m vs) m) && ((view (rootsV m vs) m).all (inDB fun _ => true) && closedB (List.range (view (rootsV m vs) m).length) (view (rootsV m vs) m))) with
          | true =>
            rw [hq] at h
            simp only [cond_true, Option.some.injEq, Prod.mk.injEq] at h
            obtain ⟨rfl, rfl, rfl⟩ := h
            simp only [Bool.and_eq_true] at hq
            obtain ⟨b1, b2, b3, b4⟩ := hq
            refine .inr (.inl ⟨f, vs, rootsV m vs, hcal, hok.2, rfl, rfl, quiet_of hok.1 b3 b4 b1 ((hc _ _ _ _ hcall).mono fun q hq => ?_)⟩)
            have := mem_once hq
            rw [hone] at this
            have := List.mem_singleton.1 this
            subst this
            refine ⟨m1.drop (view (rootsV m vs) m).length, ?_⟩
            have e := eqM_eq b2
            conv => lhs; rw [← List.take_append_drop (view (rootsV m vs) m).length m1]
            rw [e]
          | false =>
            rw [hq] at h
            simp only [cond_false] at h
            cases k3 : okRes (rootsV m vs) v1 m1 with
            | false => rw [k3] at h; cases h
            | true =>
              rw [k3] at h
              simp only [cond_true] at h
              split at h
              · rename_i inf' hinf
                simp only [Option.some.injEq, Prod.mk.injEq] at h
                obtain ⟨rfl, rfl, rfl⟩ := h
                refine .inl ⟨stepX_sound hc ?_, hinf⟩
                unfold stepX
                simp only [hcal, hok2, cond_true, hcall, hone, k3]
              · cases h
        · cases h
  | none =>
    rw [hcal] at h
    simp only at h
    split at h
    · rename_i v1 m1 hs
      split at h
      · rename_i inf' hinf
        simp only [Option.some.injEq, Prod.mk.injEq] at h
        obtain ⟨rfl, rfl, rfl⟩ := h
        exact .inl ⟨stepX_sound hc hs, hinf⟩
      · cases h
    · cases h

theorem litX_C {o : Oper} {env : Env} {m : Mem} {u : V} (h : litX P o env = some u) : LitC P o env m u m ⟨[], [], false⟩ := by
  unfold litX at h
  split at h
  · rename_i t n ps hop
    cases hn : nfs (ps.toList.map fun p => evO env p.2) with
    | false => rw [hn] at h; cases h
    | true =>
      rw [hn] at h
      simp only [cond_true] at h
      split at h
      · rename_i sz n' e sz' es hb
        cases hc : Nat.beq n' n && (Nat.beq sz' sz && (Nat.beq es.length n && nfss es)) with
        | false => rw [hc] at h; cases h
        | true =>
          rw [hc] at h
          simp only [cond_true, Option.some.injEq] at h
          subst h
          simp only [Bool.and_eq_true, Nat.beq_eq] at hc
          obtain ⟨rfl, rfl, h3, h4⟩ := hc
          exact ⟨t, n', ps, e, sz', es, hop, hn, hb, h3, h4, rfl, rfl, rfl⟩
      · cases h
  · cases h

theorem drawX_sound (hc : Good P call) {chk : Nat → Env → Bool} {all : Array Oper} {K : Env → Mem → Prop} : ∀ (l : List Oper) (k : Nat) (acc acc' : List (Nat × Info × Nat)) (env : Env) (m : Mem) (e' : Env) (m' : Mem), (∀ x ∈ acc', x ∈ acc ∨ isPure x.2.1 = true) → drawX P call chk all k acc l env m = some (.ok e' m') → K e' m' → runDrawnX P all (fun i e => chk i e = true) K k acc' l env m
  | [], k, acc, acc', env, m, e', m', ha, h, hk => by
    simp only [drawX] at h
    cases h
    exact hk
  | o :: l, k, acc, acc', env, m, e', m', ha, h, hk => by
    simp only [drawX] at h
    simp only [runDrawnX]
    cases hck : chk k env with
    | false => rw [hck] at h; cases h
    | true =>
    rw [hck] at h
    simp only [Bool.not_true, cond_false] at h
    refine ⟨rfl, ?_⟩
    cases hw : wantD all env o with
    | none => rw [hw] at h; cases h
    | some bw =>
      rw [hw] at h
      cases bw with
      | false => exact drawX_sound hc l _ _ _ _ _ _ _ ha h hk
      | true =>
        simp only at h ⊢
        cases hp : panicV (evO env) o.op with
        | some v => rw [hp] at h; cases h
        | none =>
          rw [hp] at h
          simp only at h
          cases hs : stepQ P call o env m with
          | none => rw [hs] at h; cases h
          | some y =>
            obtain ⟨v, m1, inf⟩ := y
            rw [hs] at h
            simp only at h
            have hst := stepQ_sound hc hs
            · cases hpu : isPure inf with
              | true =>
                rw [hpu] at h
                simp only [cond_true] at h
                have h1 : inf = ⟨[], [], false⟩ := by
                  obtain ⟨rd, wr, al⟩ := inf
                  simp only [isPure, Bool.and_eq_true, List.isEmpty_iff, Bool.not_eq_true'] at hpu
                  obtain ⟨rfl, rfl, rfl⟩ := hpu
                  rfl
                subst h1
                refine ⟨v, m1, _, hst, ⟨hp, trivial, by simp, ?_⟩, drawX_sound hc l _ acc _ _ _ _ _ (fun x hx => ?_) h hk⟩
                · rw [List.all_eq_true]
                  intro x _
                  simp [indep, disj]
                · rcases List.mem_cons.1 hx with rfl | hx
                  · exact .inr rfl
                  · exact ha x hx
              | false =>
                rw [hpu] at h
                simp only [cond_false] at h
                cases hb : (inf.rd ++ inf.wr).all (fun n => Nat.blt n m.length) && acc.all (fun x => indep x.2.1 x.2.2 inf || waits all o x.1) with
                | false =>
                  rw [hb] at h
                  simp only [cond_false] at h
                  cases hlit : litX P o env with
                  | none => rw [hlit] at h; cases h
                  | some u =>
                    rw [hlit] at h
                    refine ⟨u, m, _, .inr (.inr (litX_C hlit)), ⟨hp, trivial, by simp, ?_⟩, drawX_sound hc l _ acc _ _ _ _ _ (fun x hx => ?_) h hk⟩
                    · rw [List.all_eq_true]
                      intro x _
                      simp [indep, disj]
                    · rcases List.mem_cons.1 hx with rfl | hx
                      · exact .inr rfl
                      · exact ha x hx
                | true =>
                  rw [hb] at h
                  simp only [cond_true] at h
                  rw [Bool.and_eq_true] at hb
                  refine ⟨v, m1, inf, hst, ⟨hp, trivial, hb.1, ?_⟩, drawX_sound hc l _ _ _ _ _ _ _ (fun x hx => ?_) h hk⟩
                  · have h2 := hb.2
                    rw [List.all_eq_true] at h2 ⊢
                    intro x hx
                    rcases ha x hx with h3 | h3
                    · rw [Bool.or_comm]; exact h2 x h3
                    · simp [indep_pure h3]
                  · rcases List.mem_cons.1 hx with rfl | hx
                    · exact .inl (by simp)
                    · rcases ha x hx with h3 | h3
                      · exact .inl (by simp [h3])
                      · exact .inr h3

theorem regX_sound (hc : Good P call) {K0 : Nat} {R : List Nat} {all : Array Oper} {id : Nat} {E : Nat → List Nat} {L : List Nat} {env : Env} {m : Mem} {e' : Env} {m' : Mem} {Q : Ex → Env → Mem → Prop} (h : regX P call all env m = some (.ok e' m')) (hq : Q .nrm e' m') : W P K0 R (.region id all true) E L env m Q := by
  unfold regX at h
  split at h
  · rename_i r hd
    cases h
    exact .inl (runDrawn_of_X _ _ _ _ _ (drawX_sound hc _ _ [] [] _ _ _ _ (by simp) hd hq))
  · split at h
    · rename_i p s d sz _
      cases hl : lateB P all p s d sz with
      | false => rw [hl] at h; cases h
      | true =>
        rw [hl] at h
        exact .inr (.inr (.inl ⟨p, s, d, sz, hl, runDrawnX_X (lateC_X hl) _ _ _ _ _ (drawX_sound hc _ _ [] [] _ _ _ _ (by simp) h hq)⟩))
    · cases h

theorem iterX_sound {K0 : Nat} {keep : List Nat} {body : Env → Mem → Option (List (Ex × Env × Mem))} {bodyW : Env → Mem → (Ex → Env → Mem → Prop) → Prop} {Q : Ex → Env → Mem → Prop}
    (hb : ∀ env m l (Q : Ex → Env → Mem → Prop), body env m = some l → (∀ r ∈ l, Q r.1 r.2.1 r.2.2) → bodyW env m Q) : ∀ (n : Nat) (env : Env) (m : Mem) (l : List (Ex × Env × Mem)), iterX K0 keep body n env m = some l → (∀ r ∈ l, Q r.1 r.2.1 r.2.2) → iterW K0 keep bodyW n env m Q
  | 0, env, m, r, h, hq => by simp [iterX] at h
  | n + 1, env, m, l, h, hq => by
    simp only [iterX] at h
    split at h
    · cases h
    · rename_i env' m' hcan
      split at h
      · cases h
      · rename_i l' hbody
        refine ⟨env', m', .inl hcan, hb _ _ _ _ hbody fun r hr => ?_⟩
        obtain ⟨t, h1, h2⟩ := allX_spec h r hr
        obtain ⟨ex, e, m2⟩ := r
        cases ex with
        | nrm => exact iterX_sound hb n e m2 t h1 fun r hr => hq r (h2 r hr)
        | _ => cases h1; exact hq _ (h2 _ (List.mem_singleton.2 rfl))

theorem codeX_sound (hc : Good P call) {fuel K0 : Nat} {R : List Nat} : ∀ (c : Code) (E : Nat → List Nat) (L : List Nat) (env : Env) (m : Mem) (l : List (Ex × Env × Mem)) (Q : Ex → Env → Mem → Prop), codeX P call fuel K0 R c E L env m = some l → (∀ r ∈ l, Q r.1 r.2.1 r.2.2) → W P K0 R c E L env m Q
  | .skip, E, L, env, m, r, Q, h, hq => by simp only [codeX] at h; cases h; exact hq _ (List.mem_singleton.2 rfl)
  | .label _, E, L, env, m, r, Q, h, hq => by simp only [codeX] at h; cases h; exact hq _ (List.mem_singleton.2 rfl)
  | .exit _, E, L, env, m, r, Q, h, hq => by simp only [codeX] at h; cases h; exact hq _ (List.mem_singleton.2 rfl)
  | .ret, E, L, env, m, r, Q, h, hq => by simp only [codeX] at h; cases h; exact hq _ (List.mem_singleton.2 rfl)
  | .region _ ops true, E, L, env, m, r, Q, h, hq => by
    simp only [codeX] at h
    split at h
    · rename_i e m' hd
      cases h
      exact regX_sound hc hd (hq _ (List.mem_singleton.2 rfl))
    · cases h
  | .region _ ops false, E, L, env, m, r, Q, h, hq => by
    simp only [codeX] at h
    simp only [W]
    split at h
    · rename_i l hd
      cases h
      refine runX_sound hc _ _ _ _ hd fun r hr => ?_
      have := hq _ (List.mem_map_of_mem hr)
      cases r with
      | ok e m' => exact this
      | pan v m' => exact this
    · cases h
  | .seq a b, E, L, env, m, r, Q, h, hq => by
    simp only [codeX] at h
    simp only [W]
    split at h
    · rename_i l ha
      refine codeX_sound hc a E _ env m l _ ha fun q hx => ?_
      obtain ⟨t, h1, h2⟩ := allX_spec h q hx
      obtain ⟨ex, e, m2⟩ := q
      cases ex with
      | nrm => exact codeX_sound hc b E L e m2 t Q h1 fun r hr => hq r (h2 r hr)
      | _ => cases h1; exact hq _ (h2 _ (List.mem_singleton.2 rfl))
    · cases h
  | .cond c a b, E, L, env, m, r, Q, h, hq => by
    simp only [codeX] at h
    simp only [W]
    split at h
    · rename_i hv
      rw [hv]
      exact ⟨fun _ => codeX_sound hc a E L env m r Q h hq, fun e => (by cases e)⟩
    · rename_i hv
      rw [hv]
      exact ⟨fun e => (by cases e), fun _ => codeX_sound hc b E L env m r Q h hq⟩
    · cases h
  | .block id b, E, L, env, m, r, Q, h, hq => by
    simp only [codeX] at h
    simp only [W]
    split at h
    · rename_i l hb
      cases h
      refine codeX_sound hc b _ L env m _ _ hb fun q hx => ?_
      have := hq _ (List.mem_map_of_mem hx)
      obtain ⟨ex, e, m2⟩ := q
      cases ex with
      | exit i =>
        simp only at this ⊢
        cases hi : Nat.beq i id with
        | true => rw [hi] at this; exact this
        | false => rw [hi] at this; exact this
      | _ => exact this
    · cases h
  | .loop b, E, L, env, m, r, Q, h, hq => by
    simp only [codeX] at h
    simp only [W]
    exact ⟨fuel, iterX_sound (fun e m r Q h hq => codeX_sound hc b E _ e m r Q h hq) fuel env m r h hq⟩
  | .scope b, E, L, env, m, r, Q, h, hq => by
    simp only [codeX] at h
    simp only [W]
    exact codeX_sound hc b E L env m r Q h hq
  | .rangeFunc _ _ _ _, _, _, _, _, _, _, h, _ => by simp [codeX] at h
  | .goto _, _, _, _, _, _, _, h, _ => by simp [codeX] at h
  | .refuse _, _, _, _, _, _, _, h, _ => by simp [codeX] at h

theorem dfrX_sound (hfol : P.follows .mixedOrders = true) (hc : Good P call) {fuel : Nat} {g : FuncId} {cs : List V} {m : Mem} {pv : Option V} {ms : List Mem} (h : dfrX P call fuel g cs m pv = some ms) : SndD P g cs m pv fun m' => m' ∈ ms := by
  unfold dfrX at h
  split at h
  · rename_i gn hg
    split at h
    · rename_i id ops rest hb
      split at h
      · rename_i k as ts t1 p1 a1 j k' t2 p2 a2 hops
        have hops' : ops = #[⟨some k, .call ⟨.builtin .recover, as, ts⟩, t1, p1, a1, none⟩, ⟨some j, .assign (.tmp k'), t2, p2, a2, none⟩] := Array.toList_inj.1 (by simpa using hops)
        subst hops'
        cases hok : Nat.beq k' k && (as.isEmpty && (codeOk gn.ntmps rest && (Nat.blt k gn.ntmps && (Nat.blt j gn.ntmps && (gn.results.isEmpty && Nat.ble cs.length gn.ntmps))))) with
        | false => rw [hok] at h; cases h
        | true =>
          rw [hok] at h
          simp only [cond_true] at h
          simp only [Bool.and_eq_true] at hok
          obtain ⟨e1, e2, e3, e4, e5, e6, e7⟩ := hok
          obtain rfl := Nat.eq_of_beq_eq_true e1
          have has : as = #[] := by simpa using e2
          have hres : gn.results = #[] := by simpa using e6
          split at h
          · rename_i l hx
            refine SndD_of_W hfol hg hb e3 e4 e5 hres e7 has (codeX_sound hc rest _ _ _ _ _ _ hx fun q hq => ?_)
            obtain ⟨t, h1, h2⟩ := allX_spec h q hq
            obtain ⟨ex, e, m'⟩ := q
            cases ex with
            | nrm => cases h1; exact h2 _ (List.mem_singleton.2 rfl)
            | ret => cases h1; exact h2 _ (List.mem_singleton.2 rfl)
            | _ => cases h1
          · cases h
      · cases h
    · cases h
  · cases h

theorem defX_sound (hfol : P.follows .mixedOrders = true) (hc : Good P call) {fuel : Nat} {f : FuncId} {fn : Func} {vs : List V} {m : Mem} {c : Code} {rs : List CR} (hf : P.funcs[f]? = some fn) (hb : fn.body = some c) (h : defX P call fuel fn vs m c = some rs) : Snd P f vs m fun q => q ∈ rs := by
  unfold defX at h
  split at h
  · rename_i r0 id ops rest
    split at h
    · rename_i k g fs caps t1 p1 a1 k' as ts t2 p2 a2 hops
      have hops' : ops = #[⟨some k, .makeFunc (.func g) fs caps, t1, p1, a1, none⟩, ⟨none, .defer ⟨.value (.tmp k'), as, ts⟩, t2, p2, a2, none⟩] := Array.toList_inj.1 (by simpa using hops)
      subst hops'
      cases hok : Nat.beq k' k && (as.isEmpty && (fs.isEmpty && (enterable P g && (codeOk fn.ntmps r0 && (codeOk fn.ntmps rest && (Nat.blt k fn.ntmps && Nat.ble vs.length fn.ntmps)))))) with
      | false => rw [hok] at h; cases h
      | true =>
        rw [hok] at h
        simp only [cond_true] at h
        simp only [Bool.and_eq_true] at hok
        obtain ⟨e1, e2, e3, e4, e5, e6, e7, e8⟩ := hok
        obtain rfl := Nat.eq_of_beq_eq_true e1
        have has : as = #[] := by simpa using e2
        have hfs : fs = #[] := by simpa using e3
        subst has hfs
        have hcaps : caps = caps.toList.toArray := by simp
        unfold enterable at e4
        split at e4
        · rename_i gn hg
          simp only [Bool.and_eq_true, Bool.not_eq_true'] at e4
          split at h
          · rename_i l0 hx0
            refine Snd_of_WD (caps := caps.toList) hfol hf hb hg e4.1 e4.2 e5 e6 e7 e8 (codeX_sound hc r0 _ _ _ _ _ _ hx0 fun q0 hq0 => ?_)
            obtain ⟨t0, h1, h2⟩ := allX_spec h q0 hq0
            obtain ⟨ex0, env, m1⟩ := q0
            cases ex0 with
            | nrm =>
              simp only at h1 ⊢
              split at h1
              · rename_i l hx
                refine codeX_sound hc rest _ _ _ _ _ _ hx fun q hq => ?_
                obtain ⟨t, h3, h4⟩ := allX_spec h1 q hq
                have fin : ∀ (pv : Option V) (e : Env) (m2 : Mem), (match dfrX P call fuel g (caps.toList.map (evO env)) m2 pv with
                    | some ms => allX (fun m3 => (resV P fn e m3).map fun r => [CR.ret r m3]) ms
                    | none => none) = some t → ∃ Qm, SndD P g (caps.toList.map (evO env)) m2 pv Qm ∧ ∀ m', Qm m' → ∃ r, resV P fn e m' = some r ∧ CR.ret r m' ∈ rs := by
                  intro pv e m2 h5
                  split at h5
                  · rename_i ms hms
                    refine ⟨_, dfrX_sound hfol hc hms, fun m' hm' => ?_⟩
                    obtain ⟨s, h6, h7⟩ := allX_spec h5 m' hm'
                    rw [Option.map_eq_some_iff] at h6
                    obtain ⟨r, h8, rfl⟩ := h6
                    exact ⟨r, h8, h2 _ (h4 _ (h7 _ (List.mem_singleton.2 rfl)))⟩
                  · cases h5
                obtain ⟨ex, e, m2⟩ := q
                cases ex with
                | nrm => exact fin none e m2 h3
                | ret => exact fin none e m2 h3
                | exit i => cases h3
                | pan v => exact fin (some v) e m2 h3
              · cases h1
            | _ => cases h1
          · cases h
        · cases e4
    · cases h
  · cases h

def AllOk (P : Program) : List Ent → Prop
  | [] => True
  | e :: r => (Snd P e.f e.vs e.m fun q => q ∈ e.l) ∧ AllOk P r
theorem lookT_good {es : List Ent} (h : AllOk P es) : Good P (lookT es) := by
  induction es with
  | nil => intro f vs m l hl; cases hl
  | cons e r ih =>
    intro f vs m l hl
    simp only [lookT] at hl
    cases hc : Nat.beq e.f f && (eqVs e.vs vs && eqM e.m m) with
    | true =>
      rw [hc] at hl
      simp only [cond_true, Option.some.injEq] at hl
      subst hl
      simp only [Bool.and_eq_true] at hc
      rw [← Nat.eq_of_beq_eq_true hc.1, ← eqVs_eq hc.2.1, ← eqM_eq hc.2.2]
      exact h.1
    | false =>
      rw [hc] at hl
      exact ih h.2 f vs m l hl

theorem funXT_good (hfol : P.follows .mixedOrders = true) {es : List Ent} (hes : AllOk P es) : ∀ n, Good P (funXT P es n)
  | 0 => fun f vs m r h => by simp [funXT] at h
  | n + 1 => fun f vs m r h => by
    simp only [funXT] at h
    split at h
    · rename_i l hl
      cases h
      exact lookT_good hes f vs m _ hl
    · split at h
      · cases h
      · rename_i fn hf
        split at h
        · cases h
        · rename_i c hb
          cases hD : hasD c with
          | true =>
            rw [hD] at h
            exact defX_sound hfol (funXT_good hfol hes n) hf hb h
          | false =>
            rw [hD] at h
            simp only [cond_false] at h
            cases hok : codeOk fn.ntmps c && Nat.ble vs.length fn.ntmps with
            | false => rw [hok] at h; cases h
            | true =>
              rw [hok] at h
              simp only [cond_true] at h
              rw [Bool.and_eq_true] at hok
              split at h
              · rename_i l hx
                refine Snd_of_W hfol hf hb hok.1 hok.2 (codeX_sound (funXT_good hfol hes n) c _ _ _ _ _ _ hx fun q hq => ?_)
                obtain ⟨t, h1, h2⟩ := allX_spec h q hq
                obtain ⟨ex, e, m'⟩ := q
                cases ex with
                | nrm =>
                  rw [Option.map_eq_some_iff] at h1
                  obtain ⟨v, hv, rfl⟩ := h1
                  exact ⟨v, hv, h2 _ (List.mem_singleton.2 rfl)⟩
                | ret =>
                  rw [Option.map_eq_some_iff] at h1
                  obtain ⟨v, hv, rfl⟩ := h1
                  exact ⟨v, hv, h2 _ (List.mem_singleton.2 rfl)⟩
                | pan v =>
                  cases h1
                  exact h2 _ (List.mem_singleton.2 rfl)
                | _ => cases h1
              · cases h
theorem funX_good (hfol : P.follows .mixedOrders = true) (n : Nat) : Good P (funX P n) := funXT_good hfol (es := []) trivial n

/-- All that a run tells is in a list. -/
def insL (o : Option (List CR)) (l : List CR) : Bool := match o with
  | some r => r.all fun q => l.any (eqCR q)
  | none => false
/-- What a run comes to is known from then on. -/
theorem ent_run (hfol : P.follows .mixedOrders = true) {es : List Ent} (hes : AllOk P es) (n : Nat) (e : Ent) (h : insL (funXT P es n e.f e.vs e.m) e.l = true) : Snd P e.f e.vs e.m fun q => q ∈ e.l := by
  unfold insL at h
  split at h
  · rename_i r hx
    refine (funXT_good hfol hes n _ _ _ _ hx).mono fun q hq => ?_
    obtain ⟨c, h1, h2⟩ := List.any_eq_true.1 (List.all_eq_true.1 h q hq)
    rw [eqCR_eq h2]; exact h1
  · cases h

/-- The one value that comes back, whatever comes. -/
def valX : Option (List CR) → Option V
  | some (.ret v _ :: r) => bif r.all (fun q => match q with | .ret u _ => eqV0 u v | .pan _ _ => false) then some v else none
  | _ => none
/-- A call that is closed, run. -/
theorem ans_runT (hfol : P.follows .mixedOrders = true) {es : List Ent} (hes : AllOk P es) (n : Nat) {f : FuncId} {vs : List V} {v : V} (h : valX (funXT P es n f vs []) = some v) : Ans P f vs v := by
  unfold valX at h
  split at h
  · rename_i u m1 r hx
    cases hr : r.all (fun q => match q with | .ret w _ => eqV0 w u | .pan _ _ => false) with
    | false => rw [hr] at h; cases h
    | true =>
      rw [hr] at h
      cases h
      refine (funXT_good hfol hes n f vs [] _ hx).mono fun q hq => ?_
      rcases List.mem_cons.1 hq with rfl | hq
      · exact ⟨m1, rfl⟩
      · have := List.all_eq_true.1 hr q hq
        cases q with
        | ret w m' => exact ⟨m', by rw [eqV0_eq this]⟩
        | pan _ _ => cases this
  · cases h
/-- A call that is closed, run. -/
theorem ans_run (hfol : P.follows .mixedOrders = true) (n : Nat) {f : FuncId} {vs : List V} {v : V} (h : valX (funX P n f vs []) = some v) : Ans P f vs v := by
  unfold valX at h
  split at h
  · rename_i u m1 r hx
    cases hr : r.all (fun q => match q with | .ret w _ => eqV0 w u | .pan _ _ => false) with
    | false => rw [hr] at h; cases h
    | true =>
      rw [hr] at h
      cases h
      refine (funX_good hfol n f vs [] _ hx).mono fun q hq => ?_
      rcases List.mem_cons.1 hq with rfl | hq
      · exact ⟨m1, rfl⟩
      · have := List.all_eq_true.1 hr q hq
        cases q with
        | ret w m' => exact ⟨m', by rw [eqV0_eq this]⟩
        | pan _ _ => cases this
  · cases h
end
end Go.Proofs.Ytjjenpdjmcmgbaa.Ab

namespace Go.Proofs.Ytjjenpdjmcmgbaa.Ab
open Go
set_option linter.unusedSimpArgs false
set_option linter.unusedVariables false

/-- Each slot is set once, and looked at behind that alone, or (those of T) ahead of it alone. -/
def freshT (all : Array Oper) (T : List Nat) : Bool := (List.range all.size).all fun i => match all[i]? with
  | some o => (List.range all.size).all fun j => match all[j]? with
    | some oj => match oj.dst with
      | some t => (!(o.looksAt all).contains t || (bif T.contains t then (aheadO oj).contains i else (aheadO o).contains j)) && (Nat.beq i j || o.dst != some t)
      | none => true
    | none => true
  | none => true
def evT (T : List Nat) (E0 E : Env) : Env := fun t => bif T.contains t then E0 t else E t
/-- Each call comes behind the one ahead of it. -/
def seqB (all : Array Oper) (C : List Nat) : Bool := (List.range C.length).all fun p => match C[p]? with
  | some i => Nat.beq p 0 || (match all[i]?, C[p - 1]? with
    | some o, some j => (aheadO o).contains j
    | _, _ => false)
  | none => true
def putAll (env : Env) : List Oper → List V → Env
  | o :: r, v :: vs => putAll (put env o.dst v) r vs
  | _, _ => env
/-- What a turning operation comes to. -/
def NS (P : Program) (E : Env) (m : Mem) (op : Op) (K Kp : V → Mem → Prop) : Prop := match calleeV (evO E) op with
  | some (f, as) => callD P f as m K Kp
  | none => match execD P (evO E) m op with
    | some (.val u m') => K u m'
    | some (.skip m') => K (.tup []) m'
    | _ => False
/-- An operation that comes ahead of the turning one of this rank. -/
def tillB (all : Array Oper) (C : List Nat) (i p : Nat) : Bool := match C[p]? with
  | some c => match all[c]? with
    | some o => (aheadO o).contains i
    | none => false
  | none => Nat.ble C.length p
/-- What each operation comes to, in the state behind all of them. -/
def okN (P : Program) (all : Array Oper) (E : Env) (J : Nat → Mem → Prop) (Jp : V → Mem → Prop) (C : List Nat) : Nat → Nat → List Oper → List V → Prop
  | _, k, [], vs => vs = [] ∧ k = C.length
  | i, k, o :: r, v :: vs =>
    ((wantD all E o = some false ∧ v = .tup [] ∧ i ∉ C ∧ okN P all E J Jp C (i + 1) k r vs) ∨
     (wantD all E o = some true ∧ calleeV (evO E) o.op = none ∧ i ∉ C ∧ (∃ p, tillB all C i p = true ∧ ∀ k m, k ≤ p → J k m → execD P (evO E) m o.op = some (.val v m)) ∧ okN P all E J Jp C (i + 1) k r vs) ∨
     (wantD all E o = some true ∧ C[k]? = some i ∧ (∀ p, C[p]? = some i → p = k) ∧ (∀ m, J k m → NS P E m o.op (fun u m' => u = v ∧ J (k + 1) m') Jp) ∧ okN P all E J Jp C (i + 1) (k + 1) r vs))
  | _, _, _ :: _, [] => False

section
variable {P : Program} {all : Array Oper} {E : Env} {J : Nat → Mem → Prop} {Jp : V → Mem → Prop} {C : List Nat}

theorem okN_nil {i : Nat} : okN P all E J Jp C i C.length [] [] := ⟨rfl, rfl⟩
theorem okN_pure {i k : Nat} {o : Oper} {r : List Oper} {v : V} {vs : List V} (hw : wantD all E o = some true) (hc : calleeV (evO E) o.op = none) (hi : C.contains i = false) (hx : ∀ k m, J k m → execD P (evO E) m o.op = some (.val v m)) (h : okN P all E J Jp C (i + 1) k r vs) : okN P all E J Jp C i k (o :: r) (v :: vs) :=
  .inr (.inl ⟨hw, hc, (fun hh => Bool.noConfusion (hi.symm.trans (List.contains_iff_mem.2 hh))), ⟨C.length, by unfold tillB; rw [List.getElem?_eq_none (Nat.le_refl _)]; simp, fun k m _ => hx k m⟩, h⟩)
/-- An operation that only looks, ahead of the turning one of rank p. -/
theorem okN_early {i k : Nat} {o : Oper} {r : List Oper} {v : V} {vs : List V} (p : Nat) (hw : wantD all E o = some true) (hc : calleeV (evO E) o.op = none) (hi : C.contains i = false) (ht : tillB all C i p = true) (hx : ∀ k m, k ≤ p → J k m → execD P (evO E) m o.op = some (.val v m)) (h : okN P all E J Jp C (i + 1) k r vs) : okN P all E J Jp C i k (o :: r) (v :: vs) :=
  .inr (.inl ⟨hw, hc, (fun hh => Bool.noConfusion (hi.symm.trans (List.contains_iff_mem.2 hh))), ⟨p, ht, hx⟩, h⟩)
theorem okN_turn {i k : Nat} {o : Oper} {r : List Oper} {v : V} {vs : List V} (hw : wantD all E o = some true) (hi : C[k]? = some i) (hu : nodupB C = true) (hx : ∀ m, J k m → NS P E m o.op (fun u m' => u = v ∧ J (k + 1) m') Jp) (h : okN P all E J Jp C (i + 1) (k + 1) r vs) : okN P all E J Jp C i k (o :: r) (v :: vs) :=
  .inr (.inr ⟨hw, hi, fun p hp => by
    have hn := nodupB_iff _ hu
    exact (List.getElem?_inj (List.getElem?_eq_some_iff.1 hp).1 hn).1 (by rw [hp, hi]), hx, h⟩)
theorem okN_call {i k : Nat} {o : Oper} {r : List Oper} {v : V} {vs : List V} {f : FuncId} {args : List V} (hw : wantD all E o = some true) (hc : calleeV (evO E) o.op = some (f, args)) (hi : C[k]? = some i) (hu : nodupB C = true) (hx : ∀ m, J k m → callD P f args m (fun u m' => u = v ∧ J (k + 1) m') Jp) (h : okN P all E J Jp C (i + 1) (k + 1) r vs) : okN P all E J Jp C i k (o :: r) (v :: vs) :=
  okN_turn hw hi hu (fun m hm => by unfold NS; rw [hc]; exact hx m hm) h
theorem okN_val {i k : Nat} {o : Oper} {r : List Oper} {v : V} {vs : List V} (hw : wantD all E o = some true) (hc : calleeV (evO E) o.op = none) (hi : C[k]? = some i) (hu : nodupB C = true) (hx : ∀ m, J k m → ∃ m', execD P (evO E) m o.op = some (.val v m') ∧ J (k + 1) m') (h : okN P all E J Jp C (i + 1) (k + 1) r vs) : okN P all E J Jp C i k (o :: r) (v :: vs) :=
  okN_turn hw hi hu (fun m hm => by
    obtain ⟨m', h1, h2⟩ := hx m hm
    unfold NS
    rw [hc]
    simp only [h1]
    exact ⟨by trivial, h2⟩) h
theorem okN_skip {i k : Nat} {o : Oper} {r : List Oper} {vs : List V} (hw : wantD all E o = some true) (hc : calleeV (evO E) o.op = none) (hi : C[k]? = some i) (hu : nodupB C = true) (hx : ∀ m, J k m → ∃ m', execD P (evO E) m o.op = some (.skip m') ∧ J (k + 1) m') (h : okN P all E J Jp C (i + 1) (k + 1) r vs) : okN P all E J Jp C i k (o :: r) (.tup [] :: vs) :=
  okN_turn hw hi hu (fun m hm => by
    obtain ⟨m', h1, h2⟩ := hx m hm
    unfold NS
    rw [hc]
    simp only [h1]
    exact ⟨by trivial, h2⟩) h

theorem okN_at {i0 k0 : Nat} : ∀ {l : List Oper} {vs : List V} {i k : Nat}, okN P all E J Jp C i k l vs → ∀ (j : Nat) o, l[j]? = some o → ∃ v, vs[j]? = some v ∧
    ((wantD all E o = some false ∧ v = .tup [] ∧ (i + j) ∉ C) ∨
     (wantD all E o = some true ∧ calleeV (evO E) o.op = none ∧ (i + j) ∉ C ∧ ∃ p, tillB all C (i + j) p = true ∧ ∀ k m, k ≤ p → J k m → execD P (evO E) m o.op = some (.val v m)) ∨
     (wantD all E o = some true ∧ ∃ p, C[p]? = some (i + j) ∧ (∀ q, C[q]? = some (i + j) → q = p) ∧ ∀ m, J p m → NS P E m o.op (fun u m' => u = v ∧ J (p + 1) m') Jp))
  | [], _, _, _, _, j, o, ho => by simp at ho
  | o' :: r, [], _, _, h, _, _, _ => h.elim
  | o' :: r, v :: vs, i, k, h, 0, o, ho => by
    simp only [List.getElem?_cons_zero, Option.some.injEq] at ho
    subst ho
    refine ⟨v, rfl, ?_⟩
    rcases h with ⟨h1, h2, h3, _⟩ | ⟨h1, h2, h3, h4, _⟩ | ⟨h1, h2, h3, h4, _⟩
    · exact .inl ⟨h1, h2, h3⟩
    · exact .inr (.inl ⟨h1, h2, h3, h4⟩)
    · exact .inr (.inr ⟨h1, k, h2, h3, h4⟩)
  | o' :: r, v :: vs, i, k, h, j + 1, o, ho => by
    have e : i + (j + 1) = i + 1 + j := by omega
    rw [e]
    simp only [List.getElem?_cons_succ] at ho ⊢
    rcases h with ⟨_, _, _, h⟩ | ⟨_, _, _, _, h⟩ | ⟨_, _, _, _, h⟩
    · exact okN_at (i0 := i0) (k0 := k0) h j o ho
    · exact okN_at (i0 := i0) (k0 := k0) h j o ho
    · exact okN_at (i0 := i0) (k0 := k0) h j o ho
theorem okN_len : ∀ {l : List Oper} {vs : List V} {i k : Nat}, okN P all E J Jp C i k l vs → vs.length = l.length
  | [], _, _, _, h => by rw [h.1]; rfl
  | _ :: _, [], _, _, h => h.elim
  | _ :: r, v :: vs, i, k, h => by
    simp only [List.length_cons]
    rcases h with ⟨_, _, _, h⟩ | ⟨_, _, _, _, h⟩ | ⟨_, _, _, _, h⟩
    · rw [okN_len h]
    · rw [okN_len h]
    · rw [okN_len h]

theorem putAll_out : ∀ {l : List Oper} {vs : List V} {env : Env} {t : Nat}, (∀ o ∈ l, o.dst ≠ some t) → putAll env l vs t = env t
  | [], _, _, _, _ => by simp [putAll]
  | _ :: _, [], _, _, _ => by simp [putAll]
  | o :: r, v :: vs, env, t, h => by
    rw [putAll, putAll_out fun o ho => h o (by simp [ho])]
    exact put_look fun k hk e => h o (by simp) (by rw [hk, e])
theorem putAll_at : ∀ {l : List Oper} {vs : List V} {env : Env} {j t : Nat} {o : Oper} {v : V}, l[j]? = some o → vs[j]? = some v → o.dst = some t → (∀ i o', l[i]? = some o' → o'.dst = some t → i = j) → putAll env l vs t = v
  | [], _, _, j, _, _, _, h, _, _, _ => by simp at h
  | _ :: _, [], _, j, _, _, _, _, h, _, _ => by simp at h
  | o' :: r, v' :: vs, env, 0, t, o, v, h1, h2, h3, h4 => by
    simp only [List.getElem?_cons_zero, Option.some.injEq] at h1 h2
    subst h1 h2
    rw [putAll, putAll_out fun o ho he => by
      obtain ⟨i, hi⟩ := List.getElem?_of_mem ho
      have := h4 (i + 1) o (by simpa using hi) he
      omega]
    rw [h3]
    simp [put, upd]
  | o' :: r, v' :: vs, env, j + 1, t, o, v, h1, h2, h3, h4 => by
    rw [putAll]
    exact putAll_at (j := j) (by simpa using h1) (by simpa using h2) h3 fun i o' hi he => by
      have := h4 (i + 1) o' (by simpa using hi) he
      omega

theorem freshT_look {T : List Nat} (h : freshT all T = true) {i j t : Nat} {o oj : Oper} (hi : all[i]? = some o) (hj : all[j]? = some oj) (ht : t ∈ o.looksAt all) (hd : oj.dst = some t) : (T.contains t = false ∧ j ∈ aheadO o) ∨ (T.contains t = true ∧ i ∈ aheadO oj) := by
  unfold freshT at h
  rw [List.all_eq_true] at h
  have h1 := h i (List.mem_range.2 (Array.getElem?_eq_some_iff.1 hi).1)
  rw [hi] at h1
  simp only [List.all_eq_true] at h1
  have h2 := h1 j (List.mem_range.2 (Array.getElem?_eq_some_iff.1 hj).1)
  rw [hj] at h2
  simp only [hd, Bool.and_eq_true, Bool.or_eq_true, Bool.not_eq_true'] at h2
  rcases h2.1 with h3 | h3
  · rw [List.contains_iff_mem.2 ht] at h3; cases h3
  · cases hT : T.contains t with
    | false => rw [hT] at h3; exact .inl ⟨rfl, List.contains_iff_mem.1 h3⟩
    | true => rw [hT] at h3; exact .inr ⟨rfl, List.contains_iff_mem.1 h3⟩
theorem freshB_dst {T : List Nat} (h : freshT all T = true) {i j t : Nat} {o oj : Oper} (hi : all[i]? = some o) (hj : all[j]? = some oj) (h1 : o.dst = some t) (h2 : oj.dst = some t) : i = j := by
  unfold freshT at h
  rw [List.all_eq_true] at h
  have h3 := h i (List.mem_range.2 (Array.getElem?_eq_some_iff.1 hi).1)
  rw [hi] at h3
  simp only [List.all_eq_true] at h3
  have h4 := h3 j (List.mem_range.2 (Array.getElem?_eq_some_iff.1 hj).1)
  rw [hj] at h4
  simp only [h2, Bool.and_eq_true, Bool.or_eq_true] at h4
  rcases h4.2 with h5 | h5
  · exact Nat.eq_of_beq_eq_true h5
  · rw [h1] at h5; simp at h5
theorem seqB_prev (h : seqB all C = true) {p i j : Nat} {o : Oper} (hi : C[p + 1]? = some i) (hj : C[p]? = some j) (ho : all[i]? = some o) : j ∈ aheadO o := by
  unfold seqB at h
  rw [List.all_eq_true] at h
  have h1 := h (p + 1) (List.mem_range.2 (List.getElem?_eq_some_iff.1 hi).1)
  rw [hi] at h1
  simp only [Nat.add_sub_cancel, ho, hj, Bool.or_eq_true] at h1
  rcases h1 with h1 | h1
  · simp at h1
  · exact List.contains_iff_mem.1 h1
theorem ahead_listed {o : Oper} {listed : Array Bool} (h : ∀ e ∈ o.after, Region.binds .any e = true → listed.getD e.on false = true) {j : Nat} (hj : j ∈ aheadO o) : listed.getD j false = true := by
  unfold aheadO at hj
  obtain ⟨e, he, rfl⟩ := List.mem_map.1 hj
  rw [List.mem_filter] at he
  exact h e (by simpa using he.1) he.2

/-- How far a run has come. -/
structure Far (all : Array Oper) (E0 E : Env) (J : Nat → Mem → Prop) (C : List Nat) (listed : Array Bool) (env : Env) (m : Mem) : Prop where
  size : listed.size = all.size
  new : ∀ (i : Nat) (o : Oper) (t : Nat), all[i]? = some o → o.dst = some t → listed.getD i false = true → env t = E t
  old : ∀ (t : Nat), (∀ (i : Nat) (o : Oper), all[i]? = some o → o.dst ≠ some t) → env t = E t
  pre : ∀ (i : Nat) (o : Oper) (t : Nat), all[i]? = some o → o.dst = some t → listed.getD i false = false → env t = E0 t
  up : ∀ (i : Nat) (o : Oper), all[i]? = some o → listed.getD i false = true → ∀ j ∈ aheadO o, listed.getD j false = true
  mem : ∃ k, k ≤ C.length ∧ J k m ∧ ∀ (p i : Nat), C[p]? = some i → (listed.getD i false = true ↔ p < k)

theorem getD_ff {listed : Array Bool} {i : Nat} (h : listed.getD i true = false) : i < listed.size ∧ listed.getD i false = false := by
  rcases Nat.lt_or_ge i listed.size with h' | h'
  · refine ⟨h', ?_⟩
    simp [h'] at h ⊢
    exact h
  · simp [Array.getElem?_eq_none h'] at h
theorem set_fuel {listed : Array Bool} {n i : Nat} (hs : listed.size = n) (h : listed.getD i true = false) : ((List.range n).filter fun j => !(listed.setIfInBounds i true).getD j false).length < ((List.range n).filter fun j => !listed.getD j false).length := by
  obtain ⟨h1, h2⟩ := getD_ff h
  have hsub : ((List.range n).filter fun j => !(listed.setIfInBounds i true).getD j false) = (((List.range n).filter fun j => !listed.getD j false).filter fun j => j != i) := by
    rw [List.filter_filter]
    refine List.filter_congr fun j _ => ?_
    by_cases hij : i = j
    · subst hij
      simp [h1]
    · rw [getD_set_ne false hij]
      simp [Ne.symm hij]
  rw [hsub]
  have hmem : i ∈ ((List.range n).filter fun j => !listed.getD j false) := List.mem_filter.2 ⟨List.mem_range.2 (by omega), by rw [h2]; rfl⟩
  rcases Nat.lt_or_ge ((((List.range n).filter fun j => !listed.getD j false).filter fun j => j != i).length) (((List.range n).filter fun j => !listed.getD j false).length) with h3 | h3
  · exact h3
  · have := List.filter_sublist (p := fun j => j != i) (l := (List.range n).filter fun j => !listed.getD j false)
    have h4 := this.eq_of_length_le h3
    rw [← h4, List.mem_filter] at hmem
    simp at hmem

theorem far_any {E0 : Env} {T : List Nat} (hF : freshT all T = true) (hE0 : ∀ (t : Nat), (∀ (i : Nat) (o : Oper), all[i]? = some o → o.dst ≠ some t) → E0 t = E t) (hS : seqB all C = true) (hL : Region.lexB .any all = true) (hC : C.all (fun i => Nat.blt i all.size) = true) {vs : List V} (hE : ∀ (i : Nat) (o : Oper) (t : Nat) (v : V), all[i]? = some o → o.dst = some t → vs[i]? = some v → E t = v) (hok : okN P all (evT T E0 E) J Jp C 0 0 all.toList vs)
    {K : Env → Mem → Prop} {Kp : V → Mem → Prop} (hK : ∀ m, J C.length m → K E m) (hKp : ∀ v m, Jp v m → Kp v m) :
    ∀ (fuel : Nat) (listed : Array Bool) (env : Env) (m : Mem), (((List.range all.size).filter fun i => !listed.getD i false).length ≤ fuel) → Far all E0 E J C listed env m → anyN P all K Kp fuel listed env m := by
  have hC' : ∀ i ∈ C, i < all.size := fun i hi => by
    rw [List.all_eq_true] at hC
    simpa using hC i hi
  have hend : ∀ (listed : Array Bool) (env : Env) (m : Mem), Far all E0 E J C listed env m → Region.ready .any all listed = [] → K env m := by
    intro listed env m hf hr
    have hall := all_listed (before_lex hL) hf.size hr
    have hall' : ∀ i, i < all.size → listed.getD i false = true := fun i hi => by
      have := hall i hi
      have hlt : i < listed.size := by rw [hf.size]; exact hi
      simp [hlt] at this ⊢
      exact this
    have he : env = E := by
      funext t
      by_cases h : ∃ (i : Nat) (o : Oper), all[i]? = some o ∧ o.dst = some t
      · obtain ⟨i, o, h1, h2⟩ := h
        exact hf.new i o t h1 h2 (hall' i (Array.getElem?_eq_some_iff.1 h1).1)
      · exact hf.old t fun i o h1 h2 => h ⟨i, o, h1, h2⟩
    obtain ⟨k, h0, h1, h2⟩ := hf.mem
    have : k = C.length := by
      rcases Nat.lt_or_ge k C.length with h | h
      · have h3 := (h2 k C[k] (List.getElem?_eq_getElem h)).1 (hall' _ (hC' _ (List.getElem_mem h)))
        exact absurd h3 (Nat.lt_irrefl _)
      · omega
    rw [he]
    exact hK m (by rw [← this]; exact h1)
  have hstep : ∀ (listed : Array Bool) (env : Env) (m : Mem) (i : Nat), Far all E0 E J C listed env m → i ∈ Region.ready .any all listed → ∃ o, all[i]? = some o ∧ NStep P all o env m (fun v m' => Far all E0 E J C (listed.setIfInBounds i true) (put env o.dst v) m') Jp := by
    intro listed env m i hf hi
    obtain ⟨hun, o, ho, haft⟩ := mem_ready.1 hi
    refine ⟨o, ho, ?_⟩
    obtain ⟨hlt, hun'⟩ := getD_ff hun
    have hlook : ∀ t ∈ o.looksAt all, env t = evT T E0 E t := fun t ht => by
      by_cases h : ∃ (j : Nat) (oj : Oper), all[j]? = some oj ∧ oj.dst = some t
      · obtain ⟨j, oj, h1, h2⟩ := h
        rcases freshT_look hF ho h1 ht h2 with ⟨h3, h4⟩ | ⟨h3, h4⟩
        · unfold evT
          rw [h3]
          exact hf.new j oj t h1 h2 (ahead_listed haft h4)
        · unfold evT
          rw [h3]
          refine hf.pre j oj t h1 h2 ?_
          cases h5 : listed.getD j false with
          | false => rfl
          | true =>
            have h6 := hf.up j oj h1 h5 i h4
            rw [hun'] at h6
            cases h6
      · have h1 := hf.old t fun j oj h1 h2 => h ⟨j, oj, h1, h2⟩
        unfold evT
        cases T.contains t with
        | false => exact h1
        | true => exact h1.trans (hE0 t fun j oj h2 h3 => h ⟨j, oj, h2, h3⟩).symm
    have hev : ∀ x ∈ o.op.operands, evO env x = evO (evT T E0 E) x := fun x hx => by
      cases x with
      | tmp t => exact hlook t (by
          unfold Oper.looksAt
          rw [List.mem_append]
          exact .inl (List.mem_filterMap.2 ⟨.tmp t, by simpa using hx, rfl⟩))
      | _ => rfl
    have hwant : wantD all env o = wantD all (evT T E0 E) o := by
      unfold wantD
      cases hg : o.guard with
      | none => rfl
      | some g =>
        obtain ⟨j, want⟩ := g
        simp only
        cases hd : (all[j]?).bind (·.dst) with
        | none => rfl
        | some d =>
          simp only
          rw [hlook d (by
            unfold Oper.looksAt
            rw [List.mem_append]
            exact .inr (by rw [hg]; simp [hd]))]
    have hput : ∀ v, (∀ t, o.dst = some t → E t = v) → ∀ (j : Nat) (oj : Oper) (t : Nat), all[j]? = some oj → oj.dst = some t → (listed.setIfInBounds i true).getD j false = true → put env o.dst v t = E t := fun v hv j oj t h1 h2 h3 => by
      by_cases hij : i = j
      · subst hij
        rw [ho] at h1
        cases h1
        rw [h2, hv t h2]
        simp [put, upd]
      · rw [getD_set_ne false hij] at h3
        rw [put_look fun k hk e => hij (freshB_dst hF ho h1 (by rw [hk, e]) h2)]
        exact hf.new j oj t h1 h2 h3
    have hpre : ∀ (v : V) (j : Nat) (oj : Oper) (t : Nat), all[j]? = some oj → oj.dst = some t → (listed.setIfInBounds i true).getD j false = false → put env o.dst v t = E0 t := fun v j oj t h1 h2 h3 => by
      by_cases hij : i = j
      · subst hij
        simp [hlt] at h3
      · rw [getD_set_ne false hij] at h3
        rw [put_look fun k hk e => hij (freshB_dst hF ho h1 (by rw [hk, e]) h2)]
        exact hf.pre j oj t h1 h2 h3
    have hold : ∀ (v : V) (t : Nat), (∀ (j : Nat) (oj : Oper), all[j]? = some oj → oj.dst ≠ some t) → put env o.dst v t = E t := fun v t h => by
      rw [put_look fun k hk e => h i o ho (by rw [hk, e])]
      exact hf.old t h
    obtain ⟨v, hv, hcase⟩ := okN_at (i0 := 0) (k0 := 0) hok i o (by rw [← Array.getElem?_toList] at ho; exact ho)
    rw [Nat.zero_add] at hcase
    have hEv : ∀ t, o.dst = some t → E t = v := fun t ht => hE i o t v ho ht hv
    obtain ⟨k, hk0, hk1, hk2⟩ := hf.mem
    have hstay : i ∉ C → ∀ (p j : Nat), C[p]? = some j → ((listed.setIfInBounds i true).getD j false = true ↔ p < k) := fun hc p j hj => by
      rw [getD_set_ne false (fun e => hc (by rw [e]; exact List.mem_of_getElem? hj))]
      exact hk2 p j hj
    have hsz : (listed.setIfInBounds i true).size = all.size := by simp [hf.size]
    have hset : ∀ j, listed.getD j false = true → (listed.setIfInBounds i true).getD j false = true := fun j hj => by
      by_cases hij : i = j
      · subst hij; simp [hlt]
      · rw [getD_set_ne false hij]; exact hj
    have hup : ∀ (i' : Nat) (o' : Oper), all[i']? = some o' → (listed.setIfInBounds i true).getD i' false = true → ∀ j ∈ aheadO o', (listed.setIfInBounds i true).getD j false = true := fun i' o' h1 h2 j hj => by
      by_cases hij : i = i'
      · subst hij
        rw [ho] at h1
        cases h1
        exact hset _ (ahead_listed haft hj)
      · rw [getD_set_ne false hij] at h2
        exact hset _ (hf.up i' o' h1 h2 j hj)
    unfold NStep
    rw [hwant]
    rcases hcase with ⟨h1, h2, h3⟩ | ⟨h1, h2, h3, p, h4, h5⟩ | ⟨h1, p, h2, h3, h4⟩
    · rw [h1]
      exact ⟨hsz, hput _ fun t ht => by rw [hEv t ht, h2], hold _, hpre _, hup, k, hk0, hk1, hstay h3⟩
    · rw [h1]
      simp only
      have hkp : k ≤ p := by
        unfold tillB at h4
        split at h4
        · rename_i c hc
          split at h4
          · rename_i oc hoc
            rcases Nat.lt_or_ge p k with h6 | h6
            · have h7 := hf.up c oc hoc ((hk2 p c hc).2 h6) i (List.contains_iff_mem.1 h4)
              rw [hun'] at h7
              cases h7
            · exact h6
          · cases h4
        · exact Nat.le_trans hk0 (Nat.le_of_ble_eq_true h4)
      rw [calleeV_congr hev, h2, execD_congr hev, h5 k m hkp hk1]
      exact ⟨hsz, hput _ hEv, hold _, hpre _, hup, k, hk0, hk1, hstay h3⟩
    · rw [h1]
      simp only
      rw [calleeV_congr hev, execD_congr hev]
      have hpk : p = k := by
        have g1 : ¬ p < k := fun hh => by rw [(hk2 p i h2).2 hh] at hun'; cases hun'
        cases p with
        | zero => omega
        | succ q =>
          have hq : q < C.length := by have := (List.getElem?_eq_some_iff.1 h2).1; omega
          have := (hk2 q C[q] (List.getElem?_eq_getElem hq)).1 (ahead_listed haft (seqB_prev hS h2 (List.getElem?_eq_getElem hq) ho))
          omega
      subst hpk
      have hfar : ∀ u m', (u = v ∧ J (p + 1) m') → Far all E0 E J C (listed.setIfInBounds i true) (put env o.dst u) m' := fun u m' hu => by
        obtain ⟨rfl, hj⟩ := hu
        refine ⟨hsz, hput _ hEv, hold _, hpre _, hup, p + 1, (List.getElem?_eq_some_iff.1 h2).1, hj, fun q j hq => ?_⟩
        by_cases hij : i = j
        · subst hij
          have := h3 q hq
          subst this
          simp [hlt]
        · rw [getD_set_ne false hij, hk2 q j hq]
          have : q ≠ p := fun e => hij (by rw [e, h2] at hq; cases hq; rfl)
          omega
      have h5 := h4 m hk1
      unfold NS at h5
      cases hc : calleeV (evO (evT T E0 E)) o.op with
      | some fa =>
        obtain ⟨f, args⟩ := fa
        rw [hc] at h5
        exact callD_monoK (fun u m' hu => hfar u m' hu) h5
      | none =>
        rw [hc] at h5
        simp only at h5 ⊢
        split at h5
        · rename_i u m' hx
          rw [hx]
          exact hfar _ _ h5
        · rename_i m' hx
          rw [hx]
          exact hfar _ _ h5
        · exact h5.elim
  intro fuel
  induction fuel with
  | zero =>
    intro listed env m hfu hf
    have hr : Region.ready .any all listed = [] := by
      cases h : Region.ready .any all listed with
      | nil => rfl
      | cons i r =>
        have hi : i ∈ Region.ready .any all listed := by rw [h]; simp
        have := set_fuel hf.size (mem_ready.1 hi).1
        omega
    exact ⟨hr, hend _ _ _ hf hr⟩
  | succ n ih =>
    intro listed env m hfu hf
    refine ⟨fun hr => hend _ _ _ hf hr, fun i hi => ?_⟩
    obtain ⟨o, ho, hs⟩ := hstep listed env m i hf hi
    refine ⟨o, ho, NStep_mono (fun v m' h => ih _ _ _ ?_ h) hKp hs⟩
    have := set_fuel hf.size (mem_ready.1 hi).1
    omega
/-- A region with calls in a row. -/
theorem w_callsT {K0 : Nat} {R : List Nat} {Ex : Nat → List Nat} {L : List Nat} {Q : Ab.Ex → Env → Mem → Prop} {id : Nat} {l : List Oper} {env : Env} {m : Mem} (J : Nat → Mem → Prop) (Jp : V → Mem → Prop) (C T : List Nat) (vs : List V)
    (hB : (freshT l.toArray T && (seqB l.toArray C && (Region.lexB .any l.toArray && C.all (fun i => Nat.blt i l.toArray.size)))) = true) (h0 : J 0 m) (hok : okN P l.toArray (evT T env (putAll env l vs)) J Jp C 0 0 l vs)
    (hK : ∀ m', J C.length m' → Q .nrm (putAll env l vs) m') (hKp : ∀ v m', Jp v m' → Q (.pan v) (wipe l.toArray env) m') : W P K0 R (.region id l.toArray true) Ex L env m Q := by
  simp only [Bool.and_eq_true] at hB
  obtain ⟨b1, b2, b3, b4⟩ := hB
  have hrep : ∀ i, (Array.replicate l.toArray.size false).getD i false = false := fun i => by
    rw [Array.getD_eq_getD_getElem?, Array.getElem?_replicate]
    split <;> rfl
  refine .inr (.inr (.inr (far_any (E0 := env) b1 (fun t h => (putAll_out fun o ho e => by
      obtain ⟨i, hi⟩ := List.getElem?_of_mem ho
      exact h i o (by simpa using hi) e).symm) b2 b3 b4 (E := putAll env l vs) (vs := vs) (fun i o t v h1 h2 h3 => putAll_at (j := i) (o := o) (by simpa using h1) h3 h2 fun i' o' h4 h5 => freshB_dst b1 (by simpa using h4) h1 h5 h2) (by simpa using hok) hK hKp _ _ env m ?_ ⟨by simp, fun i o t h1 h2 h3 => ?_, fun t h => ?_, fun i o t h1 h2 h3 => rfl, fun i o h1 h2 => ?_, 0, Nat.zero_le _, h0, fun p i hp => ?_⟩)))
  · exact Nat.le_trans (List.length_filter_le _ _) (by simp)
  · rw [hrep] at h3; cases h3
  · exact (putAll_out fun o ho e => by
      obtain ⟨i, hi⟩ := List.getElem?_of_mem ho
      exact h i o (by simpa using hi) e).symm
  · rw [hrep] at h2; cases h2
  · rw [hrep]; simp
theorem w_callsP {K0 : Nat} {R : List Nat} {Ex : Nat → List Nat} {L : List Nat} {Q : Ab.Ex → Env → Mem → Prop} {id : Nat} {l : List Oper} {env : Env} {m : Mem} (J : Nat → Mem → Prop) (Jp : V → Mem → Prop) (C : List Nat) (vs : List V)
    (hB : (freshT l.toArray [] && (seqB l.toArray C && (Region.lexB .any l.toArray && C.all (fun i => Nat.blt i l.toArray.size)))) = true) (h0 : J 0 m) (hok : okN P l.toArray (putAll env l vs) J Jp C 0 0 l vs)
    (hK : ∀ m', J C.length m' → Q .nrm (putAll env l vs) m') (hKp : ∀ v m', Jp v m' → Q (.pan v) (wipe l.toArray env) m') : W P K0 R (.region id l.toArray true) Ex L env m Q := w_callsT J Jp C [] vs hB h0 hok hK hKp
theorem w_calls {K0 : Nat} {R : List Nat} {Ex : Nat → List Nat} {L : List Nat} {Q : Ab.Ex → Env → Mem → Prop} {id : Nat} {l : List Oper} {env : Env} {m : Mem} (J : Nat → Mem → Prop) (C : List Nat) (vs : List V)
    (hB : (freshT l.toArray [] && (seqB l.toArray C && (Region.lexB .any l.toArray && C.all (fun i => Nat.blt i l.toArray.size)))) = true) (h0 : J 0 m) (hok : okN P l.toArray (putAll env l vs) J (fun _ _ => False) C 0 0 l vs)
    (hK : ∀ m', J C.length m' → Q .nrm (putAll env l vs) m') : W P K0 R (.region id l.toArray true) Ex L env m Q := w_callsP J _ C vs hB h0 hok hK fun _ _ h => h.elim
end
end Go.Proofs.Ytjjenpdjmcmgbaa.Ab
