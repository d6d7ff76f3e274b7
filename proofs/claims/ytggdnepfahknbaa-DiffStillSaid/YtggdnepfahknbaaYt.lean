/- Code in which a row is frozen, at the spine. No condition. -/
import Derived.Test.YtggdnepfahknbaaYr
namespace Go.Proofs.Ytggdnepfahknbaa
open Go Ab
set_option linter.unusedSimpArgs false
set_option linter.unusedVariables false
set_option maxRecDepth 20000

section
variable {P : Program}
/-- Code at whose spine, behind so many pieces, the row that a slot names is frozen. -/
def WZ (P : Program) (K0 : Nat) (R : List Nat) (t : Nat) : Nat → Code → Env → Mem → (Ex → Env → Mem → Prop) → Prop
  | 0, c, env, m, Q => ∃ v0 v' m', frz m (env t) = some (v0, m') ∧ wkV v0 v' ∧ W P K0 R c (fun _ => []) [] (put env (some t) v') m' Q
  | n + 1, .seq a b, env, m, Q => W P K0 R a (fun _ => []) (lv R b (fun _ => []) []) env m fun ex env m => match ex with
    | .nrm => WZ P K0 R t n b env m Q
    | _ => Q ex env m
  | _ + 1, _, _, _, _ => False
def okWZ (nt : Nat) : Nat → Code → Bool
  | 0, c => codeOk nt c
  | n + 1, .seq a b => codeOk nt a && okWZ nt n b
  | _ + 1, _ => false
theorem WZ_sound (hfol : P.follows .mixedOrders = true) {nt K0 t : Nat} {R : List Nat} (ht : t < nt) : ∀ (n : Nat) (c : Code), okWZ nt n c = true → ∀ (env : Env) (m : Mem) (Q : Ex → Env → Mem → Prop), WZ P K0 R t n c env m Q →
    ∀ (ρ : Pl) (I : Nat → Prop) (a : Go.Act) (w : World), Rep ρ I m w → REnv m.length ρ I w env a → a.tmps.size = nt → a.defers = [] → K0 ≤ m.length → c.wp P (Came2 K0 nt [] ρ I m w Q) a w
  | 0, c, hok, env, m, Q, h, ρ, I, a, w, hr, he, hs, hd, hK => by
    obtain ⟨v0, v', m', h1, hwk, h2⟩ := h
    obtain ⟨I1, r1, s1, v1⟩ := frz_sound hr (he t) h1
    replace v1 := hwk.rv v1
    have f1 := s1.fr hK
    have he1 : REnv m'.length ρ I1 w (put env (some t) v') a := by
      intro k
      by_cases hk : k = t
      · subst hk
        simpa [put, upd] using v1
      · have := RV.keep s1.keeps _ _ (he k)
        rw [put_look fun j hj e => hk (by cases hj; exact e.symm)]
        exact this
    refine wp_mono (W_sound (ds := []) hfol c hok _ _ _ _ _ h2 ρ I1 a w r1 he1 hs hd (Nat.le_trans hK s1.len)) ?_
    rintro e a1 w1 ⟨ex, env1, m1, ρ1, I2, q1, q2, q3, q4, q5, q6, q7⟩
    exact ⟨ex, env1, m1, ρ1, I2, q1, q2, q3, q4, q5, q6, f1.trans q7⟩
  | n + 1, .seq x y, hok, env, m, Q, h, ρ, I, a, w, hr, he, hs, hd, hK => by
    simp only [okWZ, Bool.and_eq_true] at hok
    unfold WZ at h
    refine wp_seq (wp_mono (W_sound (ds := []) hfol x hok.1 _ _ _ _ _ h ρ I a w hr he hs hd hK) ?_)
    rintro e a1 w1 ⟨ex, env1, m1, ρ1, I1, q1, q2, q3, q4, q5, q6, q7⟩
    cases ex with
    | nrm =>
      cases q2
      simp only [Exit.then]
      refine wp_mono (WZ_sound hfol ht n y hok.2 _ _ _ q1 ρ1 I1 a1 w1 q3 q4 q5 q6 q7.len) ?_
      rintro e a w ⟨ex, env', m', ρ', I', g1, g2, g3, g4, g5, g6, g7⟩
      exact ⟨ex, env', m', ρ', I', g1, g2, g3, g4, g5, g6, q7.trans g7⟩
    | exit i => cases q2; exact ⟨.exit i, env1, m1, ρ1, I1, q1, rfl, q3, q4, q5, q6, q7⟩
    | ret => cases q2; exact ⟨.ret, env1, m1, ρ1, I1, q1, rfl, q3, q4, q5, q6, q7⟩
    | pan v =>
      obtain ⟨x', rfl, q2⟩ := q2
      exact ⟨.pan v, env1, m1, ρ1, I1, q1, ⟨x', rfl, q2⟩, q3, q4, q5, q6, q7⟩
  | _ + 1, .skip, hok, _, _, _, _, _, _, _, _, _, _, _, _, _ => by cases hok
  | _ + 1, .label _, hok, _, _, _, _, _, _, _, _, _, _, _, _, _ => by cases hok
  | _ + 1, .region _ _ _, hok, _, _, _, _, _, _, _, _, _, _, _, _, _ => by cases hok
  | _ + 1, .cond _ _ _, hok, _, _, _, _, _, _, _, _, _, _, _, _, _ => by cases hok
  | _ + 1, .block _ _, hok, _, _, _, _, _, _, _, _, _, _, _, _, _ => by cases hok
  | _ + 1, .loop _, hok, _, _, _, _, _, _, _, _, _, _, _, _, _ => by cases hok
  | _ + 1, .exit _, hok, _, _, _, _, _, _, _, _, _, _, _, _, _ => by cases hok
  | _ + 1, .ret, hok, _, _, _, _, _, _, _, _, _, _, _, _, _ => by cases hok
  | _ + 1, .scope _, hok, _, _, _, _, _, _, _, _, _, _, _, _, _ => by cases hok
  | _ + 1, .rangeFunc _ _ _ _, hok, _, _, _, _, _, _, _, _, _, _, _, _, _ => by cases hok
theorem Snd_of_WZ {f : FuncId} {fn : Func} {c : Code} (t n : Nat) (hfol : P.follows .mixedOrders = true) (hf : P.funcs[f]? = some fn) (hb : fn.body = some c) (hok : (Nat.blt t fn.ntmps && okWZ fn.ntmps n c) = true) {vs : List V} {m : Mem} {Q : CR → Prop} (hlen : Nat.ble vs.length fn.ntmps = true)
    (h : WZ P m.length (resT fn) t n c (argEnv vs) m (endQ P fn Q)) : Snd P f vs m Q := by
  rw [Bool.and_eq_true, Nat.blt_eq] at hok
  intro ρ I w xs hr hl hrt
  refine calls_of_wp hf hb ?_
  have hsz : (xs ++ Array.replicate (fn.ntmps - xs.size) undef).size = fn.ntmps := by
    rw [Nat.ble_eq] at hlen
    simp; omega
  refine wp_mono (WZ_sound hfol hok.1 n c hok.2 _ _ _ h ρ I _ w hr (argEnv_sound hl hrt) hsz rfl (Nat.le_refl _)) ?_
  rintro e a' w' ⟨ex, env', m', ρ', I', q1, q2, q3, q4, q5, q6, q7⟩
  have fin : (∃ v, resV P fn env' m' = some v ∧ Q (.ret v m')) → a'.defers = [] ∧ ∃ v, (results fn a'.tmps).run P w' = .ok v w' ∧ ∃ r, Q r ∧ Post ρ I m w r (.returned v) w' := by
    rintro ⟨v, k1, k2⟩
    obtain ⟨y, y1, y2⟩ := results_sound q3 q4 k1
    exact ⟨q6, y, y1, _, k2, y, ρ', I', rfl, q3, q7.step, y2⟩
  cases ex with
  | nrm => cases q2; exact fin q1
  | ret => cases q2; exact fin q1
  | exit i => exact q1.elim
  | pan v =>
    obtain ⟨x, rfl, q2⟩ := q2
    exact ⟨q6, _, q1, x, ρ', I', rfl, q3, q7.step, q2⟩
variable {K0 t n : Nat} {R : List Nat} {a b c : Code} {env : Env} {m : Mem} {Q : Ex → Env → Mem → Prop}
@[congr] theorem WZ_congr {tk : Prop} {env' : Env} {m' : Mem} (h1 : env = env') (h2 : m = m') (htk : tick = tk) : WZ P K0 R t n c env m Q = WZ P K0 R t n c env' m' Q := by rw [h1, h2]
theorem wz_seq : WZ P K0 R t (n + 1) (.seq a b) env m Q = W P K0 R a (fun _ => []) (lv R b (fun _ => []) []) env m (seqQ (fun env m => WZ P K0 R t n b env m Q) Q) := rfl
theorem wz_zero (v0 v' : V) (m' : Mem) (h : frz m (env t) = some (v0, m')) (hv : wkV v0 v') (hk : W P K0 R c (fun _ => []) [] (put env (some t) v') m' Q) : WZ P K0 R t 0 c env m Q := ⟨v0, v', m', h, hv, hk⟩
end
/-- Nothing is told of a place whose rule is as it was. -/
theorem btw_still {was now : List Ru} {x : Me} (hx : x ∈ btw was now) {r o : Ru} (hr : r ∈ lastL now) (ho : o ∈ lastL was) (ha : alk r o = true) : pl x.r r = false := by
  rw [Bool.eq_false_iff]
  intro hp
  rcases List.mem_append.1 hx with hx | hx
  · obtain ⟨p, hpf, rfl⟩ := List.mem_map.1 hx
    have hpf := (List.mem_filter.1 hpf).2
    have : pl p r = true := hp
    have h2 : now.any (pl p) = true := List.any_eq_true.2 ⟨r, lastL_sub hr, this⟩
    rw [h2] at hpf
    cases hpf
  · obtain ⟨r', hr', rfl⟩ := List.mem_map.1 hx
    have hr' := List.mem_filter.1 ((ssort_perm _).mem_iff.1 hr')
    have : r' = r := lastL_uniq hr'.1 hr hp
    subst this
    have h2 : (lastL was).any (alk r') = true := List.any_eq_true.2 ⟨o, ho, ha⟩
    rw [h2] at hr'
    cases hr'.2
theorem lastL_mem {l : List Ru} {i : Nat} (h : i < l.length) (hn : (l.drop (i + 1)).any (fun y => pl y l[i]) = false) : l[i] ∈ lastL l := by
  induction l generalizing i with
  | nil => simp at h
  | cons a t ih =>
    cases i with
    | zero =>
      rw [lastL_cons]
      have : t.any (pl a) = false := by
        simp only [List.drop_succ_cons, List.drop_zero, List.getElem_cons_zero, List.any_eq_false] at hn ⊢
        intro y hy
        rw [pl_comm]
        exact hn y hy
      rw [this]
      simp
    | succ i =>
      exact lastL_tail (ih (by simpa using h) (by simpa using hn))
end Go.Proofs.Ytggdnepfahknbaa
