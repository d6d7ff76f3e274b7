/- The program's check and its writing of a message. No condition. Numbers and lists put behind bytes, by the reference. No condition. Matches put behind bytes, by the reference: the call. No condition. Rules put behind bytes, by the reference. No condition. -/
import Derived.Test.YtjjenpdjmcmgbaaBZm
namespace Go.Proofs.Ytjjenpdjmcmgbaa
open Go Ab
set_option linter.unusedSimpArgs false
set_option linter.unusedVariables false
set_option maxRecDepth 20000
/-- Rows that are not there, told as empty ones. -/
def nil1 (s : Nat) : V → V
  | .nils => .isl s []
  | v => v
def nilV (s : Nat) : V → V
  | .agg l => .agg (l.map (nil1 s))
  | v => nil1 s v
def nilT (s : Nat) : V → V
  | .tup l => .tup (l.map (nilV s))
  | v => nilV s v
section
variable {N : Nat} {ρ : Pl} {I : Nat → Prop} {w : World}
theorem nil1_RV (s : Nat) {v : V} {x : Value} (h : RV N ρ I w v x) : RV N ρ I w (nil1 s v) x := by
  cases v with
  | nils =>
    simp only [nil1, RV] at h ⊢
    exact ⟨none, 0, by simpa using h, Nat.le_refl _, by simp⟩
  | _ => exact h
theorem nilV_RV (s : Nat) {v : V} {x : Value} (h : RV N ρ I w v x) : RV N ρ I w (nilV s v) x := by
  cases v with
  | agg l =>
    simp only [nilV, RV] at h ⊢
    obtain ⟨c, h1, h2, h3⟩ := h
    refine ⟨c, h1, by simpa using h2, Rc.mk fun i v hv => ?_⟩
    rw [List.getElem?_map, Option.map_eq_some_iff] at hv
    obtain ⟨u, hu, rfl⟩ := hv
    obtain ⟨y, k1, k2, k3⟩ := h3.get i u hu
    refine ⟨y, k1, ?_, nil1_RV s k3⟩
    cases u <;> exact k2
  | _ => exact nil1_RV s h
theorem nilT_RV (s : Nat) {v : V} {x : Value} (h : RV N ρ I w v x) : RV N ρ I w (nilT s v) x := by
  cases v with
  | tup l =>
    simp only [nilT, RV] at h ⊢
    obtain ⟨c, h1, h2, h3⟩ := h
    refine ⟨c, h1, by simpa using h2, Rt.mk fun i v hv => ?_⟩
    rw [List.getElem?_map, Option.map_eq_some_iff] at hv
    obtain ⟨u, hu, rfl⟩ := hv
    obtain ⟨y, k1, k2⟩ := h3.get i u hu
    exact ⟨y, k1, nilV_RV s k2⟩
  | _ => exact nilV_RV s h
end
theorem ans_nil {P : Program} {f : FuncId} {vs : List V} {v : V} (s : Nat) (h : Ans P f vs v) : Ans P f vs (nilT s v) := by
  intro ρ I w xs hr hl hrt
  refine (h ρ I w xs hr hl hrt).mono ?_
  rintro e w' ⟨r, ⟨m1, rfl⟩, x, ρ', I', rfl, k1, k2, k3⟩
  exact ⟨.ret (nilT s v) m1, ⟨m1, rfl⟩, x, ρ', I', rfl, k1, k2, nilT_RV s k3⟩
theorem ans_lendN {P : Program} {f : FuncId} {vs : List V} {v : V} (s : Nat) (h : Snd P f vs [] fun r => ∃ m1 v0, r = .ret v0 m1 ∧ nf (lendT m1 v0) = true ∧ nilT s (lendT m1 v0) = v) : Ans P f vs v := by
  intro ρ I w xs hr hl hrt
  have key : Snd P f vs [] fun r => ∃ m1 v0, r = .ret v0 m1 ∧ nf (lendT m1 v0) = true ∧ nilT s (lendT m1 v0) = v := h
  refine (key ρ I w xs hr hl hrt).mono ?_
  rintro e w' ⟨r, ⟨m1, v0, rfl, hn, rfl⟩, x, ρ', I', rfl, k1, k2, k3⟩
  have one : Snd P f vs [] (fun r => r = .ret v0 m1) → True := fun _ => trivial
  have k3' : RV m1.length ρ' I' w' v0 x := k3
  have k1 : Rep ρ' I' m1 w' := k1
  have noOwn : ∀ b, ¬ Own ρ ([] : Mem) b := by rintro b ⟨n, hn, _⟩; simp [live] at hn
  have deadL : ∀ n, ¬ live (m1.map fun _ => B.dead) n := by
    rintro n ⟨b, hb, hl⟩
    rw [List.getElem?_map] at hb
    cases hm : m1[n]? with
    | none => rw [hm] at hb; cases hb
    | some c => rw [hm] at hb; cases hb; cases hl
  have new : ∀ b, Own ρ' m1 b → w.heap.size ≤ b := by
    intro b hb
    rcases k2.own b hb with h | h
    · exact h
    · exact absurd h (noOwn _)
  refine ⟨.ret _ (m1.map fun _ => B.dead), ⟨_, rfl⟩, x, ρ', fun b => I' b ∨ Own ρ' m1 b, rfl, ⟨?_, fun n hn => absurd hn (deadL n), fun n _ hn => absurd hn (deadL n), ?_⟩, ?_, ?_⟩
  · intro n b hb
    have : ∀ b, (m1.map fun _ => B.dead)[n]? = some b → b = .dead := by
      intro b hb
      rw [List.getElem?_map] at hb
      cases hm : m1[n]? with
      | none => rw [hm] at hb; cases hb
      | some c => rw [hm] at hb; cases hb; rfl
    rw [this b hb]
    trivial
  · rintro b (hb | hb)
    · exact k1.ilt b hb
    · exact own_lt k1 hb
  · refine ⟨by simp, fun n hn => by simp at hn, fun n hn => by simp at hn, fun b hb => .inl (k2.iSub b hb), ?_, fun b ⟨n, hn, _⟩ => absurd hn (deadL n), k2.wle, k2.frame⟩
    rintro b (hb | hb)
    · exact k2.iNew b hb
    · exact .inr (.inl (new b hb))
  · exact nilT_RV s (lend_any k1 k3' hn)
theorem map_unk : ∀ {l : List V}, nfs l = true → l.map unkV = l
  | [], _ => rfl
  | v :: r, h => by
    simp only [nfs, Bool.and_eq_true] at h
    rw [List.map_cons, map_unk h.2]
    simp [unkV, h.1]
theorem right_fair {x : Ms} (h : rightM x = true) : isTy x.ty = true ∧ Fair x := by
  simp only [rightM, Bool.and_eq_true, Bool.or_eq_true, Bool.not_eq_true', decide_eq_false_iff_not, List.all_eq_true, decide_eq_true_eq] at h
  obtain ⟨h1, _, h3, _, h5⟩ := h
  have hf : ∀ r : Ru, fairR r = true → rkOK r := fun r hr => by
    simp only [fairR, Bool.and_eq_true, decide_eq_true_eq] at hr
    exact ⟨hr.1, hr.2.1⟩
  refine ⟨h1, fun ht => ?_, fun _ q hq => hf _ (h3 q hq)⟩
  rcases h5 with h5 | h5
  · exact absurd ht h5
  · exact hf _ h5.2.2
def wb (x : Ms) : List Nat := if fits x then whole x else []
def chkM (x : Ms) : Int := if rightM x then (if fits x then 0 else 3) else 70
def encX (x : Ms) : List Nat := if chkM x = 0 then whole x else []
theorem ans15 {x : Ms} (hx : wfM x) (hR : rightM x = true) : Ans Try.prog 15 [.agg (msC x)] (.tup [byV (wb x), .bool (fits x)]) := by
  obtain ⟨ht, hf⟩ := right_fair hR
  refine ans_lendN 1 ((snd15 hx hf ht).mono ?_)
  rintro r (⟨h, m1, k, rfl, hk⟩ | ⟨h, m1, rfl⟩)
  · refine ⟨m1, _, rfl, ?_⟩
    have hl : lendV m1 (.sl 1 k 0 (whole x).length) = byV (whole x) := lend_row hk (by simp)
    have e : lendT m1 (.tup [.sl 1 k 0 (whole x).length, .bool true]) = .tup [byV (whole x), .bool true] := by
      simp only [lendT, List.map_cons, List.map_nil, hl]
      rfl
    rw [e]
    refine ⟨by simp only [nf, nfs, nf_by, Bool.and_self], ?_⟩
    simp only [wb, h, if_true]
    rfl
  · refine ⟨m1, _, rfl, rfl, ?_⟩
    simp only [wb, h]
    rfl
theorem part37 (x : Ms) : partK true 36 (msC x) 0 = some (.agg (msC x)) := rfl
theorem nf_ms (x : Ms) : nfs [.agg (msC x)] = true := nfs_cons (nfs_ms x) rfl
theorem ans9 (x : Ms) (hx : wfM x) : Ans Try.prog 9 [.agg (msC x)] (.int .i64 (chkM x)) := by
  refine Snd_of_W fol rfl rfl (by kernel_rfl) (by kernel_rfl) ?_
  simp -implicitDefEqProofs only [sims.1, fx.1, keeps.1, tick_on, calleeK, extractV, oneV, faddrK, nonnil, b_shr, b_shl, fieldK, Nat.reduceAdd, Nat.reduceMul, Nat.reduceSub, Nat.reduceEqDiff, Nat.reduceLT, Nat.reduceLeDiff, Nat.reduceBEq, Nat.reduceBNe, reduceIte, Int.reduceEq, Int.reduceLT, Int.reduceLE, Int.reduceNe, Int.reduceToNat]
  have hlk : [V.ptr 0 0].map (lookV [B.var 37 (msC x)]) = [.ip (msC x)] := by
    show [V.ip ((List.drop 0 (msC x)).map unkV)] = _
    rw [List.drop_zero, map_unk (nfs_ms x)]
  refine callD_look [.ip (msC x)] (ans17 x hx) en17 hlk (nfs_cons (nfs_ms x) rfl) rfl ?_
  cases hR : rightM x
  · simp -implicitDefEqProofs only [sims.1, fx.1, keeps.1, tick_on, calleeK, extractV, oneV, faddrK, nonnil, b_shr, b_shl, fieldK, Nat.reduceAdd, Nat.reduceMul, Nat.reduceSub, Nat.reduceEqDiff, Nat.reduceLT, Nat.reduceLeDiff, Nat.reduceBEq, Nat.reduceBNe, reduceIte, Int.reduceEq, Int.reduceLT, Int.reduceLE, Int.reduceNe, Int.reduceToNat]
    exact ans_ret (by simp [chkM, hR])
  · simp -implicitDefEqProofs only [sims.1, fx.1, keeps.1, tick_on, calleeK, extractV, oneV, faddrK, nonnil, b_shr, b_shl, fieldK, Nat.reduceAdd, Nat.reduceMul, Nat.reduceSub, Nat.reduceEqDiff, Nat.reduceLT, Nat.reduceLeDiff, Nat.reduceBEq, Nat.reduceBNe, reduceIte, Int.reduceEq, Int.reduceLT, Int.reduceLE, Int.reduceNe, Int.reduceToNat, part37]
    refine callD_ans (ans15 hx hR) en15 (nf_ms x) (by simp only [nf, nfs, nf_by, Bool.and_self]) ?_
    cases hF : fits x
    · simp -implicitDefEqProofs only [sims.1, fx.1, keeps.1, tick_on, calleeK, extractV, oneV, faddrK, nonnil, b_shr, b_shl, fieldK, Nat.reduceAdd, Nat.reduceMul, Nat.reduceSub, Nat.reduceEqDiff, Nat.reduceLT, Nat.reduceLeDiff, Nat.reduceBEq, Nat.reduceBNe, reduceIte, Int.reduceEq, Int.reduceLT, Int.reduceLE, Int.reduceNe, Int.reduceToNat]
      exact ans_ret (by simp [chkM, hR, hF])
    · simp -implicitDefEqProofs only [sims.1, fx.1, keeps.1, tick_on, calleeK, extractV, oneV, faddrK, nonnil, b_shr, b_shl, fieldK, Nat.reduceAdd, Nat.reduceMul, Nat.reduceSub, Nat.reduceEqDiff, Nat.reduceLT, Nat.reduceLeDiff, Nat.reduceBEq, Nat.reduceBNe, reduceIte, Int.reduceEq, Int.reduceLT, Int.reduceLE, Int.reduceNe, Int.reduceToNat]
      exact ans_ret (by simp [chkM, hR, hF])
theorem ans7 (x : Ms) (hx : wfM x) : Ans Try.prog 7 [.agg (msC x)] (.tup [byV (encX x), .int .i64 (chkM x)]) := by
  cases e : decide (chkM x = 0)
  · have he : ¬ chkM x = 0 := of_decide_eq_false e
    have hn : encX x = [] := by simp [encX, he]
    rw [hn]
    refine ans_nil (v := .tup [.nils, .int .i64 (chkM x)]) 1 ?_
    refine Snd_of_W fol rfl rfl (by kernel_rfl) (by kernel_rfl) ?_
    have ev : ∀ env, evO env (.const (.slice none 0 0)) = .nils := fun _ => rfl
    simp -implicitDefEqProofs only [sims.1, fx.1, keeps.1, tick_on, calleeK, extractV, oneV, faddrK, nonnil, b_shr, b_shl, fieldK, Nat.reduceAdd, Nat.reduceMul, Nat.reduceSub, Nat.reduceEqDiff, Nat.reduceLT, Nat.reduceLeDiff, Nat.reduceBEq, Nat.reduceBNe, reduceIte, Int.reduceEq, Int.reduceLT, Int.reduceLE, Int.reduceNe, Int.reduceToNat, part37, ev]
    refine callD_ans (ans9 x hx) en9 (nf_ms x) rfl ?_
    simp -implicitDefEqProofs only [sims.1, fx.1, keeps.1, tick_on, calleeK, extractV, oneV, faddrK, nonnil, b_shr, b_shl, fieldK, Nat.reduceAdd, Nat.reduceMul, Nat.reduceSub, Nat.reduceEqDiff, Nat.reduceLT, Nat.reduceLeDiff, Nat.reduceBEq, Nat.reduceBNe, reduceIte, Int.reduceEq, Int.reduceLT, Int.reduceLE, Int.reduceNe, Int.reduceToNat, e, ev]
    exact ans_ret rfl
  · have he : chkM x = 0 := of_decide_eq_true e
    have hR : rightM x = true := by
      cases h : rightM x with
      | true => rfl
      | false => simp [chkM, h] at he
    have hF : fits x = true := by
      cases h : fits x with
      | true => rfl
      | false => simp [chkM, h, hR] at he
    refine Snd_of_W fol rfl rfl (by kernel_rfl) (by kernel_rfl) ?_
    have ev : ∀ env, evO env (.const (.slice none 0 0)) = .nils := fun _ => rfl
    simp -implicitDefEqProofs only [sims.1, fx.1, keeps.1, tick_on, calleeK, extractV, oneV, faddrK, nonnil, b_shr, b_shl, fieldK, Nat.reduceAdd, Nat.reduceMul, Nat.reduceSub, Nat.reduceEqDiff, Nat.reduceLT, Nat.reduceLeDiff, Nat.reduceBEq, Nat.reduceBNe, reduceIte, Int.reduceEq, Int.reduceLT, Int.reduceLE, Int.reduceNe, Int.reduceToNat, part37, ev]
    refine callD_ans (ans9 x hx) en9 (nf_ms x) rfl ?_
    simp -implicitDefEqProofs only [sims.1, fx.1, keeps.1, tick_on, calleeK, extractV, oneV, faddrK, nonnil, b_shr, b_shl, fieldK, Nat.reduceAdd, Nat.reduceMul, Nat.reduceSub, Nat.reduceEqDiff, Nat.reduceLT, Nat.reduceLeDiff, Nat.reduceBEq, Nat.reduceBNe, reduceIte, Int.reduceEq, Int.reduceLT, Int.reduceLE, Int.reduceNe, Int.reduceToNat, e, part37]
    refine callD_ans (ans15 hx hR) en15 (nf_ms x) (by simp only [nf, nfs, nf_by, Bool.and_self]) ?_
    simp -implicitDefEqProofs only [sims.1, fx.1, keeps.1, tick_on, calleeK, extractV, oneV, faddrK, nonnil, b_shr, b_shl, fieldK, Nat.reduceAdd, Nat.reduceMul, Nat.reduceSub, Nat.reduceEqDiff, Nat.reduceLT, Nat.reduceLeDiff, Nat.reduceBEq, Nat.reduceBNe, reduceIte, Int.reduceEq, Int.reduceLT, Int.reduceLE, Int.reduceNe, Int.reduceToNat]
    refine ans_ret ?_
    simp [wb, encX, hF, he]
end Go.Proofs.Ytjjenpdjmcmgbaa
namespace Go.Proofs.Ytjjenpdjmcmgbaa
open Go Ab
set_option linter.unusedSimpArgs false
set_option linter.unusedVariables false
set_option maxRecDepth 20000
/-- The bytes' row stands there. -/
def Bf (m : Mem) (k : Nat) (l : List Nat) : Prop := l ≠ [] → m[k]? = some (rowB l)
/-- All but the bytes' row stays. -/
def Ke (k : Nat) (l : List Nat) (m m' : Mem) : Prop := m.length ≤ m'.length ∧ ∀ n b, (l ≠ [] → n ≠ k) → m[n]? = some b → m'[n]? = some b
def Fr' (m : Mem) (k : Nat) (l : List Nat) (k' : Nat) (l' : List Nat) : Prop := m.length ≤ k' ∨ (k' = k ∧ l' = l)
theorem Ke.refl (k : Nat) (l : List Nat) (m : Mem) : Ke k l m m := ⟨Nat.le_refl _, fun _ _ _ h => h⟩
theorem Ke.trans {k k' : Nat} {l l' : List Nat} {m m' m'' : Mem} (h : Ke k l m m') (hk : Fr' m k l k' l') (g : Ke k' l' m' m'') : Ke k l m m'' := by
  refine ⟨Nat.le_trans h.1 g.1, fun n b hn hm => g.2 n b (fun hl e => ?_) (h.2 n b hn hm)⟩
  have hlt := (List.getElem?_eq_some_iff.1 hm).1
  rcases hk with hk | ⟨rfl, rfl⟩
  · omega
  · exact hn hl e
theorem Fr'.trans {m m' : Mem} {k k' k'' : Nat} {l l' l'' : List Nat} (hl : m.length ≤ m'.length) (h : Fr' m k l k' l') (g : Fr' m' k' l' k'' l'') : Fr' m k l k'' l'' := by
  rcases g with g | ⟨rfl, rfl⟩
  · exact .inl (by omega)
  · exact h
theorem Ke.app (k : Nat) (l : List Nat) (m ex : Mem) : Ke k l m (m ++ ex) := ⟨by simp, fun n b _ hm => by rw [List.getElem?_append_left (List.getElem?_eq_some_iff.1 hm).1]; exact hm⟩
theorem Bf.app {m : Mem} {k : Nat} {l : List Nat} (h : Bf m k l) (ex : Mem) : Bf (m ++ ex) k l := fun hl => by rw [List.getElem?_append_left (List.getElem?_eq_some_iff.1 (h hl)).1]; exact h hl
end Go.Proofs.Ytjjenpdjmcmgbaa
namespace Go.Proofs.Ytjjenpdjmcmgbaa
open Go Ab
set_option linter.unusedSimpArgs false
set_option linter.unusedVariables false
set_option maxRecDepth 20000
theorem Ke.var {k : Nat} {l : List Nat} {m m' : Mem} {n ty : Nat} {c : List V} (h : Ke k l m m') (hb : Bf m k l) (hm : m[n]? = some (.var ty c)) : m'[n]? = some (.var ty c) :=
  h.2 n _ (fun hl e => by rw [e, hb hl] at hm; cases hm) hm
end Go.Proofs.Ytjjenpdjmcmgbaa
namespace Go.Proofs.Ytjjenpdjmcmgbaa
open Go Ab
set_option linter.unusedSimpArgs false
set_option linter.unusedVariables false
set_option maxRecDepth 20000
theorem encA_len (a : Act) : (encA a).length = 10 := by simp only [encA, List.length_append, enc_len]
end Go.Proofs.Ytjjenpdjmcmgbaa
