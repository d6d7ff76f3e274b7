/- What Decode and Encode answer, told for callers. No condition. -/
import Derived.Test.YtjjenpdjmcmgbaaQXq
namespace Go.Proofs.Ytjjenpdjmcmgbaa
open Go Ab
set_option linter.unusedSimpArgs false
set_option linter.unusedVariables false
set_option maxRecDepth 20000
section
variable {P : Program} {f : FuncId} {vs vs' : List V} {m m' : Mem} {v u e : V} {l : List V}
/-- An answer's nil slices, told as empty ones. -/
theorem ans_wk1 (h : Snd P f vs [] fun r => ∃ m1 C, r = .ret (.tup [.agg C, e]) m1 ∧ Wks C l) : Ans P f vs (.tup [.agg l, e]) := by
  intro ρ I w xs hr hl hrt
  refine (h ρ I w xs hr hl hrt).mono ?_
  rintro ex w' ⟨r, ⟨m1, C, rfl, hw⟩, x, ρ', I', rfl, k1, k2, k3⟩
  refine ⟨.ret (.tup [.agg l, e]) m1, ⟨m1, rfl⟩, x, ρ', I', rfl, k1, k2, ?_⟩
  have k3 : RV m1.length ρ' I' w' (.tup [.agg C, e]) x := k3
  show RV m1.length ρ' I' w' (.tup [.agg l, e]) x
  simp only [RV, Rt] at k3 ⊢
  obtain ⟨c, h1, h2, ⟨y, h3, h4⟩, h5⟩ := k3
  refine ⟨c, h1, h2, ⟨y, h3, ?_⟩, h5⟩
  have := hw.agg (x := y) (by simp only [RV]; exact h4)
  simpa only [RV] using this
/-- Memory with some of its blocks forgotten. -/
theorem rep_thin {ρ : Pl} {I : Nat → Prop} {w : World} (hr : Rep ρ I m w) (hl : m'.length = m.length) (h : ∀ (n : Nat) (b : B), m'[n]? = some b → b = B.dead ∨ m[n]? = some b) : Rep ρ I m' w ∧ Step ρ I m w ρ I m' w := by
  have hlv : ∀ n, live m' n → live m n := by
    rintro n ⟨b, hb, hlb⟩
    rcases h n b hb with rfl | h
    · cases hlb
    · exact ⟨b, h, hlb⟩
  refine ⟨⟨fun n b hb => ?_, fun n hn => hr.notI n (hlv n hn), fun n n' hn hn' => hr.inj n n' (hlv n hn) (hlv n' hn'), hr.ilt⟩, ?_⟩
  · rcases h n b hb with rfl | h
    · trivial
    · rw [hl]
      exact hr.blk n b h
  · exact ⟨by omega, fun _ _ => rfl, fun n _ hn => hlv n hn, fun _ h => h, fun _ h => .inl h, fun b ⟨n, hn, e⟩ => .inr ⟨n, hlv n hn, e⟩, WLe.refl _ _, fun _ _ _ => rfl⟩
theorem Snd_thin {Q Q' : CR → Prop} (h : Snd P f vs m Q) (hq : ∀ v M, Q (.ret v M) → ∃ M', M'.length = M.length ∧ (∀ (n : Nat) (b : B), M'[n]? = some b → b = B.dead ∨ M[n]? = some b) ∧ Q' (.ret v M')) (hp : ∀ v M, Q (.pan v M) → Q' (.pan v M)) : Snd P f vs m Q' := by
  intro ρ I w xs hr hl hrt
  refine (h ρ I w xs hr hl hrt).mono ?_
  rintro ex w' ⟨r, h1, x, ρ', I', k0, k1, k2, k3⟩
  cases r with
  | pan v M => exact ⟨_, hp v M h1, x, ρ', I', k0, k1, k2, k3⟩
  | ret v M =>
    obtain ⟨M', g1, g2, g3⟩ := hq v M h1
    obtain ⟨r', s'⟩ := rep_thin k1 g1 g2
    exact ⟨_, g3, x, ρ', I', k0, r', k2.trans s', RV.keep s'.keeps _ _ k3⟩
/-- A call on rows that it only reads, whose answer is told less of. -/
theorem Snd_lendU (hv : vs.map (lendV m) = vs') (hn : nfs vs' = true) (h : Ans P f vs' v) (hw : ∀ {N N' : Nat} {ρ ρ' : Pl} {I I' : Nat → Prop} {w : World} {x : Value}, RV N ρ I w v x → RV N' ρ' I' w u x) : Snd P f vs m fun r => r = .ret u m := by
  subst hv
  intro ρ I w xs hr hl hrt
  have hr' : Rep (fun _ => (0, 0)) (fun b => I b ∨ Own ρ m b) [] w :=
    ⟨fun n b h => by simp at h, fun n h => by simp [live] at h, fun n _ h => by simp [live] at h, fun b h => h.elim (hr.ilt b) (own_lt hr)⟩
  refine (h _ _ w xs hr' (by simpa using hl) (lend_Rt hr hrt hn)).mono ?_
  rintro e w' ⟨r, ⟨m1, rfl⟩, x, ρ', I', rfl, k1, k2, k3⟩
  have old : ∀ b : Nat, b < w.heap.size → w'.heap[b]? = w.heap[b]? := fun b hb => k2.frame b hb (by rintro ⟨n, hn, _⟩; simp [live] at hn)
  have keeps : Keeps m.length ρ I w m.length ρ I w' := ⟨Nat.le_refl _, fun _ _ => rfl, fun _ h => h, fun b hb => old b (hr.ilt b hb), k2.wle.cells⟩
  refine ⟨_, rfl, x, ρ, I, rfl, ⟨fun n b hm => ?_, hr.notI, hr.inj, fun b hb => Nat.lt_of_lt_of_le (hr.ilt b hb) k2.wle.size⟩, ?_, ?_⟩
  · by_cases hlv : b.live = true
    · exact (hr.blk n b hm).keep keeps (old _ (own_lt hr ⟨n, ⟨b, hm, hlv⟩, rfl⟩))
    · cases b with
      | dead => trivial
      | _ => exact absurd rfl hlv
  · exact ⟨Nat.le_refl _, fun _ _ => rfl, fun _ _ h => h, fun _ h => h, fun _ h => .inl h, fun _ h => .inr h,
      ⟨k2.wle.os, k2.wle.tape, k2.wle.output, k2.wle.size, fun b hb => old b (hr.ilt b hb), k2.wle.cells⟩, fun b hb _ => old b hb⟩
  · exact hw k3
end
theorem snd12 {b : List Nat} (hb : Byt b) : Snd Try.prog 12 [byV b] [] (RD b) := by
  cases hs : short b
  · exact snd12b hb hs
  · exact snd12a hb hs
theorem ans12 {b : List Nat} (hb : Byt b) : Ans Try.prog 12 [byV b] (.tup [.agg (msC (decX b)), .int .i64 (decE b)]) := ans_wk1 (snd12 hb)
/-- Cells of which only the numbers are told. -/
def uk1 : V → V
  | .int k n => .int k n
  | .bool b => .bool b
  | _ => .unk
theorem uk1_RV {N N' : Nat} {ρ ρ' : Pl} {I I' : Nat → Prop} {w : World} {v : V} {x : Value} (h : RV N ρ I w v x) : RV N' ρ' I' w (uk1 v) x := by
  cases v <;> simp only [uk1, RV] at h ⊢ <;> exact h
def ukC (x : Ms) : List V := (msC x).map uk1
theorem uk_RV {N N' : Nat} {ρ ρ' : Pl} {I I' : Nat → Prop} {w : World} {l : List V} {k : IntKind} {n : Int} {x : Value} (h : RV N ρ I w (.tup [.agg l, .int k n]) x) : RV N' ρ' I' w (.tup [.agg (l.map uk1), .int k n]) x := by
  simp only [RV, Rt] at h ⊢
  obtain ⟨c, h1, h2, ⟨y, h3, ⟨d, h6, h7, h8⟩⟩, h5⟩ := h
  refine ⟨c, h1, h2, ⟨y, h3, ⟨d, h6, by rw [List.length_map]; exact h7, Rc.mk fun i v hv => ?_⟩⟩, h5⟩
  rw [List.getElem?_map, Option.map_eq_some_iff] at hv
  obtain ⟨u, hu, rfl⟩ := hv
  obtain ⟨z, k1, k2, k3⟩ := h8.get i u hu
  exact ⟨z, k1, k2, uk1_RV k3⟩
/-- Decode on a row of the caller's, of which only the error is told. -/
theorem snd12u {b : List Nat} {m : Mem} {s : V} (hb : Byt b) (hl : lendV m s = byV b) : Snd Try.prog 12 [s] m fun r => r = .ret (.tup [.agg (ukC (decX b)), .int .i64 (decE b)]) m :=
  Snd_lendU (by rw [List.map_cons, List.map_nil, hl]) (by simp only [nfs, nf_by, Bool.and_self]) (ans12 hb) uk_RV
theorem lend_take {m : Mem} {k j : Nat} {l : List Nat} (h : m[k]? = some (rowB l)) (hj : j ≤ l.length) : lendV m (.sl 1 k 0 j) = byV (l.take j) := by
  have h' : m[k]? = some (.row 5 1 (l.map byC)) := h
  have : (Nat.beq 1 1 && Nat.ble (0 + j) (l.map byC).length) = true := by simp [hj]
  simp only [lendV, lend1, h', this, cond_true]
  simp [byV, List.map_take]
/-- The program's bytes of a message stand in a row of their own. -/
theorem snd15q {x : Ms} (hx : wfM x) (hR : rightM x = true) (hF : fits x = true) : Snd Try.prog 15 [.agg (msC x)] [] fun q => ∃ m1 k, q = .ret (.tup [.sl 1 k 0 (whole x).length, .bool true]) m1 ∧ nfM m1 = true ∧ m1[k]? = some (rowB (whole x)) := by
  obtain ⟨ht, hf⟩ := right_fair hR
  refine Snd_thin (snd15 hx hf ht) ?_ ?_
  · rintro v M (⟨h, m1, k, e, hk⟩ | ⟨h, m1, e⟩)
    rotate_left
    · rw [hF] at h; cases h
    cases e
    have hkl := (List.getElem?_eq_some_iff.1 hk).1
    refine ⟨(List.replicate M.length .dead).set k (rowB (whole x)), by simp, fun n b hb => ?_, _, k, rfl, ?_, ?_⟩
    · by_cases hn : k = n
      · subst hn
        rw [List.getElem?_set_self (by simpa using hkl)] at hb
        cases hb
        exact .inr hk
      · rw [List.getElem?_set_ne hn] at hb
        obtain ⟨_, hb⟩ := List.getElem?_eq_some_iff.1 hb
        rw [List.getElem_replicate] at hb
        exact .inl hb.symm
    · refine nfM_set ?_ ?_
      · generalize M.length = n
        induction n with
        | zero => rfl
        | succ n ih => rw [List.replicate_succ]; exact nfM_cons rfl ih
      · have := nf_by (whole x)
        simpa [byV, nf, rowB, nfB] using this
    · rw [List.getElem?_set_self (by simpa using hkl)]
  · rintro v M (⟨h, m1, k, e, hk⟩ | ⟨h, m1, e⟩) <;> cases e
set_option maxHeartbeats 4000000 in
theorem snd7q {x : Ms} (hx : wfM x) (hc : chkM x = 0) : Snd Try.prog 7 [.agg (msC x)] [] fun q => ∃ m1 k, q = .ret (.tup [.sl 1 k 0 (whole x).length, .int .i64 0]) m1 ∧ nfM m1 = true ∧ m1[k]? = some (rowB (whole x)) := by
  obtain ⟨hR, hF⟩ := right_if hc
  refine Snd_of_W fol rfl rfl (by kernel_rfl) (by kernel_rfl) ?_
  have ev : ∀ env, evO env (.const (.slice none 0 0)) = .nils := fun _ => rfl
  have e : decide (chkM x = 0) = true := by simpa using hc
  simp -implicitDefEqProofs only [sims.1, fx.1, keeps.1, tick_on, calleeK, extractV, oneV, faddrK, nonnil, b_shr, b_shl, fieldK, Nat.reduceAdd, Nat.reduceMul, Nat.reduceSub, Nat.reduceEqDiff, Nat.reduceLT, Nat.reduceLeDiff, Nat.reduceBEq, Nat.reduceBNe, reduceIte, Int.reduceEq, Int.reduceLT, Int.reduceLE, Int.reduceNe, Int.reduceToNat, part37, ev]
  refine callD_ans (ans9 x hx) en9 (nf_ms x) rfl ?_
  simp -implicitDefEqProofs only [sims.1, fx.1, keeps.1, tick_on, calleeK, extractV, oneV, faddrK, nonnil, b_shr, b_shl, fieldK, Nat.reduceAdd, Nat.reduceMul, Nat.reduceSub, Nat.reduceEqDiff, Nat.reduceLT, Nat.reduceLeDiff, Nat.reduceBEq, Nat.reduceBNe, reduceIte, Int.reduceEq, Int.reduceLT, Int.reduceLE, Int.reduceNe, Int.reduceToNat, e, ev, part37]
  refine callD_newQ (snd15q hx hR hF) en15 (nf_ms x) ?_
  rintro q ⟨m1, k, rfl, hm1, hk⟩
  refine ⟨_, m1, rfl, hm1, rfl, rfl, ?_⟩
  have er : ren (back [] 1) (.tup [.sl 1 k 0 (whole x).length, .bool true]) = .tup [.sl 1 (1 + k) 0 (whole x).length, .bool true] := rfl
  simp -implicitDefEqProofs only [sims.1, fx.1, keeps.1, tick_on, calleeK, extractV, oneV, faddrK, nonnil, b_shr, b_shl, fieldK, Nat.reduceAdd, Nat.reduceMul, Nat.reduceSub, Nat.reduceEqDiff, Nat.reduceLT, Nat.reduceLeDiff, Nat.reduceBEq, Nat.reduceBNe, reduceIte, Int.reduceEq, Int.reduceLT, Int.reduceLE, Int.reduceNe, Int.reduceToNat, er]
  exact ⟨_, _, rfl, nfM_cons (nfs_ms x) hm1, by rw [Nat.add_comm]; simpa using hk⟩
end Go.Proofs.Ytjjenpdjmcmgbaa
