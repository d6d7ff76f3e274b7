/- The program's check and its writing of a message. No condition. Numbers and lists put behind bytes, by the reference. No condition. Ports and matches put behind bytes, by the reference. No condition. Matches put behind bytes, by the reference: the call. No condition. -/
import Derived.Test.YtjjenpdjmcmgbaaDZm
namespace Go.Proofs.Ytjjenpdjmcmgbaa
open Go Ab
set_option linter.unusedSimpArgs false
set_option linter.unusedVariables false
set_option maxRecDepth 20000
/-- Rows that are not there, told as empty ones. -/
def nil1 (s : Nat) : V → V
  | .nils => .isl s []
  | v => v
def nilV (s : Nat) : V → V
  | .agg l => .agg (l.map (nil1 s))
  | v => nil1 s v
def nilT (s : Nat) : V → V
  | .tup l => .tup (l.map (nilV s))
  | v => nilV s v
section
variable {N : Nat} {ρ : Pl} {I : Nat → Prop} {w : World}
theorem nil1_RV (s : Nat) {v : V} {x : Value} (h : RV N ρ I w v x) : RV N ρ I w (nil1 s v) x := by
  cases v with
  | nils =>
    simp only [nil1, RV] at h ⊢
    exact ⟨none, 0, by simpa using h, Nat.le_refl _, by simp⟩
  | _ => exact h
theorem nilV_RV (s : Nat) {v : V} {x : Value} (h : RV N ρ I w v x) : RV N ρ I w (nilV s v) x := by
  cases v with
  | agg l =>
    simp only [nilV, RV] at h ⊢
    obtain ⟨c, h1, h2, h3⟩ := h
    refine ⟨c, h1, by simpa using h2, Rc.mk fun i v hv => ?_⟩
    rw [List.getElem?_map, Option.map_eq_some_iff] at hv
    obtain ⟨u, hu, rfl⟩ := hv
    obtain ⟨y, k1, k2, k3⟩ := h3.get i u hu
    refine ⟨y, k1, ?_, nil1_RV s k3⟩
    cases u <;> exact k2
  | _ => exact nil1_RV s h
theorem nilT_RV (s : Nat) {v : V} {x : Value} (h : RV N ρ I w v x) : RV N ρ I w (nilT s v) x := by
  cases v with
  | tup l =>
    simp only [nilT, RV] at h ⊢
    obtain ⟨c, h1, h2, h3⟩ := h
    refine ⟨c, h1, by simpa using h2, Rt.mk fun i v hv => ?_⟩
    rw [List.getElem?_map, Option.map_eq_some_iff] at hv
    obtain ⟨u, hu, rfl⟩ := hv
    obtain ⟨y, k1, k2⟩ := h3.get i u hu
    exact ⟨y, k1, nilV_RV s k2⟩
  | _ => exact nilV_RV s h
end
theorem ans_nil {P : Program} {f : FuncId} {vs : List V} {v : V} (s : Nat) (h : Ans P f vs v) : Ans P f vs (nilT s v) := by
  intro ρ I w xs hr hl hrt
  refine (h ρ I w xs hr hl hrt).mono ?_
  rintro e w' ⟨r, ⟨m1, rfl⟩, x, ρ', I', rfl, k1, k2, k3⟩
  exact ⟨.ret (nilT s v) m1, ⟨m1, rfl⟩, x, ρ', I', rfl, k1, k2, nilT_RV s k3⟩
theorem ans_lendN {P : Program} {f : FuncId} {vs : List V} {v : V} (s : Nat) (h : Snd P f vs [] fun r => ∃ m1 v0, r = .ret v0 m1 ∧ nf (lendT m1 v0) = true ∧ nilT s (lendT m1 v0) = v) : Ans P f vs v := by
  intro ρ I w xs hr hl hrt
  have key : Snd P f vs [] fun r => ∃ m1 v0, r = .ret v0 m1 ∧ nf (lendT m1 v0) = true ∧ nilT s (lendT m1 v0) = v := h
  refine (key ρ I w xs hr hl hrt).mono ?_
  rintro e w' ⟨r, ⟨m1, v0, rfl, hn, rfl⟩, x, ρ', I', rfl, k1, k2, k3⟩
  have one : Snd P f vs [] (fun r => r = .ret v0 m1) → True := fun _ => trivial
  have k3' : RV m1.length ρ' I' w' v0 x := k3
  have k1 : Rep ρ' I' m1 w' := k1
  have noOwn : ∀ b, ¬ Own ρ ([] : Mem) b := by rintro b ⟨n, hn, _⟩; simp [live] at hn
  have deadL : ∀ n, ¬ live (m1.map fun _ => B.dead) n := by
    rintro n ⟨b, hb, hl⟩
    rw [List.getElem?_map] at hb
    cases hm : m1[n]? with
    | none => rw [hm] at hb; cases hb
    | some c => rw [hm] at hb; cases hb; cases hl
  have new : ∀ b, Own ρ' m1 b → w.heap.size ≤ b := by
    intro b hb
    rcases k2.own b hb with h | h
    · exact h
    · exact absurd h (noOwn _)
  refine ⟨.ret _ (m1.map fun _ => B.dead), ⟨_, rfl⟩, x, ρ', fun b => I' b ∨ Own ρ' m1 b, rfl, ⟨?_, fun n hn => absurd hn (deadL n), fun n _ hn => absurd hn (deadL n), ?_⟩, ?_, ?_⟩
  · intro n b hb
    have : ∀ b, (m1.map fun _ => B.dead)[n]? = some b → b = .dead := by
      intro b hb
      rw [List.getElem?_map] at hb
      cases hm : m1[n]? with
      | none => rw [hm] at hb; cases hb
      | some c => rw [hm] at hb; cases hb; rfl
    rw [this b hb]
    trivial
  · rintro b (hb | hb)
    · exact k1.ilt b hb
    · exact own_lt k1 hb
  · refine ⟨by simp, fun n hn => by simp at hn, fun n hn => by simp at hn, fun b hb => .inl (k2.iSub b hb), ?_, fun b ⟨n, hn, _⟩ => absurd hn (deadL n), k2.wle, k2.frame⟩
    rintro b (hb | hb)
    · exact k2.iNew b hb
    · exact .inr (.inl (new b hb))
  · exact nilT_RV s (lend_any k1 k3' hn)
theorem map_unk : ∀ {l : List V}, nfs l = true → l.map unkV = l
  | [], _ => rfl
  | v :: r, h => by
    simp only [nfs, Bool.and_eq_true] at h
    rw [List.map_cons, map_unk h.2]
    simp [unkV, h.1]
theorem right_fair {x : Ms} (h : rightM x = true) : isTy x.ty = true ∧ Fair x := by
  simp only [rightM, Bool.and_eq_true, Bool.or_eq_true, Bool.not_eq_true', decide_eq_false_iff_not, List.all_eq_true, decide_eq_true_eq] at h
  obtain ⟨h1, _, h3, _, h5⟩ := h
  have hf : ∀ r : Ru, fairR r = true → rkOK r := fun r hr => by
    simp only [fairR, Bool.and_eq_true, decide_eq_true_eq] at hr
    exact ⟨hr.1, hr.2.1⟩
  refine ⟨h1, fun ht => ?_, fun _ q hq => hf _ (h3 q hq)⟩
  rcases h5 with h5 | h5
  · exact absurd ht h5
  · exact hf _ h5.2.2
def wb (x : Ms) : List Nat := if fits x then whole x else []
def chkM (x : Ms) : Int := if rightM x then (if fits x then 0 else 3) else 70
def encX (x : Ms) : List Nat := if chkM x = 0 then whole x else []
theorem ans15 {x : Ms} (hx : wfM x) (hR : rightM x = true) : Ans Try.prog 15 [.agg (msC x)] (.tup [byV (wb x), .bool (fits x)]) := by
  obtain ⟨ht, hf⟩ := right_fair hR
  refine ans_lendN 1 ((snd15 hx hf ht).mono ?_)
  rintro r (⟨h, m1, k, rfl, hk⟩ | ⟨h, m1, rfl⟩)
  · refine ⟨m1, _, rfl, ?_⟩
    have hl : lendV m1 (.sl 1 k 0 (whole x).length) = byV (whole x) := lend_row hk (by simp)
    have e : lendT m1 (.tup [.sl 1 k 0 (whole x).length, .bool true]) = .tup [byV (whole x), .bool true] := by
      simp only [lendT, List.map_cons, List.map_nil, hl]
      rfl
    rw [e]
    refine ⟨by simp only [nf, nfs, nf_by, Bool.and_self], ?_⟩
    simp only [wb, h, if_true]
    rfl
  · refine ⟨m1, _, rfl, rfl, ?_⟩
    simp only [wb, h]
    rfl
theorem part37 (x : Ms) : partK true 36 (msC x) 0 = some (.agg (msC x)) := rfl
theorem nf_ms (x : Ms) : nfs [.agg (msC x)] = true := nfs_cons (nfs_ms x) rfl
theorem ans9 (x : Ms) (hx : wfM x) : Ans Try.prog 9 [.agg (msC x)] (.int .i64 (chkM x)) := by
  refine Snd_of_W fol rfl rfl (by kernel_rfl) (by kernel_rfl) ?_
  simp -implicitDefEqProofs only [sims.1, keeps.1, tick_on, calleeK]
  have hlk : [V.ptr 0 0].map (lookV [B.var 37 (msC x)]) = [.ip (msC x)] := by
    show [V.ip ((List.drop 0 (msC x)).map unkV)] = _
    rw [List.drop_zero, map_unk (nfs_ms x)]
  refine callD_look [.ip (msC x)] (ans17 x hx) en17 hlk (nfs_cons (nfs_ms x) rfl) rfl ?_
  cases hR : rightM x
  · simp -implicitDefEqProofs only [sims.1, fx.1, keeps.1, tick_on, Nat.reduceEqDiff]
    exact ans_ret (by simp [chkM, hR])
  · simp -implicitDefEqProofs only [sims.1, fx.1, keeps.1, tick_on, calleeK, Nat.reduceEqDiff, part37]
    refine callD_ans (ans15 hx hR) en15 (nf_ms x) (by simp only [nf, nfs, nf_by, Bool.and_self]) ?_
    cases hF : fits x
    · simp -implicitDefEqProofs only [sims.1, fx.1, keeps.1, tick_on, extractV, Nat.reduceEqDiff]
      exact ans_ret (by simp [chkM, hR, hF])
    · simp -implicitDefEqProofs only [sims.1, fx.1, keeps.1, tick_on, extractV, Nat.reduceEqDiff]
      exact ans_ret (by simp [chkM, hR, hF])
theorem ans7 (x : Ms) (hx : wfM x) : Ans Try.prog 7 [.agg (msC x)] (.tup [byV (encX x), .int .i64 (chkM x)]) := by
  cases e : decide (chkM x = 0)
  · have he : ¬ chkM x = 0 := of_decide_eq_false e
    have hn : encX x = [] := by simp [encX, he]
    rw [hn]
    refine ans_nil (v := .tup [.nils, .int .i64 (chkM x)]) 1 ?_
    refine Snd_of_W fol rfl rfl (by kernel_rfl) (by kernel_rfl) ?_
    have ev : ∀ env, evO env (.const (.slice none 0 0)) = .nils := fun _ => rfl
    simp -implicitDefEqProofs only [sims.1, fx.1, keeps.1, tick_on, calleeK, Nat.reduceEqDiff, part37, ev]
    refine callD_ans (ans9 x hx) en9 (nf_ms x) rfl ?_
    simp -implicitDefEqProofs only [sims.1, fx.1, keeps.1, tick_on, Nat.reduceEqDiff, e, ev]
    exact ans_ret rfl
  · have he : chkM x = 0 := of_decide_eq_true e
    have hR : rightM x = true := by
      cases h : rightM x with
      | true => rfl
      | false => simp [chkM, h] at he
    have hF : fits x = true := by
      cases h : fits x with
      | true => rfl
      | false => simp [chkM, h, hR] at he
    refine Snd_of_W fol rfl rfl (by kernel_rfl) (by kernel_rfl) ?_
    have ev : ∀ env, evO env (.const (.slice none 0 0)) = .nils := fun _ => rfl
    simp -implicitDefEqProofs only [sims.1, fx.1, keeps.1, tick_on, calleeK, Nat.reduceEqDiff, part37, ev]
    refine callD_ans (ans9 x hx) en9 (nf_ms x) rfl ?_
    simp -implicitDefEqProofs only [sims.1, fx.1, keeps.1, tick_on, calleeK, Nat.reduceEqDiff, e, part37]
    refine callD_ans (ans15 hx hR) en15 (nf_ms x) (by simp only [nf, nfs, nf_by, Bool.and_self]) ?_
    simp -implicitDefEqProofs only [sims.1, fx.1, keeps.1, tick_on, extractV, Nat.reduceEqDiff]
    refine ans_ret ?_
    simp [wb, encX, hF, he]
end Go.Proofs.Ytjjenpdjmcmgbaa
namespace Go.Proofs.Ytjjenpdjmcmgbaa
open Go Ab
set_option linter.unusedSimpArgs false
set_option linter.unusedVariables false
set_option maxRecDepth 20000
def bnd : Nat := 10000000000000
/-- The bytes' row stands there. -/
def Bf (m : Mem) (k : Nat) (l : List Nat) : Prop := l ≠ [] → m[k]? = some (rowB l)
/-- All but the bytes' row stays. -/
def Ke (k : Nat) (l : List Nat) (m m' : Mem) : Prop := m.length ≤ m'.length ∧ ∀ n b, (l ≠ [] → n ≠ k) → m[n]? = some b → m'[n]? = some b
def Fr' (m : Mem) (k : Nat) (l : List Nat) (k' : Nat) (l' : List Nat) : Prop := m.length ≤ k' ∨ (k' = k ∧ l' = l)
/-- What comes of a call that puts bytes behind others. -/
def PQ (k : Nat) (m : Mem) (l e : List Nat) (r : CR) : Prop := ∃ m' k', r = .ret (buf k' (l ++ e)) m' ∧ Bf m' k' (l ++ e) ∧ Ke k l m m' ∧ Fr' m k l k' (l ++ e)
theorem Ke.refl (k : Nat) (l : List Nat) (m : Mem) : Ke k l m m := ⟨Nat.le_refl _, fun _ _ _ h => h⟩
theorem Ke.trans {k k' : Nat} {l l' : List Nat} {m m' m'' : Mem} (h : Ke k l m m') (hk : Fr' m k l k' l') (g : Ke k' l' m' m'') : Ke k l m m'' := by
  refine ⟨Nat.le_trans h.1 g.1, fun n b hn hm => g.2 n b (fun hl e => ?_) (h.2 n b hn hm)⟩
  have hlt := (List.getElem?_eq_some_iff.1 hm).1
  rcases hk with hk | ⟨rfl, rfl⟩
  · omega
  · exact hn hl e
theorem Fr'.trans {m m' : Mem} {k k' k'' : Nat} {l l' l'' : List Nat} (hl : m.length ≤ m'.length) (h : Fr' m k l k' l') (g : Fr' m' k' l' k'' l'') : Fr' m k l k'' l'' := by
  rcases g with g | ⟨rfl, rfl⟩
  · exact .inl (by omega)
  · exact h
theorem Ke.app (k : Nat) (l : List Nat) (m ex : Mem) : Ke k l m (m ++ ex) := ⟨by simp, fun n b _ hm => by rw [List.getElem?_append_left (List.getElem?_eq_some_iff.1 hm).1]; exact hm⟩
theorem Bf.app {m : Mem} {k : Nat} {l : List Nat} (h : Bf m k l) (ex : Mem) : Bf (m ++ ex) k l := fun hl => by rw [List.getElem?_append_left (List.getElem?_eq_some_iff.1 (h hl)).1]; exact h hl
/-- A call that puts bytes behind. -/
theorem callD_p {f : FuncId} {vs : List V} {m : Mem} {K Kp : V → Mem → Prop} {k : Nat} {l e : List Nat} (h : Snd Try.prog f vs m (PQ k m l e)) (he : enterable Try.prog f = true) (hr : ∀ k' m1, Bf m1 k' (l ++ e) → Ke k l m m1 → Fr' m k l k' (l ++ e) → K (buf k' (l ++ e)) m1) : callD Try.prog f vs m K Kp := by
  refine callD_q h he ?_ ?_
  · rintro v m1 ⟨m', k', h1, h2, h3, h4⟩
    cases h1; exact hr _ _ h2 h3 h4
  · rintro v m1 ⟨m', k', h1, _⟩
    cases h1
/-- Bytes put behind others. -/
theorem apL {m : Mem} {l new : List Nat} {k : Nat} {x : V} (hx : contV m 1 x = some (new.map byC)) (hm : Bf m k l) (hb : l.length + new.length ≤ bnd) :
    ∃ m' k', appendA Try.prog 34 34 (buf k l) x m = some (buf k' (l ++ new), m') ∧ Bf m' k' (l ++ new) ∧ Ke k l m m' ∧ Fr' m k l k' (l ++ new) ∧ (new ≠ [] → k' = m.length ∧ m'.length = m.length + 1) := by
  unfold bnd at hb
  cases l with
  | nil =>
    cases new with
    | nil => exact ⟨m, k, append_none un34 ze5 isl34 hx, fun h => absurd rfl h, Ke.refl _ _ _, .inr ⟨rfl, rfl⟩, fun h => absurd rfl h⟩
    | cons b r =>
      have h1 := append_nil un34 ze5 isl34 hx (by simp) (by simp at hb ⊢; omega) (by simp at hb ⊢; omega)
      refine ⟨m ++ [rowB (b :: r)], m.length, ?_, fun _ => ?_, Ke.app _ _ _ _, .inl (Nat.le_refl _), fun _ => ⟨rfl, by simp⟩⟩
      · simpa [buf, rowB] using h1
      · simp
  | cons a r =>
    have h1 := append_sl (len := (a :: r).length) un34 ze5 isl34 hx (hm (by simp)) (by simp) (by simp at hb ⊢; omega) (by simp at hb ⊢; omega)
    refine ⟨m.set k .dead ++ [rowB (a :: r ++ new)], m.length, ?_, fun _ => ?_, ⟨by simp, fun n b hn hm => ?_⟩, .inl (Nat.le_refl _), fun _ => ⟨rfl, by simp⟩⟩
    · rw [buf_cons (by simp), buf_cons (by simp), h1]
      simp [rowB]
    · rw [List.getElem?_append_right (by simp)]; simp
    · have hlt := (List.getElem?_eq_some_iff.1 hm).1
      rw [List.getElem?_append_left (by simpa using hlt), List.getElem?_set_ne (fun e => hn (by simp) e.symm)]
      exact hm
def loop32 (x n : Nat) (l : List Nat) (s : Nat × Nat) : List (Nat × V) := [(1, .int .u64 (x : Int)), (7, .int .i64 ((n : Int) - 1 - (s.1 : Int))), (0, buf s.2 (l ++ putB x n s.1))]
/-- The same, where the row is told by its number. -/
def PX (k : Nat) (m : Mem) (l e : List Nat) (k' : Nat) (r : CR) : Prop := ∃ m', r = .ret (buf k' (l ++ e)) m' ∧ Bf m' k' (l ++ e) ∧ Ke k l m m'
set_option maxHeartbeats 1000000 in
theorem snd32x {m : Mem} {k : Nat} {l : List Nat} {x n : Nat} (hm : Bf m k l) (h0 : 0 < n) (hn : n ≤ 8) (hb : l.length + 8 ≤ bnd) : Snd Try.prog 32 [buf k l, .int .u64 (x : Int), .int .i64 (n : Int)] m (PX k m l (enc x n) (m.length + 2 * n - 1)) := by
  refine Snd_of_W fol rfl rfl (by kernel_rfl) (by kernel_rfl) ?_
  have w0 := wz ((n : Int) - 1) (by omega) (by omega)
  simp -implicitDefEqProofs only [sims.1, keeps.1, tick_on, Nat.reduceEqDiff, w0]
  refine W_loopM (loop32 x n l) (fun s M => s.1 ≤ n ∧ Bf M s.2 (l ++ putB x n s.1) ∧ Ke k l m M ∧ M.length = m.length + 2 * s.1 ∧ ((s.1 = 0 ∧ s.2 = k) ∨ (0 < s.1 ∧ s.2 = m.length + 2 * s.1 - 1))) (fun s => n + 1 - s.1) (0, k) (Eq.trans (b := [(1, .int .u64 (x : Int)), (7, .int .i64 ((n : Int) - 1)), (0, buf k l)]) (by kernel_rfl) (by simp [loop32, putB])) ⟨by omega, by simpa [putB] using hm, Ke.refl _ _ _, rfl, .inl ⟨rfl, rfl⟩⟩ ?_
  rintro ⟨j, k1⟩ M ⟨h1, h2, h3, h5, h6⟩
  simp only at h1 h2 h3 h5 h6
  have h4 : Fr' m k l k1 (l ++ putB x n j) := by
    rcases h6 with h6 | h6
    · exact .inr ⟨h6.2, by rw [h6.1]; simp [putB]⟩
    · exact .inl (by omega)
  rcases Nat.lt_or_ge j n with hj | hj
  · have hidx : (n : Int) - 1 - (j : Int) = ((n - 1 - j : Nat) : Int) := by omega
    have w1 := wz (8 * ((n - 1 - j : Nat) : Int)) (by omega) (by omega)
    have e1 : 8 * ((n - 1 - j : Nat) : Int) = ((8 * (n - 1 - j) : Nat) : Int) := by omega
    have w2 := wrapU (8 * (n - 1 - j)) (by omega)
    have s1 := shrW x (8 * (n - 1 - j)) (by omega)
    have n1 : ¬ (((8 * (n - 1 - j) : Nat) : Int) < 0) := by omega
    have w3 := wz8 (x / 2 ^ (8 * (n - 1 - j)))
    have w4 := wz (((n - 1 - j : Nat) : Int) - 1) (by omega) (by omega)
    have e4 : ((n - 1 - j : Nat) : Int) - 1 = (n : Int) - 1 - ((j + 1 : Nat) : Int) := by omega
    rw [e1] at w1
    have w5 := w4.trans e4
    clear w4 e4
    simp -implicitDefEqProofs only [sims.1, fx.1, keeps.1, tick_on, b_shr, Nat.reduceEqDiff, loop32, hidx, geI, e1, w1, w2, n1, Int.toNat_natCast, s1, w3, bs34]
    obtain ⟨m', k', a1, a2, a3, a4, a5⟩ := apL (m := M ++ [rowB [x / 2 ^ (8 * (n - 1 - j)) % 256]]) (new := [x / 2 ^ (8 * (n - 1 - j)) % 256]) (x := .sl 1 M.length 0 1) (show contV _ 1 (.sl 1 M.length 0 [x / 2 ^ (8 * (n - 1 - j)) % 256].length) = _ from cont_r (by simp)) (h2.app _) (by rw [List.length_append, putB_len]; simp; omega)
    rw [a1]
    obtain ⟨a5, a6⟩ := a5 (by simp)
    simp only [List.length_append, List.length_cons, List.length_nil] at a5 a6
    simp -implicitDefEqProofs only [sims.1, keeps.1, tick_on, Nat.reduceEqDiff, w5]
    refine ⟨(j + 1, k'), ?_, ⟨by simp only; omega, ?_, ?_, by simp only; omega, .inr ⟨by simp only; omega, by simp only; omega⟩⟩, by simp only; omega⟩
    · rw [show loop32 x n l (j + 1, k') = [(1, .int .u64 (x : Int)), (7, .int .i64 ((n : Int) - 1 - ((j + 1 : Nat) : Int))), (0, buf k' (l ++ putB x n j ++ [x / 2 ^ (8 * (n - 1 - j)) % 256]))] from by simp only [loop32, putB_snoc, List.append_assoc]]
      kernel_rfl
    · show Bf m' k' (l ++ putB x n (j + 1))
      rw [putB_snoc, ← List.append_assoc]
      exact a2
    · exact (h3.trans h4 (Ke.app k1 _ M _)).trans h4 a3
  · obtain rfl : j = n := by omega
    have hidx : (j : Int) - 1 - (j : Int) = -1 := by omega
    have c1 : decide ((0 : Int) ≤ -1) = false := rfl
    simp -implicitDefEqProofs only [sims.1, fx.1, keeps.1, tick_on, Nat.reduceEqDiff, Int.reduceLE, loop32, hidx]
    obtain rfl : k1 = m.length + 2 * j - 1 := by omega
    exact ⟨M, rfl, h2, h3⟩
theorem snd32 {m : Mem} {k : Nat} {l : List Nat} {x n : Nat} (hm : Bf m k l) (h0 : 0 < n) (hn : n ≤ 8) (hb : l.length + 8 ≤ bnd) : Snd Try.prog 32 [buf k l, .int .u64 (x : Int), .int .i64 (n : Int)] m (PQ k m l (enc x n)) :=
  (snd32x hm h0 hn hb).mono fun r ⟨m', h1, h2, h3⟩ => ⟨m', _, h1, h2, h3, .inl (by omega)⟩
end Go.Proofs.Ytjjenpdjmcmgbaa
namespace Go.Proofs.Ytjjenpdjmcmgbaa
open Go Ab
set_option linter.unusedSimpArgs false
set_option linter.unusedVariables false
set_option maxRecDepth 20000
theorem ans35 (b : Bool) : Ans Try.prog 35 [.bool b] (.int .u64 (b01 b : Int)) := by
  refine Snd_of_W fol rfl rfl (by kernel_rfl) (by kernel_rfl) ?_
  cases b
  all_goals
    simp -implicitDefEqProofs only [sims.1, fx.1, keeps.1, tick_on, Nat.reduceEqDiff]
    exact ans_ret rfl
theorem ans61 (j : Nat) (h : j < 11) : Ans Try.prog 61 [.int .i8 (j : Int)] (.int .i64 (sz j : Int)) := by
  refine Snd_of_W fol rfl rfl (by kernel_rfl) (by kernel_rfl) ?_
  simp -implicitDefEqProofs only [sims.1, keeps.1, tick_on, calleeK, Nat.reduceEqDiff]
  refine callD_ans (ans74 j h) en74 rfl rfl ?_
  have q1 := szq h
  simp -implicitDefEqProofs only [sims.1, fx.1, keeps.1, tick_on, Nat.reduceEqDiff, Int.reduceEq, q1]
  exact ans_ret rfl
theorem po0 (y : Nat) : (poC y)[0]? = some (.int .u16 (y : Int)) := rfl
def loop33 (xs l : List Nat) (s : Nat × Nat) : List (Nat × V) := [(1, poV xs), (5, .int .i64 (s.1 : Int)), (0, buf s.2 (l ++ (enc xs.length 2 ++ (xs.take s.1).flatMap fun x => enc x 2)))]
theorem encP_len (xs : List Nat) : (encP xs).length = 2 + 2 * xs.length := by
  have : ∀ l : List Nat, (l.flatMap fun x => enc x 2).length = 2 * l.length := by
    intro l
    induction l with
    | nil => rfl
    | cons a r ih => simp only [List.flatMap_cons, List.length_append, enc_len, ih, List.length_cons]; omega
  rw [encP, List.length_append, enc_len, this]
set_option maxHeartbeats 1000000 in
theorem snd33 {m : Mem} {k : Nat} {l xs : List Nat} (hm : Bf m k l) (hx : xs.length < lim ∧ ∀ p ∈ xs, p < 65536) (hb : l.length + (encP xs).length + 8 ≤ bnd) : Snd Try.prog 33 [buf k l, poV xs] m (PQ k m l (encP xs)) := by
  refine Snd_of_W fol rfl rfl (by kernel_rfl) (by kernel_rfl) ?_
  have hxl : xs.length < 281474976710656 := hx.1
  have w0 := wrapU xs.length (by omega)
  have ln : ∀ M, lenV Try.prog M 33 (poV xs) = some (.int .i64 (xs.length : Int)) := fun M => by unfold poV; rw [lni33, List.length_map]
  rw [encP_len] at hb
  simp -implicitDefEqProofs only [sims.1, fx.1, keeps.1, tick_on, calleeK, Nat.reduceEqDiff, ln, w0]
  refine callD_p (snd32 (n := 2) hm (by omega) (by omega) (by omega)) en32 ?_
  intro k1 m1 b1 e1 f1
  simp -implicitDefEqProofs only [sims.1, keeps.1, tick_on, Nat.reduceEqDiff]
  refine W_loopM (loop33 xs l) (fun s M => s.1 ≤ xs.length ∧ Bf M s.2 (l ++ (enc xs.length 2 ++ (xs.take s.1).flatMap fun x => enc x 2)) ∧ Ke k l m M ∧ Fr' m k l s.2 (l ++ (enc xs.length 2 ++ (xs.take s.1).flatMap fun x => enc x 2))) (fun s => xs.length + 1 - s.1) (0, k1) (Eq.trans (b := [(1, poV xs), (5, .int .i64 0), (0, buf k1 (l ++ enc xs.length 2))]) (by kernel_rfl) (by simp [loop33])) ⟨by simp, by simpa using b1, e1, by simpa using f1⟩ ?_
  rintro ⟨j, k2⟩ M ⟨h1, h2, h3, h4⟩
  simp only at h1 h2 h3 h4
  rcases Nat.lt_or_ge j xs.length with hj | hj
  · have c1 : decide (j < xs.length) = true := by simpa using hj
    have w1 := add1N j (by omega)
    have hxj := hx.2 _ (List.getElem_mem hj)
    have w2 := wrapU xs[j] (by omega)
    have ia : ∀ {kk : IntKind}, iaddrS 1 (poV xs) (.int kk (j : Int)) = some (.ip (poC xs[j])) := fun {kk} => iaddrS_isl (by simp [hj])
    simp -implicitDefEqProofs only [sims.1, fx.1, keeps.1, tick_on, calleeK, Nat.reduceEqDiff, loop33, ltNat, c1, ln, ia, po0, w2]
    have hfl := flat_le (g := fun x => enc x 2) xs j
    have htot : (xs.flatMap fun x => enc x 2).length = 2 * xs.length := by have := encP_len xs; rw [encP, List.length_append, enc_len] at this; omega
    refine callD_p (snd32 (n := 2) h2 (by omega) (by omega) (by simp only [List.length_append, enc_len]; omega)) en32 ?_
    intro k3 m3 b3 e3 f3
    simp -implicitDefEqProofs only [sims.1, keeps.1, tick_on, Nat.reduceEqDiff, w1]
    have hn : l ++ (enc xs.length 2 ++ (xs.take j).flatMap fun x => enc x 2) ++ enc xs[j] 2 = l ++ (enc xs.length 2 ++ (xs.take (j + 1)).flatMap fun x => enc x 2) := by rw [flat_take hj]; simp only [List.append_assoc]
    rw [hn] at b3 f3 ⊢
    exact ⟨(j + 1, k3), by kernel_rfl, ⟨hj, b3, h3.trans h4 e3, Fr'.trans h3.1 h4 f3⟩, by simp only; omega⟩
  · obtain rfl : j = xs.length := by omega
    have c1 : decide (xs.length < xs.length) = false := by simp
    simp -implicitDefEqProofs only [sims.1, fx.1, keeps.1, tick_on, Nat.reduceEqDiff, loop33, ltNat, c1, ln]
    rw [List.take_length] at h2 h4 ⊢
    exact ⟨M, k2, rfl, h2, h3, h4⟩
theorem mC_at' (w : Nat → Nat) {j : Nat} (h : j < 22) : (mC w)[j]? = some (.int .u64 (w j : Int)) := cl_get h
def loop63a (w : Nat → Nat) (k n : Nat) (l : List Nat) (j : Nat) : List (Nat × V) := [(6, .int .i64 (j : Int)), (0, buf k l), (5, .int .u64 (bitsN w j : Int)), (3, .ptr n 0)]
def loop63b (w : Nat → Nat) (n : Nat) (l : List Nat) (s : Nat × Nat) : List (Nat × V) := [(3, .ptr n 0), (7, .int .i8 (s.1 : Int)), (0, buf s.2 (l ++ (enc (bitsN w 11) 2 ++ (List.range s.1).flatMap (encF w))))]
theorem encF_len (w : Nat → Nat) {f : Nat} (h : f < 11) : (encF w f).length ≤ 12 := by
  obtain ⟨_, h2, _⟩ := sz_ok h
  unfold encF
  split
  · simp
  · rw [List.length_append, enc_len, enc_len]; omega
theorem encFs_len (w : Nat → Nat) : ∀ j, j ≤ 11 → ((List.range j).flatMap (encF w)).length ≤ 12 * j
  | 0, _ => by simp
  | j + 1, h => by
    have h1 := encFs_len w j (by omega)
    have h2 := encF_len w (f := j) (by omega)
    rw [List.range_succ, List.flatMap_append]
    simp only [List.flatMap_cons, List.flatMap_nil, List.append_nil, List.length_append]
    omega
theorem wi8 (j : Nat) (h : j < 11) : IntKind.i8.wrap ((j : Int) + 1) = ((j + 1 : Nat) : Int) := by simp [IntKind.wrap, IntKind.bits, IntKind.signed]; omega
/-- The states of memory beside one number put behind. -/
def JP (m : Mem) (k k' : Nat) (l e : List Nat) : Nat → Mem → Prop
  | 0, M => M = m
  | 1, M => M = m
  | _ + 2, M => Bf M k' (l ++ e) ∧ Ke k l m M
theorem JP0 {m : Mem} {k k' : Nat} {l e : List Nat} {i : Nat} {M : Mem} (h : JP m k k' l e i M) (hi : i ≤ 1) : M = m := by
  match i, hi with
  | 0, _ => exact h
  | 1, _ => exact h
end Go.Proofs.Ytjjenpdjmcmgbaa
namespace Go.Proofs.Ytjjenpdjmcmgbaa
open Go Ab
set_option linter.unusedSimpArgs false
set_option linter.unusedVariables false
set_option maxRecDepth 20000
theorem Ke.var {k : Nat} {l : List Nat} {m m' : Mem} {n ty : Nat} {c : List V} (h : Ke k l m m') (hb : Bf m k l) (hm : m[n]? = some (.var ty c)) : m'[n]? = some (.var ty c) :=
  h.2 n _ (fun hl e => by rw [e, hb hl] at hm; cases hm) hm
theorem lt11i (j : Nat) : decide ((j : Int) < 11) = decide (j < 11) := by rw [Bool.eq_iff_iff]; simp; omega
set_option maxHeartbeats 4000000 in
theorem snd63 {m : Mem} {k : Nat} {l : List Nat} {w : Nat → Nat} (hm : Bf m k l) (hw : U64 22 w) (hb : l.length + 200 ≤ bnd) : Snd Try.prog 63 [buf k l, .agg (mC w)] m (PQ k m l (encM w)) := by
  refine Snd_of_W fol rfl rfl (by kernel_rfl) (by kernel_rfl) ?_
  simp -implicitDefEqProofs only [sims.1, keeps.1, tick_on]
  refine W_loopM (loop63a w k m.length l) (fun j M => j ≤ 11 ∧ M = m ++ [.var 28 (mC w)]) (fun j => 12 - j) 0 (by kernel_rfl) ⟨by omega, rfl⟩ ?_
  rintro j M ⟨h1, rfl⟩
  rcases Nat.lt_or_ge j 11 with hj | hj
  · have c1 : decide (j < 11) = true := by simpa using hj
    have c2 := eqC0 (w (11 + j))
    have n1 : ¬ ((j : Int) < 0) := by omega
    have w1 := wrapU j (by omega)
    have w2 := add1N j (by omega)
    have s1 := shl1 j hj
    have o1 := or_bit (bitsN w j) j (bitsN_lt w j) hj
    have a1 : (mC w)[11 + j]? = some (.int .u64 (w (11 + j) : Int)) := mC_at' w (by omega)
    cases e : decide (w (11 + j) = 0)
    · rw [e] at c2
      have e' : ¬ w (11 + j) = 0 := by simpa using e
      simp -implicitDefEqProofs only [sims.1, fx.1, keeps.1, tick_on, faddrK, b_shl, Nat.reduceEqDiff, loop63a, lt11, hj, at_app0, a1, c2, w1, n1, s1, o1, w2, Int.toNat_natCast]
      exact ⟨j + 1, by simp only [bitsN, if_neg e']; kernel_rfl, ⟨by omega, by trivial⟩, by omega⟩
    · rw [e] at c2
      have e' : w (11 + j) = 0 := by simpa using e
      simp -implicitDefEqProofs only [sims.1, fx.1, keeps.1, tick_on, faddrK, Nat.reduceEqDiff, loop63a, lt11, hj, at_app0, a1, c2, w2]
      exact ⟨j + 1, by simp only [bitsN, if_pos e', Nat.add_zero]; kernel_rfl, ⟨by omega, by trivial⟩, by omega⟩
  obtain rfl : j = 11 := by omega
  have c1 : decide ((11 : Int) < 11) = false := rfl
  simp -implicitDefEqProofs only [sims.1, keeps.1, tick_on, calleeK, Nat.reduceEqDiff, Int.reduceLT, loop63a, Int.cast_ofNat_Int]
  refine callD_p (snd32 (n := 2) (hm.app _) (by omega) (by omega) (by omega)) en32 ?_
  intro k1 m1 b1 e1 f1
  have g1 := e1.var (hm.app _) at_app0
  have e1' := (Ke.app k l m [.var 28 (mC w)]).trans (.inr ⟨rfl, rfl⟩) e1
  have f1' : Fr' m k l k1 (l ++ enc (bitsN w 11) 2) := by
    rcases f1 with f1 | f1
    · exact .inl (by simp at f1; omega)
    · exact .inr f1
  simp -implicitDefEqProofs only [sims.1, keeps.1, tick_on, Nat.reduceEqDiff]
  refine W_loopM (loop63b w m.length l) (fun s M => s.1 ≤ 11 ∧ M[m.length]? = some (.var 28 (mC w)) ∧ Bf M s.2 (l ++ (enc (bitsN w 11) 2 ++ (List.range s.1).flatMap (encF w))) ∧ Ke k l m M ∧ Fr' m k l s.2 (l ++ (enc (bitsN w 11) 2 ++ (List.range s.1).flatMap (encF w)))) (fun s => 12 - s.1) (0, k1)
    (Eq.trans (b := [(3, .ptr m.length 0), (7, .int .i8 0), (0, buf k1 (l ++ enc (bitsN w 11) 2))]) (by kernel_rfl) (by simp [loop63b])) ⟨by simp, g1, by simpa using b1, e1', by simpa using f1'⟩ ?_
  rintro ⟨j, k2⟩ M ⟨h1, h2, h3, h4, h5⟩
  simp only at h1 h2 h3 h4 h5
  rcases Nat.lt_or_ge j 11 with hj | hj
  · have c1 : decide (j < 11) = true := by simpa using hj
    have c2 := eqC0 (w (11 + j))
    have w1 := wi8 j hj
    obtain ⟨z1, z2, _⟩ := sz_ok hj
    have hnext : (List.range (j + 1)).flatMap (encF w) = (List.range j).flatMap (encF w) ++ encF w j := by rw [List.range_succ, List.flatMap_append]; simp
    have hle := encFs_len w j (by omega)
    have a0 : (mC w)[j]? = some (.int .u64 (w j : Int)) := mC_at' w (by omega)
    have a1 : (mC w)[11 + j]? = some (.int .u64 (w (11 + j) : Int)) := mC_at' w (by omega)
    by_cases e : w (11 + j) = 0
    · have e' : decide (w (11 + j) = 0) = true := by simpa using e
      rw [e'] at c2
      simp -implicitDefEqProofs only [sims.1, fx.1, keeps.1, tick_on, faddrK, Nat.reduceEqDiff, loop63b, lt11i, hj, h2, a1, c2, w1]
      have hn : (List.range (j + 1)).flatMap (encF w) = (List.range j).flatMap (encF w) := by rw [hnext]; simp [encF, e]
      refine ⟨(j + 1, k2), ?_, ⟨hj, by first | exact h2 | trivial, by simp only [hn]; exact h3, h4, by simp only [hn]; exact h5⟩, by simp only; omega⟩
      simp only [hn]
      kernel_rfl
    · have e' : decide (w (11 + j) = 0) = false := by simpa using e
      rw [e'] at c2
      have hml : m.length < M.length := (List.getElem?_eq_some_iff.1 h2).1
      simp -implicitDefEqProofs only [sims.1, fx.1, keeps.1, tick_on, faddrK, Nat.reduceEqDiff, loop63b, lt11i, hj, h2, a1, c2]
      generalize hL : l ++ (enc (bitsN w 11) 2 ++ (List.range j).flatMap (encF w)) = L at h3 h5 ⊢
      have hLl : L.length ≤ l.length + 134 := by rw [← hL]; simp only [List.length_append, enc_len]; omega
      refine w_callsT (JP M k2 (M.length + 2 * sz j - 1) L (enc (w j) (sz j))) (fun _ _ => False) [6, 7] [0] [buf k2 L, .int .i8 (j : Int), .ptr m.length 0, .ptr m.length (0 + j * 1), .int .u64 (w j : Int), .int .i8 (j : Int), .int .i64 (sz j : Int), buf (M.length + 2 * sz j - 1) (L ++ enc (w j) (sz j)), buf (M.length + 2 * sz j - 1) (L ++ enc (w j) (sz j))] (by kernel_rfl) rfl ?_ ?_ (fun _ _ h => h.elim)
      · refine okN_pure rfl rfl rfl (fun _ _ _ => by kernel_rfl) ?_
        refine okN_pure rfl rfl rfl (fun _ _ _ => by kernel_rfl) ?_
        refine okN_pure rfl rfl rfl (fun _ _ _ => by kernel_rfl) ?_
        refine okN_pure rfl rfl rfl (fun _ M' _ => by
          show Option.map (Res.val · M') (iaddrV Try.prog 26 (.ptr m.length 0) (.int .i8 (j : Int))) = _
          rw [ia26, iaddrA_nat hj]
          rfl) ?_
        refine okN_early 1 rfl rfl rfl rfl (fun i M' hi h => by
          show Option.map (Res.val · M') (loadV Try.prog M' 24 (.ptr m.length (0 + j * 1))) = _
          rw [JP0 h hi, ld24, loadK_ptr, h2]
          simp only [Option.bind_some, partK_one, Nat.zero_add, Nat.mul_one, a0, Option.map_some]) ?_
        refine okN_pure rfl rfl rfl (fun _ _ _ => by kernel_rfl) ?_
        refine okN_call rfl (show calleeV (evO _) _ = some (61, [.int .i8 (j : Int)]) by kernel_rfl) rfl rfl (fun M' h => ?_) ?_
        · exact callD_ans (ans61 j hj) en61 rfl rfl ⟨rfl, h⟩
        refine okN_call rfl (show calleeV (evO _) _ = some (32, [buf k2 L, .int .u64 (w j : Int), .int .i64 (sz j : Int)]) by kernel_rfl) rfl rfl (fun M' h => ?_) ?_
        · have h : M' = M := h
          subst h
          refine callD_q (snd32x (x := w j) (n := sz j) h3 z1 (by omega) (by omega)) en32 ?_ ?_
          · rintro v M1 ⟨m', q1, q2, q3⟩
            cases q1
            exact ⟨rfl, q2, q3⟩
          · rintro v M1 ⟨m', q1, _⟩
            cases q1
        refine okN_pure rfl rfl rfl (fun _ _ _ => by kernel_rfl) ?_
        exact okN_nil
      rintro M3 ⟨b3, e3⟩
      have g3 := e3.var h3 h2
      have hl3 : M.length ≤ M3.length := e3.1
      simp -implicitDefEqProofs only [sims.1, keeps.1, tick_on, putAll]
      refine w_callsT (JP M3 (M.length + 2 * sz j - 1) (M3.length + 2 * sz j - 1) (L ++ enc (w j) (sz j)) (enc (w (11 + j)) (sz j))) (fun _ _ => False) [6, 7] [0] [buf (M.length + 2 * sz j - 1) (L ++ enc (w j) (sz j)), .int .i8 (j : Int), .ptr m.length 11, .ptr m.length (11 + j * 1), .int .u64 (w (11 + j) : Int), .int .i8 (j : Int), .int .i64 (sz j : Int), buf (M3.length + 2 * sz j - 1) (L ++ enc (w j) (sz j) ++ enc (w (11 + j)) (sz j)), buf (M3.length + 2 * sz j - 1) (L ++ enc (w j) (sz j) ++ enc (w (11 + j)) (sz j))] (by kernel_rfl) rfl ?_ ?_ (fun _ _ h => h.elim)
      · refine okN_pure rfl rfl rfl (fun _ _ _ => by kernel_rfl) ?_
        refine okN_pure rfl rfl rfl (fun _ _ _ => by kernel_rfl) ?_
        refine okN_pure rfl rfl rfl (fun _ _ _ => by kernel_rfl) ?_
        refine okN_pure rfl rfl rfl (fun _ M' _ => by
          show Option.map (Res.val · M') (iaddrV Try.prog 26 (.ptr m.length 11) (.int .i8 (j : Int))) = _
          rw [ia26, iaddrA_nat hj]
          rfl) ?_
        refine okN_early 1 rfl rfl rfl rfl (fun i M' hi h => by
          show Option.map (Res.val · M') (loadV Try.prog M' 24 (.ptr m.length (11 + j * 1))) = _
          rw [JP0 h hi, ld24, loadK_ptr, g3]
          simp only [Option.bind_some, partK_one, Nat.mul_one, a1, Option.map_some]) ?_
        refine okN_pure rfl rfl rfl (fun _ _ _ => by kernel_rfl) ?_
        refine okN_call rfl (show calleeV (evO _) _ = some (61, [.int .i8 (j : Int)]) by kernel_rfl) rfl rfl (fun M' h => ?_) ?_
        · exact callD_ans (ans61 j hj) en61 rfl rfl ⟨rfl, h⟩
        refine okN_call rfl (show calleeV (evO _) _ = some (32, [buf (M.length + 2 * sz j - 1) (L ++ enc (w j) (sz j)), .int .u64 (w (11 + j) : Int), .int .i64 (sz j : Int)]) by kernel_rfl) rfl rfl (fun M' h => ?_) ?_
        · have h : M' = M3 := h
          subst h
          refine callD_q (snd32x (x := w (11 + j)) (n := sz j) b3 z1 (by omega) (by rw [List.length_append, enc_len]; omega)) en32 ?_ ?_
          · rintro v M1 ⟨m', q1, q2, q3⟩
            cases q1
            exact ⟨rfl, q2, q3⟩
          · rintro v M1 ⟨m', q1, _⟩
            cases q1
        refine okN_pure rfl rfl rfl (fun _ _ _ => by kernel_rfl) ?_
        exact okN_nil
      rintro M4 ⟨b4, e4⟩
      have g4 := e4.var b3 g3
      simp -implicitDefEqProofs only [sims.1, keeps.1, tick_on, Nat.reduceEqDiff, putAll, w1]
      have hn : L ++ enc (w j) (sz j) ++ enc (w (11 + j)) (sz j) = l ++ (enc (bitsN w 11) 2 ++ (List.range (j + 1)).flatMap (encF w)) := by rw [hnext, ← hL]; simp [encF, e]
      have f3 : Fr' M k2 L (M.length + 2 * sz j - 1) (L ++ enc (w j) (sz j)) := .inl (by omega)
      have hMl : m.length ≤ M.length := h4.1
      rw [hn] at b4
      refine ⟨(j + 1, M3.length + 2 * sz j - 1), ?_, ⟨hj, by first | exact g4 | trivial, b4, (h4.trans h5 e3).trans (Fr'.trans hMl h5 f3) e4, .inl (by simp only; omega)⟩, by simp only; omega⟩
      simp only [← hn]
      kernel_rfl
  · obtain rfl : j = 11 := by omega
    have c1 : decide ((11 : Int) < 11) = false := rfl
    simp -implicitDefEqProofs only [sims.1, fx.1, keeps.1, tick_on, Nat.reduceEqDiff, Int.reduceLT, loop63b, Int.cast_ofNat_Int]
    exact ⟨M, k2, rfl, h3, h4, h5⟩
end Go.Proofs.Ytjjenpdjmcmgbaa
