/- The reference's check and its writing of a message: the plain laws. No condition. The reference's check and its writing of a message: the calls. No condition. The law on writing. No condition. Any Type's way, read. No condition. What is read is within its bounds. No condition. -/
import Derived.Test.YtjjenpdjmcmgbaaBZt
import Derived.Test.YtjjenpdjmcmgbaaBXm
namespace Go.Proofs.Ytjjenpdjmcmgbaa
open Go Ab
set_option linter.unusedSimpArgs false
set_option linter.unusedVariables false
set_option maxRecDepth 20000
theorem flt_len {α : Type} (f : α → List Nat) (n : Nat) : ∀ {l : List α}, (∀ a ∈ l, (f a).length = n) → (l.flatMap f).length = n * l.length
  | [], _ => by simp
  | a :: r, h => by
    rw [List.flatMap_cons, List.length_append, flt_len f n fun b hb => h b (by simp [hb]), h a (by simp), List.length_cons, Nat.mul_add]
    omega
theorem flt_ge {α : Type} (f : α → List Nat) (n : Nat) : ∀ {l : List α}, (∀ a ∈ l, n ≤ (f a).length) → n * l.length ≤ (l.flatMap f).length
  | [], _ => by simp
  | a :: r, h => by
    have h1 := flt_ge f n fun b (hb : b ∈ r) => h b (by simp [hb])
    have h2 := h a (by simp)
    rw [List.flatMap_cons, List.length_append, List.length_cons, Nat.mul_add]
    omega
theorem flt_mem {α : Type} (f : α → List Nat) : ∀ {l : List α} {a : α}, a ∈ l → (f a).length ≤ (l.flatMap f).length
  | b :: r, a, h => by
    rw [List.flatMap_cons, List.length_append]
    rcases List.mem_cons.1 h with rfl | h
    · omega
    · have := flt_mem f h
      omega
theorem encC_len (c : List Act) : (encC c).length = 2 + 10 * c.length := by
  simp only [encC, List.length_append, enc_len, flt_len encA 10 fun a _ => encA_len a]
theorem only_parts {x : Ms} (h : onlyM x = true) : (zeroR x.r = true ∨ x.ty = 5) ∧ ((x.ports.length = 0 ∧ x.edge.length = 0) ∨ x.ty = 4) ∧ (x.frame.length = 0 ∨ x.ty = 6 ∨ x.ty = 7) ∧ (x.helds.length = 0 ∨ x.ty = 11) := by
  simp only [onlyM, zs, inT, List.all_cons, List.all_nil, Bool.and_true, Bool.and_eq_true, Bool.or_eq_true, decide_eq_true_eq, List.mem_cons, List.not_mem_nil, or_false] at h
  obtain ⟨h1, h2, h3, h4, h5, h6, h7⟩ := h
  exact ⟨h1.elim (fun h => .inl h.2) .inr, h4.elim (fun h => .inl h.2) .inr, h5, h6⟩
theorem body4 {x : Ms} (h : x.ty = 4) : body x = enc x.sw 2 ++ (encP x.ports ++ encP x.edge) := by unfold body; rw [if_pos h]
theorem body5 {x : Ms} (h : x.ty = 5) : body x = enc (i8N x.dd) 1 ++ encR x.r := by unfold body; rw [if_neg (by omega), if_pos h]
theorem body6 {x : Ms} (h : x.ty = 6 ∨ x.ty = 7) : body x = enc x.port 2 ++ encB x.frame := by unfold body; rw [if_neg (by omega), if_neg (by omega), if_pos h]
theorem body11 {x : Ms} (h : x.ty = 11) : body x = enc x.port 2 ++ encHs x.helds := by unfold body; rw [if_neg (by omega), if_neg (by omega), if_neg (by omega), if_pos h]
theorem whole_len (x : Ms) : (whole x).length = 8 + (body x).length := by simp only [whole, head, List.length_append, List.length_cons, List.length_nil, enc_len]
theorem right_if {x : Ms} (hR : chkM x = 0) : rightM x = true ∧ fits x = true := by
  cases h : rightM x with
  | false => simp [chkM, h] at hR
  | true =>
    cases g : fits x with
    | true => exact ⟨rfl, rfl⟩
    | false => simp [chkM, h, g] at hR
theorem right5 {x : Ms} (h : x.ty = 5) (ho : onlyM x = true) : rightM x = (decide (0 ≤ x.dd) && (decide (x.dd ≤ 3) && fairR x.r)) := by
  have h0 : x.helds = [] := List.eq_nil_of_length_eq_zero (by rcases (only_parts ho).2.2.2 with h | h; exact h; omega)
  simp [rightM, isTy, h, ho, h0]
theorem right11 {x : Ms} (h : x.ty = 11) (ho : onlyM x = true) : rightM x = (x.helds.all (fun h => fairR h.r) && decide (x.port ≤ 1)) := by
  simp [rightM, isTy, h, ho]
end Go.Proofs.Ytjjenpdjmcmgbaa
namespace Go.Proofs.Ytjjenpdjmcmgbaa
open Go Ab
set_option linter.unusedSimpArgs false
set_option linter.unusedVariables false
set_option maxRecDepth 20000
theorem part37' (x : Ms) : partK true 36 (msC x) 0 = some (.agg (msC x)) := rfl
end Go.Proofs.Ytjjenpdjmcmgbaa
namespace Go.Proofs.Ytjjenpdjmcmgbaa
open Go Ab
set_option linter.unusedSimpArgs false
set_option linter.unusedVariables false
set_option maxRecDepth 20000
/-- Rows that are not there, told as empty ones, in an argument. -/
inductive Wk : V → V → Prop
  | eq {v : V} : Wk v v
  | nil {s : Nat} : Wk .nils (.isl s [])
inductive Wks : List V → List V → Prop
  | nil : Wks [] []
  | cons {a b : V} {l r : List V} : Wk a b → Wks l r → Wks (a :: l) (b :: r)
section
variable {N : Nat} {ρ : Pl} {I : Nat → Prop} {w : World}
theorem Wk.rv {a b : V} (h : Wk a b) {x : Value} (hx : RV N ρ I w a x) : RV N ρ I w b x := by
  cases h with
  | eq => exact hx
  | nil =>
    simp only [RV] at hx ⊢
    exact ⟨none, 0, by simpa using hx, Nat.le_refl _, by simp⟩
theorem Wks.len : ∀ {l r : List V}, Wks l r → l.length = r.length
  | _, _, .nil => rfl
  | _, _, .cons _ h => by simp [h.len]
theorem Wks.get : ∀ {l r : List V}, Wks l r → ∀ {i : Nat} {b : V}, r[i]? = some b → ∃ a, l[i]? = some a ∧ Wk a b
  | _, _, .cons h _, 0, _, hb => by
    simp only [List.getElem?_cons_zero, Option.some.injEq] at hb ⊢
    subst hb
    exact ⟨_, rfl, h⟩
  | _, _, .cons _ h, i + 1, _, hb => by
    simp only [List.getElem?_cons_succ] at hb ⊢
    exact h.get hb
theorem Wks.agg {l r : List V} (h : Wks l r) {x : Value} (hx : RV N ρ I w (.agg l) x) : RV N ρ I w (.agg r) x := by
  simp only [RV] at hx ⊢
  obtain ⟨c, h1, h2, h3⟩ := hx
  refine ⟨c, h1, by rw [← h.len, h2], Rc.mk fun i v hv => ?_⟩
  obtain ⟨a, ha, hk⟩ := h.get hv
  obtain ⟨y, k1, k2, k3⟩ := h3.get i a ha
  refine ⟨y, k1, ?_, hk.rv k3⟩
  cases hk with
  | eq => exact k2
  | nil => exact k2
end
theorem Wks.ans {P : Program} {f : FuncId} {l r : List V} {v : V} (h : Wks l r) (hA : Ans P f [.agg r] v) : Ans P f [.agg l] v := by
  intro ρ I w xs hr hl hrt
  refine hA ρ I w xs hr hl (Rt.mk fun i b hb => ?_)
  cases i with
  | zero =>
    simp only [List.getElem?_cons_zero, Option.some.injEq] at hb
    subst hb
    obtain ⟨y, k1, k2⟩ := hrt.get 0 _ rfl
    exact ⟨y, k1, h.agg k2⟩
  | succ i => simp at hb
def xW : Ms := ⟨12, 0, 0, ⟨0, fun _ => 0, [], 0⟩, 3, true, 0, [], [], [], [], 0⟩
theorem wfW : wfM xW := by
  constructor <;> first | decide | skip
  · exact ⟨by decide, fun _ _ => by show (0 : Nat) < _; omega, ⟨by decide, fun _ h => by cases h⟩, by decide⟩
  all_goals exact ⟨by decide, fun _ h => by cases h⟩
theorem chkW : chkM xW = 0 := by kernel_rfl
theorem encW : encX xW = [1, 12, 0, 11, 0, 0, 0, 0, 0, 3, 1] := by kernel_rfl
def wC : List V := mkC 12 0 0 zR 3 true 0 .nils .nils .nils .nils 0
theorem wksW : Wks wC (msC xW) := by
  unfold wC mkC zR msC xW ruC
  repeat (first | exact .nil | refine .cons .eq ?_ | refine .cons .nil ?_)
theorem ans7w : Ans Try.prog 7 [.agg wC] (.tup [byV [1, 12, 0, 11, 0, 0, 0, 0, 0, 3, 1], .int .i64 0]) := by
  have := wksW.ans (ans7 xW wfW)
  rwa [chkW, encW] at this
theorem bu37w : buildV Try.prog 37 [(0, .int .i8 12), (4, .int .u16 3), (5, .bool true)] = some (.agg wC) := by kernel_rfl
def zM : List V := mkC 0 0 0 zR 0 false 0 .nils .nils .nils .nils 0
theorem al37z (m : Mem) : allocV Try.prog 37 m = some (.ptr m.length 0, m ++ [.var 37 zM]) := al37 m
theorem rs12 (env : Env) (m : Mem) : resV Try.prog Try.prog.funcs[12] env m = (loadV Try.prog m 37 (env 2)).bind fun v => (loadV Try.prog m 38 (env 3)).bind fun u => some (.tup [v, u]) := by
  have : ∀ (fn : Func), fn.results = #[.cell 2 37, .cell 3 38] → resV Try.prog fn env m = (loadV Try.prog m 37 (env 2)).bind fun v => (loadV Try.prog m 38 (env 3)).bind fun u => some (.tup [v, u]) := by
    intro fn h
    unfold resV
    rw [h]
    simp only [List.mapM_cons, List.mapM_nil, resOne]
    cases loadV Try.prog m 37 (env 2) with
    | none => rfl
    | some v =>
      cases loadV Try.prog m 38 (env 3) with
      | none => rfl
      | some u => rfl
  exact this _ rfl
theorem at_mid {a : Mem} {b c : B} : (a ++ [b, c])[a.length]? = some b := by simp
theorem at_mid2 {a : Mem} {b c : B} : (a ++ [b, c])[a.length + 1]? = some c := by simp
theorem lt38 : decide (((3 : Nat) : Int) < 8) = true := by decide
theorem part37z : partK true 36 zM 0 = some (.agg zM) := rfl
theorem len37z : zM.length = 36 := rfl
theorem zMx : ([.int .i8 0, .int .u32 0, .int .i8 0, .int .i64 0, .int .u64 0, .int .u64 0, .int .u64 0, .int .u64 0, .int .u64 0, .int .u64 0, .int .u64 0, .int .u64 0, .int .u64 0, .int .u64 0, .int .u64 0, .int .u64 0, .int .u64 0, .int .u64 0, .int .u64 0, .int .u64 0, .int .u64 0, .int .u64 0, .int .u64 0, .int .u64 0, .int .u64 0, .int .u64 0, .nils, .int .u64 0, .int .u16 0, .bool false, .int .u16 0, .nils, .nils, .nils, .nils, .int .u16 0] : List V) = zM := rfl
set_option maxHeartbeats 4000000 in
theorem snd12s {m : Mem} {k : Nat} : Snd Try.prog 12 [.sl 1 k 0 3] m fun r => ∃ m1, r = .ret (.tup [.agg zM, .int .i64 51]) (m ++ m1) := by
  refine Snd_of_W fol rfl rfl (by kernel_rfl) (by kernel_rfl) ?_
  simp -implicitDefEqProofs only [sims.1, fx.1, keeps.1, tick_on, calleeK, extractV, oneV, faddrK, nonnil, b_shr, b_shl, fieldK, Nat.reduceAdd, Nat.reduceMul, Nat.reduceSub, Nat.reduceEqDiff, Nat.reduceLT, Nat.reduceLeDiff, Nat.reduceBEq, Nat.reduceBNe, reduceIte, Int.reduceEq, Int.reduceLT, Int.reduceLE, Int.reduceNe, Int.reduceToNat, rs12, al37z]
  refine w_quiet ?_
  simp -implicitDefEqProofs only [sims.1, fx.1, keeps.1, tick_on, calleeK, extractV, oneV, faddrK, nonnil, b_shr, b_shl, fieldK, Nat.reduceAdd, Nat.reduceMul, Nat.reduceSub, Nat.reduceEqDiff, Nat.reduceLT, Nat.reduceLeDiff, Nat.reduceBEq, Nat.reduceBNe, reduceIte, Int.reduceEq, Int.reduceLT, Int.reduceLE, Int.reduceNe, Int.reduceToNat, lns34, lt38]
  simp only [zMx, List.append_assoc, List.cons_append, List.nil_append, List.length_append, List.length_cons, List.length_nil, Nat.zero_add]
  generalize hz : zM = z
  have hl : z.length = 36 := by rw [← hz]; rfl
  have hp : partK true 36 z 0 = some (.agg z) := partK_row hl
  have h0 : ∀ b c : B, (m ++ [b, c])[m.length]? = some b := fun b c => at_mid
  have h1 : ∀ b c : B, (m ++ [b, c])[m.length + 1]? = some c := fun b c => at_mid2
  have s0 : ∀ b c d : B, (m ++ [b, c]).set m.length d = m ++ [d, c] := fun b c d => by simp
  have s1 : ∀ b c d : B, (m ++ [b, c]).set (m.length + 1) d = m ++ [b, d] := fun b c d => by simp
  have sp : splice z 0 z = z := splice_all rfl
  simp -implicitDefEqProofs only [sims.1, fx.1, keeps.1, tick_on, calleeK, extractV, oneV, faddrK, nonnil, b_shr, b_shl, fieldK, Nat.reduceAdd, Nat.reduceMul, Nat.reduceSub, Nat.reduceEqDiff, Nat.reduceLT, Nat.reduceLeDiff, Nat.reduceBEq, Nat.reduceBNe, reduceIte, Int.reduceEq, Int.reduceLT, Int.reduceLE, Int.reduceNe, Int.reduceToNat, rs12, h0, h1, s0, s1, hp, storeK_agg, hl, sp]
  exact ⟨_, rfl⟩
theorem numsBy : ∀ l : List Nat, numsV (l.map byC) = some (l.map fun n : Nat => (n : Int))
  | [] => rfl
  | a :: r => by simp only [List.map_cons, byC, numsV, numsBy r, Option.map_some]
theorem strBy (l : List Nat) : convV Try.prog 34 9 (byV l) = some (.str (strOfNums (l.map fun n : Nat => (n : Int)))) := by
  unfold byV
  rw [cvi34_9, numsBy]
  rfl
theorem strByM (m : Mem) (l : List Nat) : convM Try.prog m 34 9 (byV l) = some (.str (strOfNums (l.map fun n : Nat => (n : Int)))) := strBy l
theorem strEq (a b : ByteArray) : binV Try.prog .eql 9 (.str a) (.str b) = some (.bool (a.toList == b.toList)) := rfl
set_option maxHeartbeats 4000000 in
theorem ans11 : Ans Try.prog 11 [] (.bool true) := by
  refine Snd_of_W fol rfl rfl (by kernel_rfl) (by kernel_rfl) ?_
  simp -implicitDefEqProofs only [sims.1, fx.1, keeps.1, tick_on, calleeK, extractV, oneV, faddrK, nonnil, b_shr, b_shl, fieldK, Nat.reduceAdd, Nat.reduceMul, Nat.reduceSub, Nat.reduceEqDiff, Nat.reduceLT, Nat.reduceLeDiff, Nat.reduceBEq, Nat.reduceBNe, reduceIte, Int.reduceEq, Int.reduceLT, Int.reduceLE, Int.reduceNe, Int.reduceToNat, bu37w, al37z]
  refine callD_ans ans7w en7 rfl rfl ?_
  simp -implicitDefEqProofs only [sims.1, fx.1, keeps.1, tick_on, calleeK, extractV, oneV, faddrK, nonnil, b_shr, b_shl, fieldK, Nat.reduceAdd, Nat.reduceMul, Nat.reduceSub, Nat.reduceEqDiff, Nat.reduceLT, Nat.reduceLeDiff, Nat.reduceBEq, Nat.reduceBNe, reduceIte, Int.reduceEq, Int.reduceLT, Int.reduceLE, Int.reduceNe, Int.reduceToNat, bs120, al37z]
  refine callD_allQ snd12s en12 ?_
  rintro r ⟨m1, rfl⟩
  refine ⟨_, _, rfl, ?_⟩
  simp -implicitDefEqProofs only [sims.1, fx.1, keeps.1, tick_on, calleeK, extractV, oneV, faddrK, nonnil, b_shr, b_shl, fieldK, Nat.reduceAdd, Nat.reduceMul, Nat.reduceSub, Nat.reduceEqDiff, Nat.reduceLT, Nat.reduceLeDiff, Nat.reduceBEq, Nat.reduceBNe, reduceIte, Int.reduceEq, Int.reduceLT, Int.reduceLE, Int.reduceNe, Int.reduceToNat, al37z, at_mid, at_mid2, storeK_agg, splice_all, len37z, strBy]
  simp only [zMx]
  generalize hz : zM = z
  have hl : z.length = 36 := by rw [← hz]; rfl
  have sp : splice z 0 z = z := splice_all rfl
  have h0 : ∀ b : B, (m1 ++ [b])[m1.length]? = some b := fun b => by simp
  have s0 : ∀ b d : B, (m1 ++ [b]).set m1.length d = m1 ++ [d] := fun b d => by simp
  have e8 : ((strOfNums (([1, 12, 0, 11, 0, 0, 0, 0, 0, 3, 1] : List Nat).map fun n : Nat => (n : Int))).toList == ({ data := #[1, 12, 0, 11, 0, 0, 0, 0, 0, 3, 1] } : ByteArray).toList) = true := by kernel_rfl
  simp only [List.map_cons, List.map_nil] at e8
  simp -implicitDefEqProofs only [sims.1, fx.1, keeps.1, tick_on, calleeK, extractV, oneV, faddrK, nonnil, b_shr, b_shl, fieldK, Nat.reduceAdd, Nat.reduceMul, Nat.reduceSub, Nat.reduceEqDiff, Nat.reduceLT, Nat.reduceLeDiff, Nat.reduceBEq, Nat.reduceBNe, reduceIte, Int.reduceEq, Int.reduceLT, Int.reduceLE, Int.reduceNe, Int.reduceToNat, h0, s0, hl, sp, strByM, strEq, e8, Nat.le_refl]
  exact ans_ret rfl
end Go.Proofs.Ytjjenpdjmcmgbaa
namespace Go.Proofs.Ytjjenpdjmcmgbaa
open Go Ab
set_option linter.unusedSimpArgs false
set_option linter.unusedVariables false
set_option maxRecDepth 20000
def e0 (t : Int) (i : Nat) : Ms := ⟨t, i, 0, ⟨0, w0, [], 0⟩, 0, false, 0, [], [], [], [], 0⟩
/-- A message's parser behind its head. -/
def rdBody (t : Int) (i : Nat) (rest : List Nat) : Option (Ms × List Nat) :=
  if t = 4 then (rdN 2 rest).bind fun a => (rdP a.2).bind fun b => (rdP b.2).map fun d => ({ e0 t i with sw := a.1, ports := b.1, edge := d.1 }, d.2)
  else if t = 5 then (rdN 1 rest).bind fun a => (rdR a.2).map fun r => ({ e0 t i with dd := IntKind.i8.wrap (a.1 : Int), r := r.1 }, r.2)
  else if t = 6 ∨ t = 7 then (rdN 2 rest).bind fun a => (rdB a.2).map fun b => ({ e0 t i with port := a.1, frame := b.1 }, b.2)
  else if t = 11 then (rdN 2 rest).bind fun a => (rdHs a.2).map fun b => ({ e0 t i with port := a.1, helds := b.1 }, b.2)
  else if t = 12 then (rdN 2 rest).bind fun a => (rdFl a.2).map fun b => ({ e0 t i with port := a.1, up := b.1 }, b.2)
  else if t = 13 then (rdN 2 rest).map fun a => ({ e0 t i with code := a.1 }, a.2)
  else some (e0 t i, rest)
/-- A message's cells with these rows. -/
def msK (L P E F H : V) (x : Ms) : List V := .int .i8 x.ty :: .int .u32 (x.id : Int) :: .int .i8 x.dd :: (rk4 x.r.rank x.r.w L x.r.ck ++ [.int .u16 (x.port : Int), .bool x.up, .int .u16 (x.sw : Int), P, E, F, H, .int .u16 (x.code : Int)])
theorem msK_C (x : Ms) : msK (cpsV x.r.l) (poV x.ports) (poV x.edge) (byV x.frame) (hesV x.helds) x = msC x := rfl
theorem K26 {L P E F H L' : V} {x : Ms} : (msK L P E F H x).set 26 L' = msK L' P E F H x := rfl
theorem K31 {L P E F H P' : V} {x : Ms} : (msK L P E F H x).set 31 P' = msK L P' E F H x := rfl
theorem K32 {L P E F H E' : V} {x : Ms} : (msK L P E F H x).set 32 E' = msK L P E' F H x := rfl
theorem K33 {L P E F H F' : V} {x : Ms} : (msK L P E F H x).set 33 F' = msK L P E F' H x := rfl
theorem K34 {L P E F H H' : V} {x : Ms} : (msK L P E F H x).set 34 H' = msK L P E F H' x := rfl
section
variable {f : FuncId} {vs : List V} {m : Mem} {c q ty : Nat} {l : List V} {p : Option (Ms × List Nat)}
theorem nil26 (hqc : q ≠ c) {P E F H : Ms → V} (h : Snd Try.prog f vs m (RQ c q ty l m (p.map fun x => (msK .nils (P x.1) (E x.1) (F x.1) (H x.1) x.1, x.2)))) : Snd Try.prog f vs m (RQ c q ty l m (p.map fun x => (msK (.isl 1 []) (P x.1) (E x.1) (F x.1) (H x.1) x.1, x.2))) := by
  have := RQ_nil 26 1 hqc h (fun t e => by obtain ⟨a, _, rfl⟩ := map_some' e; rfl)
  simpa only [Option.map_map, Function.comp_def, K26] using this
theorem nil31 (hqc : q ≠ c) {L E F H : Ms → V} (h : Snd Try.prog f vs m (RQ c q ty l m (p.map fun x => (msK (L x.1) .nils (E x.1) (F x.1) (H x.1) x.1, x.2)))) : Snd Try.prog f vs m (RQ c q ty l m (p.map fun x => (msK (L x.1) (.isl 1 []) (E x.1) (F x.1) (H x.1) x.1, x.2))) := by
  have := RQ_nil 31 1 hqc h (fun t e => by obtain ⟨a, _, rfl⟩ := map_some' e; rfl)
  simpa only [Option.map_map, Function.comp_def, K31] using this
theorem nil32 (hqc : q ≠ c) {L P F H : Ms → V} (h : Snd Try.prog f vs m (RQ c q ty l m (p.map fun x => (msK (L x.1) (P x.1) .nils (F x.1) (H x.1) x.1, x.2)))) : Snd Try.prog f vs m (RQ c q ty l m (p.map fun x => (msK (L x.1) (P x.1) (.isl 1 []) (F x.1) (H x.1) x.1, x.2))) := by
  have := RQ_nil 32 1 hqc h (fun t e => by obtain ⟨a, _, rfl⟩ := map_some' e; rfl)
  simpa only [Option.map_map, Function.comp_def, K32] using this
theorem nil33 (hqc : q ≠ c) {L P E H : Ms → V} (h : Snd Try.prog f vs m (RQ c q ty l m (p.map fun x => (msK (L x.1) (P x.1) (E x.1) .nils (H x.1) x.1, x.2)))) : Snd Try.prog f vs m (RQ c q ty l m (p.map fun x => (msK (L x.1) (P x.1) (E x.1) (.isl 1 []) (H x.1) x.1, x.2))) := by
  have := RQ_nil 33 1 hqc h (fun t e => by obtain ⟨a, _, rfl⟩ := map_some' e; rfl)
  simpa only [Option.map_map, Function.comp_def, K33] using this
theorem nil34 (hqc : q ≠ c) {L P E F : Ms → V} (h : Snd Try.prog f vs m (RQ c q ty l m (p.map fun x => (msK (L x.1) (P x.1) (E x.1) (F x.1) .nils x.1, x.2)))) : Snd Try.prog f vs m (RQ c q ty l m (p.map fun x => (msK (L x.1) (P x.1) (E x.1) (F x.1) (.isl 27 []) x.1, x.2))) := by
  have := RQ_nil 34 27 hqc h (fun t e => by obtain ⟨a, _, rfl⟩ := map_some' e; rfl)
  simpa only [Option.map_map, Function.comp_def, K34] using this
end
theorem snd_eq {f : FuncId} {vs : List V} {m : Mem} {c q ty : Nat} {l : List V} {p p' : Option (List V × List Nat)} (h : Snd Try.prog f vs m (RQ c q ty l m p)) (e : p = p') : Snd Try.prog f vs m (RQ c q ty l m p') := e ▸ h
theorem go_read {t : Int} (ht : isTy t = true) (a b : Nat) : ∃ f caps, goV t a b = .fn f [] caps ∧ enterable Try.prog f = true ∧
    ∀ {m : Mem} {c q i : Nat} {rest : List Nat}, Cr m c rest → Byt rest → m[q]? = some (.var 37 (mzR t i)) → q ≠ c → b ≠ c → b ≠ q → m[a]? = some (.var 64 [.fn 41 [] []]) → m[b]? = some (.var 105 [.fn 43 [] []]) →
      Snd Try.prog f ([.ptr c 0, .ptr q 0] ++ caps) m (RQ c q 37 (mzR t i) m ((rdBody t i rest).map fun x => (msC x.1, x.2))) := by
  unfold goV
  by_cases h4 : t = 4
  · rw [if_pos h4]
    refine ⟨_, _, rfl, en50, fun {m c q i rest} hc hB hq hqc hbc hbq ha hb => ?_⟩
    have h := snd_eq (snd50r hc hB hb hbc hbq hq hqc) (p' := (rdBody t i rest).map fun x => (msK .nils (poV x.1.ports) (poV x.1.edge) .nils .nils x.1, x.2)) (by
      unfold rdBody
      rw [if_pos h4]
      cases rdN 2 rest with
      | none => rfl
      | some a =>
        show (rdP a.2).bind _ = _
        cases h : rdP a.2 with
        | none => simp only [Option.bind_some, Option.bind_none, Option.map_none, h]
        | some b =>
          simp only [Option.bind_some, h]
          cases rdP b.2 with
          | none => rfl
          | some d => rfl)
    have h := nil34 hqc (L := fun _ => .nils) (P := fun x => poV x.ports) (E := fun x => poV x.edge) (F := fun _ => .nils) h
    have h := nil33 hqc (L := fun _ => .nils) (P := fun x => poV x.ports) (E := fun x => poV x.edge) (H := fun _ => .isl 27 []) h
    have h := nil26 hqc (P := fun x => poV x.ports) (E := fun x => poV x.edge) (F := fun _ => .isl 1 []) (H := fun _ => .isl 27 []) h
    refine snd_eq h ?_
    unfold rdBody
    rw [if_pos h4]
    cases rdN 2 rest with
    | none => rfl
    | some a =>
      simp only [Option.bind_some]
      cases rdP a.2 with
      | none => rfl
      | some b =>
        simp only [Option.bind_some]
        cases rdP b.2 with
        | none => rfl
        | some d => rfl
  rw [if_neg h4]
  by_cases h5 : t = 5
  · rw [if_pos h5]
    refine ⟨_, _, rfl, en51, fun {m c q i rest} hc hB hq hqc hbc hbq ha hb => ?_⟩
    have h := snd_eq (snd51r hc hB hq hqc) (p' := (rdBody t i rest).map fun x => (msK (cpsV x.1.r.l) .nils .nils .nils .nils x.1, x.2)) (by
      unfold rdBody
      rw [if_neg h4, if_pos h5]
      cases rdN 1 rest with
      | none => rfl
      | some a =>
        simp only [Option.bind_some]
        cases rdR a.2 with
        | none => rfl
        | some b => rfl)
    have h := nil34 hqc (L := fun x => cpsV x.r.l) (P := fun _ => .nils) (E := fun _ => .nils) (F := fun _ => .nils) h
    have h := nil33 hqc (L := fun x => cpsV x.r.l) (P := fun _ => .nils) (E := fun _ => .nils) (H := fun _ => .isl 27 []) h
    have h := nil32 hqc (L := fun x => cpsV x.r.l) (P := fun _ => .nils) (F := fun _ => .isl 1 []) (H := fun _ => .isl 27 []) h
    have h := nil31 hqc (L := fun x => cpsV x.r.l) (E := fun _ => .isl 1 []) (F := fun _ => .isl 1 []) (H := fun _ => .isl 27 []) h
    refine snd_eq h ?_
    unfold rdBody
    rw [if_neg h4, if_pos h5]
    cases rdN 1 rest with
    | none => rfl
    | some a =>
      simp only [Option.bind_some]
      cases rdR a.2 with
      | none => rfl
      | some b => rfl
  rw [if_neg h5]
  by_cases h6 : t = 6 ∨ t = 7
  · rw [if_pos h6]
    refine ⟨_, _, rfl, en46, fun {m c q i rest} hc hB hq hqc hbc hbq ha hb => ?_⟩
    have h := snd_eq (snd46r hc hB ha hq hqc) (p' := (rdBody t i rest).map fun x => (msK .nils .nils .nils (byV x.1.frame) .nils x.1, x.2)) (by
      unfold rdBody
      rw [if_neg h4, if_neg h5, if_pos h6]
      cases rdN 2 rest with
      | none => rfl
      | some a =>
        simp only [Option.bind_some]
        cases rdB a.2 with
        | none => rfl
        | some b => rfl)
    have h := nil34 hqc (L := fun _ => .nils) (P := fun _ => .nils) (E := fun _ => .nils) (F := fun x => byV x.frame) h
    have h := nil32 hqc (L := fun _ => .nils) (P := fun _ => .nils) (F := fun x => byV x.frame) (H := fun _ => .isl 27 []) h
    have h := nil31 hqc (L := fun _ => .nils) (E := fun _ => .isl 1 []) (F := fun x => byV x.frame) (H := fun _ => .isl 27 []) h
    have h := nil26 hqc (P := fun _ => .isl 1 []) (E := fun _ => .isl 1 []) (F := fun x => byV x.frame) (H := fun _ => .isl 27 []) h
    refine snd_eq h ?_
    unfold rdBody
    rw [if_neg h4, if_neg h5, if_pos h6]
    cases rdN 2 rest with
    | none => rfl
    | some a =>
      simp only [Option.bind_some]
      cases rdB a.2 with
      | none => rfl
      | some b => rfl
  rw [if_neg h6]
  by_cases h11 : t = 11
  · rw [if_pos h11]
    refine ⟨_, _, rfl, en54, fun {m c q i rest} hc hB hq hqc hbc hbq ha hb => ?_⟩
    have h := snd_eq (snd54r hc hB ha hq hqc) (p' := (rdBody t i rest).map fun x => (msK .nils .nils .nils .nils (hesV x.1.helds) x.1, x.2)) (by
      unfold rdBody
      rw [if_neg h4, if_neg h5, if_neg h6, if_pos h11]
      cases rdN 2 rest with
      | none => rfl
      | some a =>
        simp only [Option.bind_some]
        cases rdHs a.2 with
        | none => rfl
        | some b => rfl)
    have h := nil33 hqc (L := fun _ => .nils) (P := fun _ => .nils) (E := fun _ => .nils) (H := fun x => hesV x.helds) h
    have h := nil32 hqc (L := fun _ => .nils) (P := fun _ => .nils) (F := fun _ => .isl 1 []) (H := fun x => hesV x.helds) h
    have h := nil31 hqc (L := fun _ => .nils) (E := fun _ => .isl 1 []) (F := fun _ => .isl 1 []) (H := fun x => hesV x.helds) h
    have h := nil26 hqc (P := fun _ => .isl 1 []) (E := fun _ => .isl 1 []) (F := fun _ => .isl 1 []) (H := fun x => hesV x.helds) h
    refine snd_eq h ?_
    unfold rdBody
    rw [if_neg h4, if_neg h5, if_neg h6, if_pos h11]
    cases rdN 2 rest with
    | none => rfl
    | some a =>
      simp only [Option.bind_some]
      cases rdHs a.2 with
      | none => rfl
      | some b => rfl
  rw [if_neg h11]
  have rest3 : ∀ {f : FuncId} {vs : List V} {m : Mem} {c q i : Nat} {rest : List Nat}, q ≠ c → (∀ x r, rdBody t i rest = some (x, r) → x.r.l = [] ∧ x.ports = [] ∧ x.edge = [] ∧ x.frame = [] ∧ x.helds = []) → Snd Try.prog f vs m (RQ c q 37 (mzR t i) m ((rdBody t i rest).map fun x => (msK .nils .nils .nils .nils .nils x.1, x.2))) → Snd Try.prog f vs m (RQ c q 37 (mzR t i) m ((rdBody t i rest).map fun x => (msC x.1, x.2))) := by
    intro f vs m c q i rest hqc hx h
    have h := nil34 hqc (L := fun _ => .nils) (P := fun _ => .nils) (E := fun _ => .nils) (F := fun _ => .nils) h
    have h := nil33 hqc (L := fun _ => .nils) (P := fun _ => .nils) (E := fun _ => .nils) (H := fun _ => .isl 27 []) h
    have h := nil32 hqc (L := fun _ => .nils) (P := fun _ => .nils) (F := fun _ => .isl 1 []) (H := fun _ => .isl 27 []) h
    have h := nil31 hqc (L := fun _ => .nils) (E := fun _ => .isl 1 []) (F := fun _ => .isl 1 []) (H := fun _ => .isl 27 []) h
    have h := nil26 hqc (P := fun _ => .isl 1 []) (E := fun _ => .isl 1 []) (F := fun _ => .isl 1 []) (H := fun _ => .isl 27 []) h
    refine snd_eq h ?_
    cases e : rdBody t i rest with
    | none => rfl
    | some x =>
      obtain ⟨h1, h2, h3, h4, h5⟩ := hx x.1 x.2 e
      simp only [Option.map_some, ← msK_C, h1, h2, h3, h4, h5]
      rfl
  by_cases h12 : t = 12
  · rw [if_pos h12]
    have eB : ∀ i rest, rdBody t i rest = (rdN 2 rest).bind fun a => (rdFl a.2).map fun b => ({ e0 t i with port := a.1, up := b.1 }, b.2) := fun i rest => by
      unfold rdBody
      rw [if_neg h4, if_neg h5, if_neg h6, if_neg h11, if_pos h12]
    refine ⟨_, _, rfl, en57, fun {m c q i rest} hc hB hq hqc hbc hbq ha hb => rest3 hqc (fun x r e => ?_) (snd_eq (snd57r hc hB ha hq hqc) ?_)⟩
    · rw [eB] at e
      cases h1 : rdN 2 rest with
      | none => rw [h1] at e; cases e
      | some a =>
        rw [h1] at e
        simp only [Option.bind_some] at e
        obtain ⟨b, _, e⟩ := map_some' e
        cases e
        exact ⟨rfl, rfl, rfl, rfl, rfl⟩
    · rw [eB]
      cases rdN 2 rest with
      | none => rfl
      | some a =>
        simp only [Option.bind_some]
        cases rdFl a.2 with
        | none => rfl
        | some b => rfl
  rw [if_neg h12]
  by_cases h13 : t = 13
  · rw [if_pos h13]
    have eB : ∀ i rest, rdBody t i rest = (rdN 2 rest).map fun a => ({ e0 t i with code := a.1 }, a.2) := fun i rest => by
      unfold rdBody
      rw [if_neg h4, if_neg h5, if_neg h6, if_neg h11, if_neg h12, if_pos h13]
    refine ⟨_, _, rfl, en59, fun {m c q i rest} hc hB hq hqc hbc hbq ha hb => rest3 hqc (fun x r e => ?_) (snd_eq (snd59r hc hB hq hqc mz35) ?_)⟩
    · rw [eB] at e
      obtain ⟨b, _, e⟩ := map_some' e
      cases e
      exact ⟨rfl, rfl, rfl, rfl, rfl⟩
    · rw [eB]
      cases rdN 2 rest with
      | none => rfl
      | some a => rfl
  rw [if_neg h13, if_pos ht]
  have eB : ∀ i rest, rdBody t i rest = some (e0 t i, rest) := fun i rest => by
    unfold rdBody
    rw [if_neg h4, if_neg h5, if_neg h6, if_neg h11, if_neg h12, if_neg h13]
  refine ⟨_, _, rfl, en60, fun {m c q i rest} hc hB hq hqc hbc hbq ha hb => rest3 hqc (fun x r e => ?_) (snd_eq (snd60r hc hq) ?_)⟩
  · rw [eB] at e
    cases e
    exact ⟨rfl, rfl, rfl, rfl, rfl⟩
  · rw [eB]
    rfl
end Go.Proofs.Ytjjenpdjmcmgbaa
namespace Go.Proofs.Ytjjenpdjmcmgbaa
open Go Ab
set_option linter.unusedSimpArgs false
set_option linter.unusedVariables false
set_option maxRecDepth 20000
theorem bind_some' {α β : Type} {p : Option α} {f : α → Option β} {b : β} (e : p.bind f = some b) : ∃ a, p = some a ∧ f a = some b := by
  cases p with
  | none => cases e
  | some a => exact ⟨a, rfl, e⟩
theorem rdN_lt {n : Nat} {rest : List Nat} {p : Nat × List Nat} (h : Byt rest) (e : rdN n rest = some p) : p.1 < 256 ^ n := by
  unfold rdN at e
  split at e
  · cases e; exact beV_lt h.1 n
  · cases e
theorem rdMany_all {α : Type} {pe : List Nat → Option (α × List Nat)} {P : α → Prop} (hP : ∀ r p, Byt r → pe r = some p → Byt p.2 ∧ P p.1) {rest : List Nat} (h : Byt rest) : ∀ {n : Nat} {t : List α × List Nat}, rdMany pe rest n = some t → ∀ a ∈ t.1, P a
  | 0, t, e => by cases e; intro a ha; cases ha
  | n + 1, t, e => by
    simp only [rdMany] at e
    obtain ⟨u, h1, e⟩ := bind_some' e
    obtain ⟨a, h2, rfl⟩ := map_some' e
    intro x hx
    rcases List.mem_append.1 hx with hx | hx
    · exact rdMany_all hP h h1 x hx
    · rw [List.mem_singleton.1 hx]
      exact (hP _ _ (rdMany_byt (fun r p hr he => (hP r p hr he).1) h h1) h2).2
theorem rdL_all {α : Type} {pe : List Nat → Option (α × List Nat)} {P : α → Prop} (hP : ∀ r p, Byt r → pe r = some p → Byt p.2 ∧ P p.1) {rest : List Nat} (h : Byt rest) {t : List α × List Nat} (e : rdL pe rest = some t) : t.1.length < 65536 ∧ ∀ a ∈ t.1, P a := by
  obtain ⟨u, h1, e⟩ := bind_some' e
  have := rdN_lt h h1
  exact ⟨by rw [rdMany_len e]; exact this, rdMany_all hP (rdN_byt h h1) e⟩
theorem i8r (x : Int) : -128 ≤ IntKind.i8.wrap x ∧ IntKind.i8.wrap x < 128 := by simp [IntKind.wrap, IntKind.bits, IntKind.signed]; omega
theorem i32r (x : Int) : -2147483648 ≤ IntKind.i32.wrap x ∧ IntKind.i32.wrap x ≤ 2147483647 := by simp [IntKind.wrap, IntKind.bits, IntKind.signed]; omega
theorem rdAc_wf {rest : List Nat} {p : Act × List Nat} (h : Byt rest) (e : rdAc rest = some p) : wfA p.1 := by
  obtain ⟨a, h1, e⟩ := bind_some' e
  obtain ⟨b, h2, e⟩ := bind_some' e
  obtain ⟨n, h3, rfl⟩ := map_some' e
  exact ⟨i8r _, i8r _, rdN_lt (rdN_byt (rdN_byt h h1) h2) h3⟩
theorem rdC_wf {rest : List Nat} {t : List Act × List Nat} (h : Byt rest) (e : rdL rdAc rest = some t) : wfC t.1 := by
  obtain ⟨h1, h2⟩ := rdL_all (P := wfA) (fun r p hr he => ⟨rdAc_byt hr he, rdAc_wf hr he⟩) h e
  exact ⟨by unfold lim; omega, h2⟩
theorem rdLL_wf {rest : List Nat} {t : List (List Act) × List Nat} (h : Byt rest) (e : rdL (rdL rdAc) rest = some t) : wfL t.1 := by
  obtain ⟨h1, h2⟩ := rdL_all (P := wfC) (fun r p hr he => ⟨rdL_byt (fun _ _ => rdAc_byt) hr he, rdC_wf hr he⟩) h e
  exact ⟨by unfold lim; omega, h2⟩
theorem rdFs_wf {bits : Nat} {rest : List Nat} (h : Byt rest) : ∀ {j : Nat} {t : (Nat → Nat) × List Nat}, j ≤ 11 → rdFs bits rest j = some t → U64 22 t.1
  | 0, t, _, e => by cases e; intro i _; show 0 < _; omega
  | j + 1, t, hj, e => by
    simp only [rdFs] at e
    obtain ⟨u, h1, e⟩ := bind_some' e
    have ih := rdFs_wf h (by omega) h1
    split at e
    · cases e; exact ih
    · obtain ⟨a, h2, e⟩ := bind_some' e
      obtain ⟨b, h3, e⟩ := bind_some' e
      have hu := rdFs_byt h h1
      have l1 := rdN_lt hu h2
      have l2 := rdN_lt (rdN_byt hu h2) h3
      obtain ⟨_, z2, _⟩ := sz_ok (show j < 11 by omega)
      have hp : 256 ^ sz j ≤ 256 ^ 8 := Nat.pow_le_pow_right (by omega) (by omega)
      split at e
      · cases e
      · cases e
        intro i hi
        show updN (updN u.1 j a.1) (11 + j) b.1 i < _
        unfold updN
        have := ih i hi
        split
        · omega
        · split <;> omega
theorem rdM_wf {rest : List Nat} (h : Byt rest) {t : (Nat → Nat) × List Nat} (e : rdM rest = some t) : U64 22 t.1 := by
  obtain ⟨n, h1, e⟩ := bind_some' e
  split at e
  · exact rdFs_wf (rdN_byt h h1) (by omega) e
  · cases e
theorem rdR_wf {rest : List Nat} {p : Ru × List Nat} (h : Byt rest) (e : rdR rest = some p) : wfR p.1 := by
  obtain ⟨a, h1, e⟩ := bind_some' e
  obtain ⟨b, h2, e⟩ := bind_some' e
  obtain ⟨w, h3, e⟩ := bind_some' e
  obtain ⟨t, h4, rfl⟩ := map_some' e
  have b1 := rdN_byt h h1
  have b2 := rdN_byt b1 h2
  have b3 := rdM_byt b2 h3
  have := i32r (a.1 : Int)
  exact ⟨⟨by show _ ≤ IntKind.i32.wrap (a.1 : Int); omega, by show IntKind.i32.wrap (a.1 : Int) < _; omega⟩, rdM_wf b2 h3, rdLL_wf b3 h4, rdN_lt b1 h2⟩
theorem rdH_wf {rest : List Nat} {p : He × List Nat} (h : Byt rest) (e : rdH rest = some p) : wfH p.1 := by
  obtain ⟨r, h1, e⟩ := bind_some' e
  obtain ⟨a, h2, e⟩ := bind_some' e
  obtain ⟨b, h3, rfl⟩ := map_some' e
  have b1 := rdR_byt h h1
  exact ⟨rdR_wf h h1, rdN_lt b1 h2, rdN_lt (rdN_byt b1 h2) h3⟩
theorem rdHs_wf {rest : List Nat} {t : List He × List Nat} (h : Byt rest) (e : rdHs rest = some t) : t.1.length < lim ∧ ∀ a ∈ t.1, wfH a := by
  obtain ⟨h1, h2⟩ := rdL_all (P := wfH) (fun r p hr he => ⟨rdH_byt hr he, rdH_wf hr he⟩) h e
  exact ⟨by unfold lim; omega, h2⟩
theorem rdP_wf {rest : List Nat} {t : List Nat × List Nat} (h : Byt rest) (e : rdP rest = some t) : t.1.length < lim ∧ ∀ p ∈ t.1, p < 65536 := by
  obtain ⟨h1, h2⟩ := rdL_all (P := fun p => p < 65536) (fun r p hr he => ⟨rdN_byt hr he, rdN_lt hr he⟩) h e
  exact ⟨by unfold lim; omega, h2⟩
theorem rdB_wf {rest : List Nat} {t : List Nat × List Nat} (h : Byt rest) (e : rdB rest = some t) : t.1.length < lim ∧ ∀ p ∈ t.1, p < 256 := by
  obtain ⟨h1, h2⟩ := rdL_all (P := fun p => p < 256) (fun r p hr he => ⟨rdN_byt hr he, by have := rdN_lt hr he; omega⟩) h e
  exact ⟨by unfold lim; omega, h2⟩
theorem wf_e0 {t : Int} {i : Nat} (ht : -128 ≤ t ∧ t < 128) (hi : i < 4294967296) : wfM (e0 t i) := by
  have h0 : (0 : Nat) < lim := by decide
  exact ⟨ht, hi, (by decide : -128 ≤ (0 : Int) ∧ (0 : Int) < 128), ⟨(by decide : -9223372036854775808 ≤ (0 : Int) ∧ (0 : Int) < 9223372036854775808), fun _ _ => (by decide : (0 : Nat) < 18446744073709551616), ⟨h0, fun _ h => by cases h⟩, (by decide : (0 : Nat) < 18446744073709551616)⟩,
    (by decide : (0 : Nat) < 65536), (by decide : (0 : Nat) < 65536), ⟨h0, fun _ h => by cases h⟩, ⟨h0, fun _ h => by cases h⟩, ⟨h0, fun _ h => by cases h⟩, ⟨h0, fun _ h => by cases h⟩, (by decide : (0 : Nat) < 65536)⟩
theorem rdBody_wf {t : Int} {i : Nat} {rest : List Nat} {p : Ms × List Nat} (ht : -128 ≤ t ∧ t < 128) (hi : i < 4294967296) (h : Byt rest) (e : rdBody t i rest = some p) : wfM p.1 := by
  have z := wf_e0 ht hi
  unfold rdBody at e
  split at e
  · obtain ⟨a, h1, e⟩ := bind_some' e
    obtain ⟨b, h2, e⟩ := bind_some' e
    obtain ⟨d, h3, rfl⟩ := map_some' e
    have b1 := rdN_byt h h1
    exact ⟨z.ty, z.id, z.dd, z.r, z.port, rdN_lt h h1, rdP_wf b1 h2, rdP_wf (rdP_byt b1 h2) h3, z.frame, z.helds, z.code⟩
  split at e
  · obtain ⟨a, h1, e⟩ := bind_some' e
    obtain ⟨b, h2, rfl⟩ := map_some' e
    exact ⟨z.ty, z.id, i8r _, rdR_wf (rdN_byt h h1) h2, z.port, z.sw, z.ports, z.edge, z.frame, z.helds, z.code⟩
  split at e
  · obtain ⟨a, h1, e⟩ := bind_some' e
    obtain ⟨b, h2, rfl⟩ := map_some' e
    exact ⟨z.ty, z.id, z.dd, z.r, rdN_lt h h1, z.sw, z.ports, z.edge, rdB_wf (rdN_byt h h1) h2, z.helds, z.code⟩
  split at e
  · obtain ⟨a, h1, e⟩ := bind_some' e
    obtain ⟨b, h2, rfl⟩ := map_some' e
    exact ⟨z.ty, z.id, z.dd, z.r, rdN_lt h h1, z.sw, z.ports, z.edge, z.frame, rdHs_wf (rdN_byt h h1) h2, z.code⟩
  split at e
  · obtain ⟨a, h1, e⟩ := bind_some' e
    obtain ⟨b, h2, rfl⟩ := map_some' e
    exact ⟨z.ty, z.id, z.dd, z.r, rdN_lt h h1, z.sw, z.ports, z.edge, z.frame, z.helds, z.code⟩
  split at e
  · obtain ⟨a, h1, rfl⟩ := map_some' e
    exact ⟨z.ty, z.id, z.dd, z.r, z.port, z.sw, z.ports, z.edge, z.frame, z.helds, rdN_lt h h1⟩
  · cases e
    exact z
/-- What the bytes say of their length. -/
def allB (b : List Nat) : Nat := b.getD 2 0 * 256 + b.getD 3 0
def tyB (b : List Nat) : Int := IntKind.i8.wrap ((b.getD 1 0 : Nat) : Int)
/-- A message's parser. -/
def rdMsg (b : List Nat) : Option Ms :=
  if isTy (tyB b) = true ∧ b.getD 0 0 = 1 ∧ b.length = allB b then
    (rdN 4 (b.drop 4)).bind fun i => (rdBody (tyB b) i.1 i.2).bind fun x => if x.2 = [] ∧ chkM x.1 = 0 then some x.1 else none
  else none
def short (b : List Nat) : Bool := decide (b.length < 8) || decide (b.length < allB b)
def decE (b : List Nat) : Int := if short b then 51 else if (rdMsg b).isSome then 0 else 70
def decX (b : List Nat) : Ms := if short b then e0 0 0 else (rdMsg b).getD (e0 0 0)
theorem decX_wf {b : List Nat} (h : Byt b) : wfM (decX b) := by
  have z := wf_e0 (t := 0) (i := 0) (by decide) (by decide)
  unfold decX
  split
  · exact z
  cases e : rdMsg b with
  | none => exact z
  | some x =>
    unfold rdMsg at e
    split at e
    · obtain ⟨i, h1, e⟩ := bind_some' e
      obtain ⟨y, h2, e⟩ := bind_some' e
      split at e
      · cases e
        exact rdBody_wf (i8r _) (rdN_lt (h.drop 4) h1) (rdN_byt (h.drop 4) h1) h2
      · cases e
    · cases e
end Go.Proofs.Ytjjenpdjmcmgbaa
