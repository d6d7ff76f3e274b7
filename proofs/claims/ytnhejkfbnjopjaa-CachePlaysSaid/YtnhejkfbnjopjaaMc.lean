/- A cache in memory; what 'Get' tells of it. No condition. -/
import Derived.Test.YtnhejkfbnjopjaaMb
import Derived.Test.YtnhejkfbnjopjaaAm8
namespace Go.Proofs.Ytnhejkfbnjopjaa
open Go Ab
set_option linter.unusedSimpArgs false
set_option linter.unusedVariables false
set_option maxRecDepth 20000

/-! ### What is left of memory behind a call -/
def Trim (K0 : Nat) (Q : CR → Prop) (r : CR) : Prop := ∃ v m2 e' m', r = .ret v m2 ∧ nf v = true ∧ canon K0 [] (fun _ => .unk) m2 = some (e', m') ∧ Q (.ret v m')
theorem Snd_trim {P : Program} {f : FuncId} {vs : List V} {m : Mem} {Q : CR → Prop} (h : Snd P f vs m (Trim m.length Q)) : Snd P f vs m Q := by
  intro ρ I w xs hr hl hrt
  refine (h ρ I w xs hr hl hrt).mono ?_
  rintro e w' ⟨r, ⟨v, m2, e', m', rfl, hv, hc, hq⟩, x, ρ', I', rfl, k1, k2, k3⟩
  have k1 : Rep ρ' I' m2 w' := k1
  have k2 : Step ρ I m w ρ' I' m2 w' := k2
  have k3 : RV m2.length ρ' I' w' v x := k3
  obtain ⟨ρ2, r1, r2, r3⟩ := canon_sound (a := { tmps := #[], defers := [] }) k1 (fun t => by simp [RV]) hc
  exact ⟨_, hq, x, ρ2, I', rfl, r1, ((k2.fr (Nat.le_refl _)).trans r3).step, RV_nf v x hv k3⟩

/-! ### A cache's blocks -/
theorem nfp_at : ∀ a : List (Hd × Nat), nfp (a.map atC) = true
  | [] => rfl
  | p :: r => by
    simp only [List.map_cons, nfp, atC, nfp_at r, Bool.and_true]
    rfl
def caV (n t hd : Nat) : B := .var 63 [.sl 15 1 0 n, .mp 2, .int .i64 (t : Int), .int .i64 (hd : Int)]
def caM (l : List Ent) (a : List (Hd × Nat)) (t hd : Nat) : Mem := [caV l.length t hd, .row 69 15 (l.map enC), .map (a.map atC)]

theorem canC {keep : List Nat} {env : Env} {b0 : B} {ty s : Nat} {es : List (List V)} {ms : List (V × V)} {ex : Mem} (vs : List V) {vs' : List V} {e' : Env} (hk : keep.map env = vs)
    (hL : reach (b0 :: .row ty s es :: .map ms :: ex) 80 (List.range 3 ++ nmss vs) [] = [0, 1, 2]) (hi : inDs (fun k => [0, 1, 2].contains k) vs = true) (h0 : inDB (fun k => [0, 1, 2].contains k) b0 = true) (he : nfss es = true) (hm : nfp ms = true)
    (hv : rens (idx [0, 1, 2]) vs = vs') (hE : mkEnv (keep.zip vs') = e') (hb : renB (idx [0, 1, 2]) b0 = b0) : canon 3 keep env (b0 :: .row ty s es :: .map ms :: ex) = some (e', [b0, .row ty s es, .map ms]) := by
  refine canon_of vs [0, 1, 2] hk hL hi ?_ hv hE ?_
  · have h1 : inDB (fun k => [0, 1, 2].contains k) (.row ty s es) = true := he
    have h2 : inDB (fun k => [0, 1, 2].contains k) (.map ms) = true := hm
    have h3 : prefixB 3 [0, 1, 2] = true := rfl
    have h4 : nodupB [0, 1, 2] = true := rfl
    simp only [closedB, List.all_cons, List.all_nil, List.getD_cons_zero, List.getD_cons_succ, h0, h1, h2, h3, h4, List.length_cons]
    simp
  · simp only [view, List.map_cons, List.map_nil, List.getD_cons_zero, List.getD_cons_succ, hb]
    rfl

theorem evO_nilp (e : Env) : evO e (.const (.pointer none)) = .nilp := rfl
theorem pe1 (n o : Nat) : binV Try.prog .eql 41 (.ptr n o) .nilp = some (.bool false) := rfl
theorem pe2 (n o : Nat) : binV Try.prog .neq 41 (.ptr n o) .nilp = some (.bool true) := rfl
theorem pe3 : binV Try.prog .eql 41 .nilp .nilp = some (.bool true) := rfl
theorem pe4 : binV Try.prog .neq 41 .nilp .nilp = some (.bool false) := rfl
theorem rl1 (n o : Nat) : nonnil (.ptr n o) = true := rfl
theorem rl2 (s n i o : Nat) : nonnil (.ep s n i o) = true := rfl
theorem e_e0 : [V.int .u64 0, V.int .u64 0, V.int .u64 0, V.int .u64 0, V.int .u64 0, V.int .u64 0, V.int .u64 0, V.int .u64 0, V.int .u64 0, V.int .u64 0, V.int .u64 0, V.int .i64 0, V.int .i64 0, V.bool false, V.bool false] = enC e0 := rfl
theorem bindK {α β : Type} (o : Option α) (f : α → Option β) : o.bind f = match o with | some a => f a | none => none := by cases o <;> rfl
theorem look_at' {m : Mem} {n : Nat} {h : Hd} (hh : U64h h) : lookupV Try.prog 61 m (.mp n) (.agg (hdC h)) true = (m[n]?).bind fun b => match b with
    | .map es => (findV Try.prog 24 (.agg (hdC h)) es 0).bind fun r => some (match r with | some (_, v) => .tup [v, .bool true] | none => .tup [.int .i64 0, .bool false])
    | _ => none := by
  simp only [lookupV, un61, key_hd h hh, cond_true]
  cases m[n]? with
  | none => rfl
  | some b =>
    cases b with
    | map es =>
      simp only [Option.bind_some]
      cases findV Try.prog 24 (.agg (hdC h)) es 0 with
      | none => rfl
      | some r =>
        cases r with
        | none => simp [zero3]
        | some p => rfl
    | _ => rfl
theorem del_at' {m : Mem} {n : Nat} {h : Hd} (hh : U64h h) : delV Try.prog 61 m (.mp n) (.agg (hdC h)) = (m[n]?).bind fun b => match b with
    | .map es => (findV Try.prog 24 (.agg (hdC h)) es 0).bind fun r => some (m.set n (.map (match r with | some (i, _) => es.eraseIdx i | none => es)))
    | _ => none := by
  simp only [delV, un61, key_hd h hh, cond_true]
  cases m[n]? with
  | none => rfl
  | some b =>
    cases b with
    | map es =>
      simp only [Option.bind_some]
      cases findV Try.prog 24 (.agg (hdC h)) es 0 with
      | none => rfl
      | some r =>
        cases r with
        | none => rfl
        | some p => rfl
    | _ => rfl
theorem eqNat (j k : Nat) : decide ((j : Int) = (k : Int)) = decide (j = k) := by rw [Bool.eq_iff_iff]; simp; omega
theorem ltNat (j k : Nat) : decide ((j : Int) < (k : Int)) = decide (j < k) := by rw [Bool.eq_iff_iff]; simp

def getR (l : List Ent) (a : List (Hd × Nat)) (t hd : Nat) (h : Hd) : CR := match fnd l h with
  | none => .ret (.tup [.int .i64 0, .bool false]) (caM l a t hd)
  | some k => match l[k]? with
    | some e => bif decide (e.turn = t) then .ret (.tup [.int .i64 e.id, .bool true]) (caM (l.set k { e with mark := true }) a t hd) else .ret (.tup [.int .i64 0, .bool false]) (caM (l.set k e0) (atDel h a) t hd)
    | none => .ret (.tup [.int .i64 0, .bool false]) (caM l a t hd)
theorem length_caM (l : List Ent) (a : List (Hd × Nat)) (t hd : Nat) : (caM l a t hd).length = 3 := rfl

set_option maxHeartbeats 2000000 in
theorem snd29 (l : List Ent) (a : List (Hd × Nat)) (t hd : Nat) (h : Hd) (I : Inv l a) (hh : U64h h) : Snd Try.prog 29 [.ptr 0 0, hdA h] (caM l a t hd) fun r => r = getR l a t hd h := by
  refine Snd_trim (Snd_of_W fol rfl rfl (by kernel_rfl) (by kernel_rfl) ?_)
  have hI := I.find h
  unfold caM caV hdA
  simp -implicitDefEqProofs only [sims.1, fx.1, tick_on, calleeK, List.getElem?_toArray, extractV, oneV, faddrK, nonnil, b_shr, b_shl, eq_self, beq_self_eq_true, fieldK, Option.bind_some, Option.map_some, Option.bind_none, Option.map_none, List.map_cons, List.map_nil, List.getD_cons_zero, List.getD_cons_succ, List.getD_nil, List.length_nil, List.length_cons, List.length_set, List.nil_append, List.cons_append, List.append_nil, List.getElem?_cons_zero, List.getElem?_cons_succ, List.getElem?_nil, List.set_cons_zero, List.set_cons_succ, Nat.reduceAdd, Nat.zero_add, Nat.add_zero, Nat.mul_one, Nat.mul_zero, Nat.zero_mul, Nat.reduceMul, Nat.reduceSub, Nat.reduceEqDiff, Nat.reduceLT, Nat.reduceLeDiff, Nat.reduceBEq, Nat.reduceBNe, Nat.succ_ne_self, reduceIte, if_true, if_false, ite_self, decide_true, decide_false, Bool.not_true, Bool.not_false, Bool.and_true, Bool.true_and, Bool.and_false, Bool.false_and, Bool.or_true, Bool.true_or, Bool.or_false, Bool.false_or, cond_true, cond_false, Int.reduceEq, Int.reduceLT, Int.reduceLE, Int.reduceNe, Int.reduceToNat, evO_nilp, pe1]
  refine w_quiet ?_
  simp -implicitDefEqProofs only [sims.1, fx.1, tick_on, calleeK, List.getElem?_toArray, extractV, oneV, faddrK, nonnil, b_shr, b_shl, eq_self, beq_self_eq_true, fieldK, Option.bind_some, Option.map_some, Option.bind_none, Option.map_none, List.map_cons, List.map_nil, List.getD_cons_zero, List.getD_cons_succ, List.getD_nil, List.length_nil, List.length_cons, List.length_set, List.nil_append, List.cons_append, List.append_nil, List.getElem?_cons_zero, List.getElem?_cons_succ, List.getElem?_nil, List.set_cons_zero, List.set_cons_succ, Nat.reduceAdd, Nat.zero_add, Nat.add_zero, Nat.mul_one, Nat.mul_zero, Nat.zero_mul, Nat.reduceMul, Nat.reduceSub, Nat.reduceEqDiff, Nat.reduceLT, Nat.reduceLeDiff, Nat.reduceBEq, Nat.reduceBNe, Nat.succ_ne_self, reduceIte, if_true, if_false, ite_self, decide_true, decide_false, Bool.not_true, Bool.not_false, Bool.and_true, Bool.true_and, Bool.and_false, Bool.false_and, Bool.or_true, Bool.true_or, Bool.or_false, Bool.false_or, cond_true, cond_false, Int.reduceEq, Int.reduceLT, Int.reduceLE, Int.reduceNe, Int.reduceToNat, part_hd, look_at' hh, findV_at hh I.keys]
  unfold getR
  cases hf : fnd l h with
  | none =>
    rw [hf] at hI
    simp only at hI
    simp -implicitDefEqProofs only [sims.1, fx.1, tick_on, calleeK, List.getElem?_toArray, extractV, oneV, faddrK, nonnil, b_shr, b_shl, eq_self, beq_self_eq_true, fieldK, Option.bind_some, Option.map_some, Option.bind_none, Option.map_none, List.map_cons, List.map_nil, List.getD_cons_zero, List.getD_cons_succ, List.getD_nil, List.length_nil, List.length_cons, List.length_set, List.nil_append, List.cons_append, List.append_nil, List.getElem?_cons_zero, List.getElem?_cons_succ, List.getElem?_nil, List.set_cons_zero, List.set_cons_succ, Nat.reduceAdd, Nat.zero_add, Nat.add_zero, Nat.mul_one, Nat.mul_zero, Nat.zero_mul, Nat.reduceMul, Nat.reduceSub, Nat.reduceEqDiff, Nat.reduceLT, Nat.reduceLeDiff, Nat.reduceBEq, Nat.reduceBNe, Nat.succ_ne_self, reduceIte, if_true, if_false, ite_self, decide_true, decide_false, Bool.not_true, Bool.not_false, Bool.and_true, Bool.true_and, Bool.and_false, Bool.false_and, Bool.or_true, Bool.true_or, Bool.or_false, Bool.false_or, cond_true, cond_false, Int.reduceEq, Int.reduceLT, Int.reduceLE, Int.reduceNe, Int.reduceToNat, hI]
    refine ⟨_, _, _, _, rfl, rfl, canC [] (by kernel_rfl) (by kernel_rfl) rfl (by kernel_rfl) (nfs_ens l) (nfp_at a) rfl rfl (by kernel_rfl), rfl⟩
  | some k =>
    rw [hf] at hI
    obtain ⟨i, hi⟩ := hI
    obtain ⟨hk, hfull, heq⟩ := fnd_some hf
    have hle : l[k]? = some l[k] := List.getElem?_eq_getElem hk
    simp -implicitDefEqProofs only [sims.1, fx.1, tick_on, calleeK, List.getElem?_toArray, extractV, oneV, faddrK, nonnil, b_shr, b_shl, eq_self, beq_self_eq_true, fieldK, Option.bind_some, Option.map_some, Option.bind_none, Option.map_none, List.map_cons, List.map_nil, List.getD_cons_zero, List.getD_cons_succ, List.getD_nil, List.length_nil, List.length_cons, List.length_set, List.nil_append, List.cons_append, List.append_nil, List.getElem?_cons_zero, List.getElem?_cons_succ, List.getElem?_nil, List.set_cons_zero, List.set_cons_succ, Nat.reduceAdd, Nat.zero_add, Nat.add_zero, Nat.mul_one, Nat.mul_zero, Nat.zero_mul, Nat.reduceMul, Nat.reduceSub, Nat.reduceEqDiff, Nat.reduceLT, Nat.reduceLeDiff, Nat.reduceBEq, Nat.reduceBNe, Nat.succ_ne_self, reduceIte, if_true, if_false, ite_self, decide_true, decide_false, Bool.not_true, Bool.not_false, Bool.and_true, Bool.true_and, Bool.and_false, Bool.false_and, Bool.or_true, Bool.true_or, Bool.or_false, Bool.false_or, cond_true, cond_false, Int.reduceEq, Int.reduceLT, Int.reduceLE, Int.reduceNe, Int.reduceToNat, hi, iaS hk]
    refine w_quiet ?_
    simp -implicitDefEqProofs only [sims.1, fx.1, tick_on, calleeK, List.getElem?_toArray, extractV, oneV, faddrK, nonnil, b_shr, b_shl, eq_self, beq_self_eq_true, fieldK, Option.bind_some, Option.map_some, Option.bind_none, Option.map_none, List.map_cons, List.map_nil, List.getD_cons_zero, List.getD_cons_succ, List.getD_nil, List.length_nil, List.length_cons, List.length_set, List.nil_append, List.cons_append, List.append_nil, List.getElem?_cons_zero, List.getElem?_cons_succ, List.getElem?_nil, List.set_cons_zero, List.set_cons_succ, Nat.reduceAdd, Nat.zero_add, Nat.add_zero, Nat.mul_one, Nat.mul_zero, Nat.zero_mul, Nat.reduceMul, Nat.reduceSub, Nat.reduceEqDiff, Nat.reduceLT, Nat.reduceLeDiff, Nat.reduceBEq, Nat.reduceBNe, Nat.succ_ne_self, reduceIte, if_true, if_false, ite_self, decide_true, decide_false, Bool.not_true, Bool.not_false, Bool.and_true, Bool.true_and, Bool.and_false, Bool.false_and, Bool.or_true, Bool.true_or, Bool.or_false, Bool.false_or, cond_true, cond_false, Int.reduceEq, Int.reduceLT, Int.reduceLE, Int.reduceNe, Int.reduceToNat, loadK_ep, rows_at hk, ec12]
    generalize l[k] = e at *
    have he : (l.map enC)[k]? = some (enC e) := by rw [List.getElem?_map, hle]; rfl
    have hd' : (a.map atC).eraseIdx i = (atDel h a).map atC := by unfold atDel; rw [hi]; exact map_erase atC a i
    cases ht : decide (e.turn = t)
    · simp -implicitDefEqProofs only [sims.1, fx.1, tick_on, calleeK, List.getElem?_toArray, extractV, oneV, faddrK, nonnil, b_shr, b_shl, eq_self, beq_self_eq_true, fieldK, Option.bind_some, Option.map_some, Option.bind_none, Option.map_none, List.map_cons, List.map_nil, List.getD_cons_zero, List.getD_cons_succ, List.getD_nil, List.length_nil, List.length_cons, List.length_set, List.nil_append, List.cons_append, List.append_nil, List.getElem?_cons_zero, List.getElem?_cons_succ, List.getElem?_nil, List.set_cons_zero, List.set_cons_succ, Nat.reduceAdd, Nat.zero_add, Nat.add_zero, Nat.mul_one, Nat.mul_zero, Nat.zero_mul, Nat.reduceMul, Nat.reduceSub, Nat.reduceEqDiff, Nat.reduceLT, Nat.reduceLeDiff, Nat.reduceBEq, Nat.reduceBNe, Nat.succ_ne_self, reduceIte, if_true, if_false, ite_self, decide_true, decide_false, Bool.not_true, Bool.not_false, Bool.and_true, Bool.true_and, Bool.and_false, Bool.false_and, Bool.or_true, Bool.true_or, Bool.or_false, Bool.false_or, cond_true, cond_false, Int.reduceEq, Int.reduceLT, Int.reduceLE, Int.reduceNe, Int.reduceToNat, eqNat, ht, hle, e_e0]
      refine bindO_some' (st_epA rfl he (en_len _) (en_len _)) ?_
      simp -implicitDefEqProofs only [sims.1, fx.1, tick_on, calleeK, List.getElem?_toArray, extractV, oneV, faddrK, nonnil, b_shr, b_shl, eq_self, beq_self_eq_true, fieldK, Option.bind_some, Option.map_some, Option.bind_none, Option.map_none, List.map_cons, List.map_nil, List.getD_cons_zero, List.getD_cons_succ, List.getD_nil, List.length_nil, List.length_cons, List.length_set, List.nil_append, List.cons_append, List.append_nil, List.getElem?_cons_zero, List.getElem?_cons_succ, List.getElem?_nil, List.set_cons_zero, List.set_cons_succ, Nat.reduceAdd, Nat.zero_add, Nat.add_zero, Nat.mul_one, Nat.mul_zero, Nat.zero_mul, Nat.reduceMul, Nat.reduceSub, Nat.reduceEqDiff, Nat.reduceLT, Nat.reduceLeDiff, Nat.reduceBEq, Nat.reduceBNe, Nat.succ_ne_self, reduceIte, if_true, if_false, ite_self, decide_true, decide_false, Bool.not_true, Bool.not_false, Bool.and_true, Bool.true_and, Bool.and_false, Bool.false_and, Bool.or_true, Bool.true_or, Bool.or_false, Bool.false_or, cond_true, cond_false, Int.reduceEq, Int.reduceLT, Int.reduceLE, Int.reduceNe, Int.reduceToNat, en_put, rows_set]
      refine w_noisy ?_
      simp -implicitDefEqProofs only [sims.1, fx.1, tick_on, calleeK, List.getElem?_toArray, extractV, oneV, faddrK, nonnil, b_shr, b_shl, eq_self, beq_self_eq_true, fieldK, Option.bind_some, Option.map_some, Option.bind_none, Option.map_none, List.map_cons, List.map_nil, List.getD_cons_zero, List.getD_cons_succ, List.getD_nil, List.length_nil, List.length_cons, List.length_set, List.nil_append, List.cons_append, List.append_nil, List.getElem?_cons_zero, List.getElem?_cons_succ, List.getElem?_nil, List.set_cons_zero, List.set_cons_succ, Nat.reduceAdd, Nat.zero_add, Nat.add_zero, Nat.mul_one, Nat.mul_zero, Nat.zero_mul, Nat.reduceMul, Nat.reduceSub, Nat.reduceEqDiff, Nat.reduceLT, Nat.reduceLeDiff, Nat.reduceBEq, Nat.reduceBNe, Nat.succ_ne_self, reduceIte, if_true, if_false, ite_self, decide_true, decide_false, Bool.not_true, Bool.not_false, Bool.and_true, Bool.true_and, Bool.and_false, Bool.false_and, Bool.or_true, Bool.true_or, Bool.or_false, Bool.false_or, cond_true, cond_false, Int.reduceEq, Int.reduceLT, Int.reduceLE, Int.reduceNe, Int.reduceToNat, part_hd, del_at' hh, findV_at hh I.keys, hi, hd']
      iterate 4
        first
        | (refine orderP_of (by kernel_rfl) ?_
           simp -implicitDefEqProofs only [sims.1, fx.1, tick_on, calleeK, List.getElem?_toArray, extractV, oneV, faddrK, nonnil, b_shr, b_shl, eq_self, beq_self_eq_true, fieldK, Option.bind_some, Option.map_some, Option.bind_none, Option.map_none, List.map_cons, List.map_nil, List.getD_cons_zero, List.getD_cons_succ, List.getD_nil, List.length_nil, List.length_cons, List.length_set, List.nil_append, List.cons_append, List.append_nil, List.getElem?_cons_zero, List.getElem?_cons_succ, List.getElem?_nil, List.set_cons_zero, List.set_cons_succ, Nat.reduceAdd, Nat.zero_add, Nat.add_zero, Nat.mul_one, Nat.mul_zero, Nat.zero_mul, Nat.reduceMul, Nat.reduceSub, Nat.reduceEqDiff, Nat.reduceLT, Nat.reduceLeDiff, Nat.reduceBEq, Nat.reduceBNe, Nat.succ_ne_self, reduceIte, if_true, if_false, ite_self, decide_true, decide_false, Bool.not_true, Bool.not_false, Bool.and_true, Bool.true_and, Bool.and_false, Bool.false_and, Bool.or_true, Bool.true_or, Bool.or_false, Bool.false_or, cond_true, cond_false, Int.reduceEq, Int.reduceLT, Int.reduceLE, Int.reduceNe, Int.reduceToNat, part_hd, del_at' hh, findV_at hh I.keys, hi, hd'])
        | skip
      refine ⟨_, _, _, _, rfl, rfl, canC [] (by kernel_rfl) (by kernel_rfl) rfl (by kernel_rfl) (nfs_ens _) (nfp_at _) rfl rfl (by kernel_rfl), ?_⟩
      simp only [caM, caV, List.length_set, hle, ht, cond_true, cond_false]
    · simp -implicitDefEqProofs only [sims.1, fx.1, tick_on, calleeK, List.getElem?_toArray, extractV, oneV, faddrK, nonnil, b_shr, b_shl, eq_self, beq_self_eq_true, fieldK, Option.bind_some, Option.map_some, Option.bind_none, Option.map_none, List.map_cons, List.map_nil, List.getD_cons_zero, List.getD_cons_succ, List.getD_nil, List.length_nil, List.length_cons, List.length_set, List.nil_append, List.cons_append, List.append_nil, List.getElem?_cons_zero, List.getElem?_cons_succ, List.getElem?_nil, List.set_cons_zero, List.set_cons_succ, Nat.reduceAdd, Nat.zero_add, Nat.add_zero, Nat.mul_one, Nat.mul_zero, Nat.zero_mul, Nat.reduceMul, Nat.reduceSub, Nat.reduceEqDiff, Nat.reduceLT, Nat.reduceLeDiff, Nat.reduceBEq, Nat.reduceBNe, Nat.succ_ne_self, reduceIte, if_true, if_false, ite_self, decide_true, decide_false, Bool.not_true, Bool.not_false, Bool.and_true, Bool.true_and, Bool.and_false, Bool.false_and, Bool.or_true, Bool.true_or, Bool.or_false, Bool.false_or, cond_true, cond_false, Int.reduceEq, Int.reduceLT, Int.reduceLE, Int.reduceNe, Int.reduceToNat, eqNat, ht, hle]
      refine bindO_some' (st_ep rfl rfl he (by rw [en_len]; decide)) ?_
      simp -implicitDefEqProofs only [sims.1, fx.1, tick_on, calleeK, List.getElem?_toArray, extractV, oneV, faddrK, nonnil, b_shr, b_shl, eq_self, beq_self_eq_true, fieldK, Option.bind_some, Option.map_some, Option.bind_none, Option.map_none, List.map_cons, List.map_nil, List.getD_cons_zero, List.getD_cons_succ, List.getD_nil, List.length_nil, List.length_cons, List.length_set, List.nil_append, List.cons_append, List.append_nil, List.getElem?_cons_zero, List.getElem?_cons_succ, List.getElem?_nil, List.set_cons_zero, List.set_cons_succ, Nat.reduceAdd, Nat.zero_add, Nat.add_zero, Nat.mul_one, Nat.mul_zero, Nat.zero_mul, Nat.reduceMul, Nat.reduceSub, Nat.reduceEqDiff, Nat.reduceLT, Nat.reduceLeDiff, Nat.reduceBEq, Nat.reduceBNe, Nat.succ_ne_self, reduceIte, if_true, if_false, ite_self, decide_true, decide_false, Bool.not_true, Bool.not_false, Bool.and_true, Bool.true_and, Bool.and_false, Bool.false_and, Bool.or_true, Bool.true_or, Bool.or_false, Bool.false_or, cond_true, cond_false, Int.reduceEq, Int.reduceLT, Int.reduceLE, Int.reduceNe, Int.reduceToNat, en_mark, rows_set, loadK_ep, rows_at, hk, List.length_set, List.getElem_set_self, ec11]
      refine ⟨_, _, _, _, rfl, rfl, canC [] (by kernel_rfl) (by kernel_rfl) rfl (by kernel_rfl) (nfs_ens _) (nfp_at _) rfl rfl (by kernel_rfl), ?_⟩
      simp only [caM, caV, List.length_set, hle, ht, cond_true, cond_false]
end Go.Proofs.Ytnhejkfbnjopjaa
