/- The program's reading of a message: its ways out. No condition. -/
import Derived.Test.YtjjenpdjmcmgbaaBXo
namespace Go.Proofs.Ytjjenpdjmcmgbaa
open Go Ab
set_option linter.unusedSimpArgs false
set_option linter.unusedVariables false
set_option maxRecDepth 20000
theorem or64 (a b : Nat) (ha : a < 256) (hb : b < 256) : bits .or .i64 ((a * 256 : Nat) : Int) (b : Int) = ((a * 256 + b : Nat) : Int) := by
  have e := Nat.shiftLeft_add_eq_or_of_lt (i := 8) (b := b) (by simpa using hb) a
  rw [Nat.shiftLeft_eq] at e
  rw [show a * 256 + b = a * 256 ||| b from e]
  have hx : a * 256 ||| b < 2 ^ 16 := Nat.or_lt_two_pow (by omega) (by omega)
  have h1 : (BitVec.ofInt 64 ((a * 256 : Nat) : Int)).toNat = a * 256 := by
    rw [BitVec.ofInt_natCast, BitVec.toNat_ofNat]; exact Nat.mod_eq_of_lt (by omega)
  have h2 : (BitVec.ofInt 64 (b : Int)).toNat = b := by
    rw [BitVec.ofInt_natCast, BitVec.toNat_ofNat]; exact Nat.mod_eq_of_lt (by omega)
  show IntKind.i64.wrap ((BitVec.ofInt 64 ((a * 256 : Nat) : Int) ||| BitVec.ofInt 64 (b : Int)).toNat : Int) = _
  rw [BitVec.toNat_or, h1, h2, IntKind.wrap_i64]
  omega
theorem sh64 (a : Nat) (ha : a < 256) : IntKind.i64.wrap ((a : Int) * 2 ^ min 8 IntKind.i64.bits) = ((a * 256 : Nat) : Int) := by
  simp [IntKind.wrap, IntKind.bits, IntKind.signed]; omega
theorem w8i (a : Nat) (ha : a < 256) : IntKind.i64.wrap (a : Int) = (a : Int) := by rw [IntKind.wrap_i64]; omega
theorem wksZ : Wks zM (msC (e0 0 0)) := by
  unfold zM mkC zR msC ruC
  repeat (first | exact .nil | refine .cons .eq ?_ | refine .cons .nil ?_)
theorem Wks.refl : ∀ l : List V, Wks l l
  | [] => .nil
  | _ :: l => .cons .eq (Wks.refl l)
theorem len8 {b : List Nat} (h : 8 ≤ b.length) : ∃ b0 b1 b2 b3 r, b = b0 :: b1 :: b2 :: b3 :: r := by
  match b, h with
  | b0 :: b1 :: b2 :: b3 :: r, _ => exact ⟨b0, b1, b2, b3, r, rfl⟩
def RD (b : List Nat) (r : CR) : Prop := ∃ m1 C, r = .ret (.tup [.agg C, .int .i64 (decE b)]) m1 ∧ Wks C (msC (decX b))
set_option maxHeartbeats 4000000 in
/-- Bytes that are too few. -/
theorem snd12a {b : List Nat} (hb : Byt b) (hs : short b = true) : Snd Try.prog 12 [byV b] [] (RD b) := by
  refine Snd_of_W fol rfl rfl (by kernel_rfl) (by kernel_rfl) ?_
  have lnr : ∀ M, lenV Try.prog M 34 (byV b) = some (.int .i64 (b.length : Int)) := fun M => by unfold byV; rw [lni34, List.length_map]
  have dE : decE b = 51 := by unfold decE; rw [hs]; rfl
  have dX : decX b = e0 0 0 := by unfold decX; rw [hs]; rfl
  have l8 : decide ((b.length : Int) < 8) = decide (b.length < 8) := by rw [Bool.eq_iff_iff]; simp; omega
  have fin : ∀ m1, RD b (.ret (.tup [.agg zM, .int .i64 51]) m1) := fun m1 => ⟨m1, zM, by rw [dE], by rw [dX]; exact wksZ⟩
  simp -implicitDefEqProofs only [sims.1, fx.1, keeps.1, tick_on, calleeK, extractV, oneV, faddrK, nonnil, b_shr, b_shl, fieldK, Nat.reduceAdd, Nat.reduceMul, Nat.reduceSub, Nat.reduceEqDiff, Nat.reduceLT, Nat.reduceLeDiff, Nat.reduceBEq, Nat.reduceBNe, reduceIte, Int.reduceEq, Int.reduceLT, Int.reduceLE, Int.reduceNe, Int.reduceToNat, rs12, al37z]
  refine w_quiet ?_
  cases e8 : decide (b.length < 8)
  · obtain ⟨b0, b1, b2, b3, r, rfl⟩ := len8 (show 8 ≤ b.length by have := of_decide_eq_false e8; omega)
    have hall : allB (b0 :: b1 :: b2 :: b3 :: r) = b2 * 256 + b3 := rfl
    have ls : decide (((b0 :: b1 :: b2 :: b3 :: r).length : Int) < ((b2 * 256 + b3 : Nat) : Int)) = true := by
      unfold short at hs
      rw [e8, hall, Bool.false_or] at hs
      have := of_decide_eq_true hs
      simp only [decide_eq_true_eq]
      omega
    have h2 : b2 < 256 := hb.1 _ (by simp)
    have h3 : b3 < 256 := hb.1 _ (by simp)
    have i2 : ∀ {k : IntKind}, iaddrS 1 (byV (b0 :: b1 :: b2 :: b3 :: r)) (.int k 2) = some (.ip (byC b2)) := fun {k} => iaddrS_isl (j := 2) rfl
    have i3 : ∀ {k : IntKind}, iaddrS 1 (byV (b0 :: b1 :: b2 :: b3 :: r)) (.int k 3) = some (.ip (byC b3)) := fun {k} => iaddrS_isl (j := 3) rfl
    have c2 : (byC b2)[0]? = some (.int .u8 (b2 : Int)) := rfl
    have c3 : (byC b3)[0]? = some (.int .u8 (b3 : Int)) := rfl
    generalize hbb : (b0 :: b1 :: b2 :: b3 :: r) = b at *
    simp -implicitDefEqProofs only [sims.1, fx.1, keeps.1, tick_on, calleeK, extractV, oneV, faddrK, nonnil, b_shr, b_shl, fieldK, Nat.reduceAdd, Nat.reduceMul, Nat.reduceSub, Nat.reduceEqDiff, Nat.reduceLT, Nat.reduceLeDiff, Nat.reduceBEq, Nat.reduceBNe, reduceIte, Int.reduceEq, Int.reduceLT, Int.reduceLE, Int.reduceNe, Int.reduceToNat, lnr, l8, e8, i2, i3, c2, c3, sh64 b2 h2, w8i b2 h2, w8i b3 h3, or64 b2 b3 h2 h3, ls]
    simp only [zMx, List.append_assoc, List.cons_append, List.nil_append, List.length_append, List.length_cons, List.length_nil, Nat.zero_add]
    generalize hz : zM = z at fin ⊢
    have hl : z.length = 36 := by rw [← hz]; rfl
    have hp : partK true 36 z 0 = some (.agg z) := partK_row hl
    have sp : splice z 0 z = z := splice_all rfl
    simp -implicitDefEqProofs only [sims.1, fx.1, keeps.1, tick_on, calleeK, extractV, oneV, faddrK, nonnil, b_shr, b_shl, fieldK, Nat.reduceAdd, Nat.reduceMul, Nat.reduceSub, Nat.reduceEqDiff, Nat.reduceLT, Nat.reduceLeDiff, Nat.reduceBEq, Nat.reduceBNe, reduceIte, Int.reduceEq, Int.reduceLT, Int.reduceLE, Int.reduceNe, Int.reduceToNat, rs12, hp, storeK_agg, hl, sp]
    exact fin _
  · simp -implicitDefEqProofs only [sims.1, fx.1, keeps.1, tick_on, calleeK, extractV, oneV, faddrK, nonnil, b_shr, b_shl, fieldK, Nat.reduceAdd, Nat.reduceMul, Nat.reduceSub, Nat.reduceEqDiff, Nat.reduceLT, Nat.reduceLeDiff, Nat.reduceBEq, Nat.reduceBNe, reduceIte, Int.reduceEq, Int.reduceLT, Int.reduceLE, Int.reduceNe, Int.reduceToNat, lnr, l8, e8]
    simp only [zMx, List.append_assoc, List.cons_append, List.nil_append, List.length_append, List.length_cons, List.length_nil, Nat.zero_add]
    generalize hz : zM = z at fin ⊢
    have hl : z.length = 36 := by rw [← hz]; rfl
    have hp : partK true 36 z 0 = some (.agg z) := partK_row hl
    have sp : splice z 0 z = z := splice_all rfl
    simp -implicitDefEqProofs only [sims.1, fx.1, keeps.1, tick_on, calleeK, extractV, oneV, faddrK, nonnil, b_shr, b_shl, fieldK, Nat.reduceAdd, Nat.reduceMul, Nat.reduceSub, Nat.reduceEqDiff, Nat.reduceLT, Nat.reduceLeDiff, Nat.reduceBEq, Nat.reduceBNe, reduceIte, Int.reduceEq, Int.reduceLT, Int.reduceLE, Int.reduceNe, Int.reduceToNat, rs12, hp, storeK_agg, hl, sp]
    exact fin _
set_option maxHeartbeats 2000000 in
theorem boomR {Q : CR → Prop} {env : Env} {M : Mem} {l : List V} {v : V} (h1 : M[0]? = some (.var 37 l)) (hl : l.length = 36) (h2 : M[1]? = some (.var 38 [v])) (e2 : env 2 = .ptr 0 0) (e3 : env 3 = .ptr 1 0)
    (hq : ∀ m', Q (.ret (.tup [.agg zM, .int .i64 70]) m')) : endD Try.prog Try.prog.funcs[12] 20 [.ptr 0 0, .ptr 1 0] Q (.pan wrongV) env M := by
  have hlM : 1 < M.length := (List.getElem?_eq_some_iff.1 h2).1
  refine ⟨fun m' => m' = ((M ++ [B.var 62 []]).set 0 (B.var 37 zM)).set 1 (B.var 38 [.int .i64 70]), ?_, ?_⟩
  · refine SndD_of_W (k := 5) (j := 2) fol rfl rfl (by kernel_rfl) (by kernel_rfl) (by kernel_rfl) (by kernel_rfl) (by kernel_rfl) rfl ?_
    unfold wrongV
    have n1 : binV Try.prog .neq 20 (.ifc 62 (.agg [])) .nili = some (.bool true) := ne20
    have z1 : splice ([] : List V) 0 [] = [] := rfl
    have a1 : (M ++ [B.var 62 []])[M.length]? = some (.var 62 []) := by simp
    have a2 : (M ++ [B.var 62 []]).set M.length (.var 62 []) = M ++ [.var 62 []] := by simp
    have b37 : buildV Try.prog 37 [] = some (.agg zM) := by kernel_rfl
    have s1 : (M ++ [B.var 62 []])[0]? = some (.var 37 l) := by rw [List.getElem?_append_left (by omega), h1]
    have s2 : ((M ++ [B.var 62 []]).set 0 (.var 37 zM))[1]? = some (.var 38 [v]) := by rw [List.getElem?_set_ne (by omega), List.getElem?_append_left (by omega), h2]
    have s3 : storeK 1 ((M ++ [B.var 62 []]).set 0 (.var 37 zM)) (.ptr 1 0) (.int .i64 70) = some (((M ++ [B.var 62 []]).set 0 (.var 37 zM)).set 1 (.var 38 [.int .i64 70])) := stO _ _ rfl s2
    have sp : splice l 0 zM = zM := splice_all (by rw [hl]; rfl)
    have hzl : zM.length = 36 := rfl
    simp -implicitDefEqProofs only [sims.1, fx.1, keeps.1, tick_on, calleeK, extractV, oneV, faddrK, nonnil, b_shr, b_shl, fieldK, Nat.reduceAdd, Nat.reduceMul, Nat.reduceSub, Nat.reduceEqDiff, Nat.reduceLT, Nat.reduceLeDiff, Nat.reduceBEq, Nat.reduceBNe, reduceIte, Int.reduceEq, Int.reduceLT, Int.reduceLE, Int.reduceNe, Int.reduceToNat, Option.getD_some, evO_nili, n1, storeK_agg, z1, a1, a2]
    simp only [zMx]
    simp -implicitDefEqProofs only [sims.1, fx.1, keeps.1, tick_on, calleeK, extractV, oneV, faddrK, nonnil, b_shr, b_shl, fieldK, Nat.reduceAdd, Nat.reduceMul, Nat.reduceSub, Nat.reduceEqDiff, Nat.reduceLT, Nat.reduceLeDiff, Nat.reduceBEq, Nat.reduceBNe, reduceIte, Int.reduceEq, Int.reduceLT, Int.reduceLE, Int.reduceNe, Int.reduceToNat, s1, hl, sp, s2, Nat.le_refl]
  · rintro m' rfl
    refine ⟨.tup [.agg zM, .int .i64 70], ?_, hq _⟩
    have pz : partK true 36 zM 0 = some (.agg zM) := part37z
    rw [rs12, e2, e3, ld37, ld38, loadK_ptr, loadK_ptr, List.getElem?_set_ne (by omega), List.getElem?_set_self (by simp), List.getElem?_set_self (by simp; omega)]
    simp only [Option.bind_some, pz]
    rfl
theorem retR {Q : CR → Prop} {env : Env} {M : Mem} {l : List V} {v : V} (h1 : M[0]? = some (.var 37 l)) (hl : l.length = 36) (h2 : M[1]? = some (.var 38 [v])) (e2 : env 2 = .ptr 0 0) (e3 : env 3 = .ptr 1 0)
    (hq : Q (.ret (.tup [.agg l, v]) M)) : endD Try.prog Try.prog.funcs[12] 20 [.ptr 0 0, .ptr 1 0] Q .ret env M := by
  refine ⟨fun m' => m' = M, ?_, ?_⟩
  · refine SndD_of_W (k := 5) (j := 2) fol rfl rfl (by kernel_rfl) (by kernel_rfl) (by kernel_rfl) (by kernel_rfl) (by kernel_rfl) rfl ?_
    have n1 : binV Try.prog .neq 20 .nili .nili = some (.bool false) := ne20n
    simp -implicitDefEqProofs only [sims.1, fx.1, keeps.1, tick_on, calleeK, extractV, oneV, faddrK, nonnil, b_shr, b_shl, fieldK, Nat.reduceAdd, Nat.reduceMul, Nat.reduceSub, Nat.reduceEqDiff, Nat.reduceLT, Nat.reduceLeDiff, Nat.reduceBEq, Nat.reduceBNe, reduceIte, Int.reduceEq, Int.reduceLT, Int.reduceLE, Int.reduceNe, Int.reduceToNat, Option.getD_none, evO_nili, n1]
  · rintro m' rfl
    refine ⟨_, ?_, hq⟩
    have pz : partK true 36 l 0 = some (.agg l) := partK_row hl
    rw [rs12, e2, e3, ld37, ld38, loadK_ptr, loadK_ptr, h1, h2]
    simp only [Option.bind_some, pz]
    rfl
end Go.Proofs.Ytjjenpdjmcmgbaa
