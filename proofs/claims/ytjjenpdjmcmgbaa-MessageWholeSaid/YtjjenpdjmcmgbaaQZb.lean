/- Whole numbers of each kind, written. No condition. -/
import Derived.Test.YtjjenpdjmcmgbaaQZa
namespace Go.Proofs.Ytjjenpdjmcmgbaa
open Go Ab
set_option linter.unusedSimpArgs false
set_option linter.unusedVariables false
set_option maxRecDepth 20000
theorem and_mask (x w : Nat) (hx : x < 2 ^ w) (hw : w ≤ 63) : bits .and .u64 (x : Int) ((2 ^ w - 1 : Nat) : Int) = (x : Int) := by
  have h2 : 2 ^ w ≤ 2 ^ 63 := Nat.pow_le_pow_right (by omega) hw
  rw [bits_and_u64_nat _ _ (by omega) (by omega), Nat.and_two_pow_sub_one_eq_mod, Nat.mod_eq_of_lt hx]
theorem and255 (y : Nat) (hy : y < 18446744073709551616) : bits .and .u64 (y : Int) 255 = ((y % 256 : Nat) : Int) := by
  have h := bits_and_u64_nat y 255 hy (by omega)
  rw [show ((255 : Nat) : Int) = 255 from rfl] at h
  rw [h, show (255 : Nat) = 2 ^ 8 - 1 from rfl, Nat.and_two_pow_sub_one_eq_mod]
def i8N (x : Int) : Nat := (x % 256).toNat
theorem i8N_lt (x : Int) : i8N x < 256 := by unfold i8N; omega
set_option maxHeartbeats 1000000 in
theorem snd42 {m : Mem} {c : Nat} {p : V} {t : List V} {l : List Nat} {x : Nat} (hc : Cd m c l) (hp : Tg c m p (.int .u16 (x : Int) :: t)) (hx : x < 65536) : Snd Try.prog 42 [.ptr c 0, p, .int .i64 2] m (WQ c m l (enc x 2)) := by
  refine Snd_of_W fol rfl rfl (by kernel_rfl) (by kernel_rfl) ?_
  have hnn := hp.nn
  simp only [nonnil] at hnn
  have ld := hp.load1 (s := 1)
  have a1 : IntKind.i64.wrap (8 * 2) = 16 := rfl
  have a2 : IntKind.i64.wrap (16 - 1) = 15 := rfl
  have a3 : IntKind.u64.wrap 15 = 15 := rfl
  have a4 : IntKind.u64.wrap (1 * 2 ^ min 15 IntKind.u64.bits) = 32768 := rfl
  have a5 : IntKind.u64.wrap (32768 * 2 ^ min 1 IntKind.u64.bits) = 65536 := rfl
  have a6 : IntKind.u64.wrap (65536 - 1) = 65535 := rfl
  have a7 := and_mask x 16 (by omega) (by omega)
  rw [show ((2 ^ 16 - 1 : Nat) : Int) = 65535 from rfl] at a7
  have a8 := wrapU x (by omega)
  have a9 : IntKind.u16.wrap (x : Int) = (x : Int) := by rw [IntKind.wrap_u16]; omega
  have hlt := hc.lt
  simp -implicitDefEqProofs only [sims.1, fx.1, keeps.1, tick_on, calleeK, extractV, oneV, faddrK, nonnil, b_shr, b_shl, fieldK, Nat.reduceAdd, Nat.reduceMul, Nat.reduceSub, Nat.reduceEqDiff, Nat.reduceLT, Nat.reduceLeDiff, Nat.reduceBEq, Nat.reduceBNe, reduceIte, Int.reduceEq, Int.reduceLT, Int.reduceLE, Int.reduceNe, Int.reduceToNat, hnn, ld, a1, a2, a3, a4, a5, a6, a7, a8]
  have hs : ∀ (b : B), (m ++ [b])[m.length]? = some b := fun b => by simp
  have hset : (m ++ [B.var 24 [.int .u64 0]]).set m.length (.var 24 [.int .u64 (x : Int)]) = m ++ [B.var 24 [.int .u64 (x : Int)]] := by simp
  simp -implicitDefEqProofs only [sims.1, fx.1, keeps.1, tick_on, calleeK, extractV, oneV, faddrK, nonnil, b_shr, b_shl, fieldK, Nat.reduceAdd, Nat.reduceMul, Nat.reduceSub, Nat.reduceEqDiff, Nat.reduceLT, Nat.reduceLeDiff, Nat.reduceBEq, Nat.reduceBNe, reduceIte, Int.reduceEq, Int.reduceLT, Int.reduceLE, Int.reduceNe, Int.reduceToNat, hs, hset]
  refine callD_w (snd31 (n := 2) (hc.app _) (Tg.var (q := m.length) (hs _) (by omega)) (by omega) (by omega)) en31 ?_ ?_
  · intro m' h1 h2
    have hq := h1.2 m.length 24 _ (by omega) (hs _)
    have hk := (Kv.app hc _).trans h1
    have st := (hp.keep hk).still
    simp -implicitDefEqProofs only [sims.1, fx.1, keeps.1, tick_on, calleeK, extractV, oneV, faddrK, nonnil, b_shr, b_shl, fieldK, Nat.reduceAdd, Nat.reduceMul, Nat.reduceSub, Nat.reduceEqDiff, Nat.reduceLT, Nat.reduceLeDiff, Nat.reduceBEq, Nat.reduceBNe, reduceIte, Int.reduceEq, Int.reduceLT, Int.reduceLE, Int.reduceNe, Int.reduceToNat, hq, a9, hnn, st]
    exact .inl ⟨m', rfl, hk, h2⟩
  · intro m' h1 h2
    exact .inr ⟨m', rfl, (Kv.app hc _).trans h1, h2⟩
set_option maxHeartbeats 1000000 in
theorem snd22 {m : Mem} {c : Nat} {p : V} {t : List V} {l : List Nat} {x : Nat} (hc : Cd m c l) (hp : Tg c m p (.int .u32 (x : Int) :: t)) (hx : x < 4294967296) : Snd Try.prog 22 [.ptr c 0, p, .int .i64 4] m (WQ c m l (enc x 4)) := by
  refine Snd_of_W fol rfl rfl (by kernel_rfl) (by kernel_rfl) ?_
  have hnn := hp.nn
  simp only [nonnil] at hnn
  have ld := hp.load1 (s := 1)
  have a1 : IntKind.i64.wrap (8 * 4) = 32 := rfl
  have a2 : IntKind.i64.wrap (32 - 1) = 31 := rfl
  have a3 : IntKind.u64.wrap 31 = 31 := rfl
  have a4 : IntKind.u64.wrap (1 * 2 ^ min 31 IntKind.u64.bits) = 2147483648 := rfl
  have a5 : IntKind.u64.wrap (2147483648 * 2 ^ min 1 IntKind.u64.bits) = 4294967296 := rfl
  have a6 : IntKind.u64.wrap (4294967296 - 1) = 4294967295 := rfl
  have a7 := and_mask x 32 (by omega) (by omega)
  rw [show ((2 ^ 32 - 1 : Nat) : Int) = 4294967295 from rfl] at a7
  have a8 := wrapU x (by omega)
  have a9 : IntKind.u32.wrap (x : Int) = (x : Int) := by rw [IntKind.wrap_u32]; omega
  have hlt := hc.lt
  simp -implicitDefEqProofs only [sims.1, fx.1, keeps.1, tick_on, calleeK, extractV, oneV, faddrK, nonnil, b_shr, b_shl, fieldK, Nat.reduceAdd, Nat.reduceMul, Nat.reduceSub, Nat.reduceEqDiff, Nat.reduceLT, Nat.reduceLeDiff, Nat.reduceBEq, Nat.reduceBNe, reduceIte, Int.reduceEq, Int.reduceLT, Int.reduceLE, Int.reduceNe, Int.reduceToNat, hnn, ld, a1, a2, a3, a4, a5, a6, a7, a8]
  have hs : ∀ (b : B), (m ++ [b])[m.length]? = some b := fun b => by simp
  have hset : (m ++ [B.var 24 [.int .u64 0]]).set m.length (.var 24 [.int .u64 (x : Int)]) = m ++ [B.var 24 [.int .u64 (x : Int)]] := by simp
  simp -implicitDefEqProofs only [sims.1, fx.1, keeps.1, tick_on, calleeK, extractV, oneV, faddrK, nonnil, b_shr, b_shl, fieldK, Nat.reduceAdd, Nat.reduceMul, Nat.reduceSub, Nat.reduceEqDiff, Nat.reduceLT, Nat.reduceLeDiff, Nat.reduceBEq, Nat.reduceBNe, reduceIte, Int.reduceEq, Int.reduceLT, Int.reduceLE, Int.reduceNe, Int.reduceToNat, hs, hset]
  refine callD_w (snd31 (n := 4) (hc.app _) (Tg.var (q := m.length) (hs _) (by omega)) (by omega) (by omega)) en31 ?_ ?_
  · intro m' h1 h2
    have hq := h1.2 m.length 24 _ (by omega) (hs _)
    have hk := (Kv.app hc _).trans h1
    have st := (hp.keep hk).still
    simp -implicitDefEqProofs only [sims.1, fx.1, keeps.1, tick_on, calleeK, extractV, oneV, faddrK, nonnil, b_shr, b_shl, fieldK, Nat.reduceAdd, Nat.reduceMul, Nat.reduceSub, Nat.reduceEqDiff, Nat.reduceLT, Nat.reduceLeDiff, Nat.reduceBEq, Nat.reduceBNe, reduceIte, Int.reduceEq, Int.reduceLT, Int.reduceLE, Int.reduceNe, Int.reduceToNat, hq, a9, hnn, st]
    exact .inl ⟨m', rfl, hk, h2⟩
  · intro m' h1 h2
    exact .inr ⟨m', rfl, (Kv.app hc _).trans h1, h2⟩
set_option maxHeartbeats 1000000 in
theorem snd49 {m : Mem} {c : Nat} {p : V} {t : List V} {l : List Nat} {x : Nat} (hc : Cd m c l) (hp : Tg c m p (.int .u8 (x : Int) :: t)) (hx : x < 256) : Snd Try.prog 49 [.ptr c 0, p, .int .i64 1] m (WQ c m l (enc x 1)) := by
  refine Snd_of_W fol rfl rfl (by kernel_rfl) (by kernel_rfl) ?_
  have hnn := hp.nn
  simp only [nonnil] at hnn
  have ld := hp.load1 (s := 1)
  have a1 : IntKind.i64.wrap (8 * 1) = 8 := rfl
  have a2 : IntKind.i64.wrap (8 - 1) = 7 := rfl
  have a3 : IntKind.u64.wrap 7 = 7 := rfl
  have a4 : IntKind.u64.wrap (1 * 2 ^ min 7 IntKind.u64.bits) = 128 := rfl
  have a5 : IntKind.u64.wrap (128 * 2 ^ min 1 IntKind.u64.bits) = 256 := rfl
  have a6 : IntKind.u64.wrap (256 - 1) = 255 := rfl
  have a7 := and_mask x 8 (by omega) (by omega)
  rw [show ((2 ^ 8 - 1 : Nat) : Int) = 255 from rfl] at a7
  have a8 := wrapU x (by omega)
  have a9 : IntKind.u8.wrap (x : Int) = (x : Int) := by rw [IntKind.wrap_u8]; omega
  have hlt := hc.lt
  simp -implicitDefEqProofs only [sims.1, fx.1, keeps.1, tick_on, calleeK, extractV, oneV, faddrK, nonnil, b_shr, b_shl, fieldK, Nat.reduceAdd, Nat.reduceMul, Nat.reduceSub, Nat.reduceEqDiff, Nat.reduceLT, Nat.reduceLeDiff, Nat.reduceBEq, Nat.reduceBNe, reduceIte, Int.reduceEq, Int.reduceLT, Int.reduceLE, Int.reduceNe, Int.reduceToNat, hnn, ld, a1, a2, a3, a4, a5, a6, a7, a8]
  have hs : ∀ (b : B), (m ++ [b])[m.length]? = some b := fun b => by simp
  have hset : (m ++ [B.var 24 [.int .u64 0]]).set m.length (.var 24 [.int .u64 (x : Int)]) = m ++ [B.var 24 [.int .u64 (x : Int)]] := by simp
  simp -implicitDefEqProofs only [sims.1, fx.1, keeps.1, tick_on, calleeK, extractV, oneV, faddrK, nonnil, b_shr, b_shl, fieldK, Nat.reduceAdd, Nat.reduceMul, Nat.reduceSub, Nat.reduceEqDiff, Nat.reduceLT, Nat.reduceLeDiff, Nat.reduceBEq, Nat.reduceBNe, reduceIte, Int.reduceEq, Int.reduceLT, Int.reduceLE, Int.reduceNe, Int.reduceToNat, hs, hset]
  refine callD_w (snd31 (n := 1) (hc.app _) (Tg.var (q := m.length) (hs _) (by omega)) (by omega) (by omega)) en31 ?_ ?_
  · intro m' h1 h2
    have hq := h1.2 m.length 24 _ (by omega) (hs _)
    have hk := (Kv.app hc _).trans h1
    have st := (hp.keep hk).still
    simp -implicitDefEqProofs only [sims.1, fx.1, keeps.1, tick_on, calleeK, extractV, oneV, faddrK, nonnil, b_shr, b_shl, fieldK, Nat.reduceAdd, Nat.reduceMul, Nat.reduceSub, Nat.reduceEqDiff, Nat.reduceLT, Nat.reduceLeDiff, Nat.reduceBEq, Nat.reduceBNe, reduceIte, Int.reduceEq, Int.reduceLT, Int.reduceLE, Int.reduceNe, Int.reduceToNat, hq, a9, hnn, st]
    exact .inl ⟨m', rfl, hk, h2⟩
  · intro m' h1 h2
    exact .inr ⟨m', rfl, (Kv.app hc _).trans h1, h2⟩
set_option maxHeartbeats 1000000 in
theorem snd52 {m : Mem} {c : Nat} {p : V} {t : List V} {l : List Nat} {x : Int} (hc : Cd m c l) (hp : Tg c m p (.int .i8 x :: t)) (h1 : -128 ≤ x) (h2 : x < 128) : Snd Try.prog 52 [.ptr c 0, p, .int .i64 1] m (WQ c m l (enc (i8N x) 1)) := by
  refine Snd_of_W fol rfl rfl (by kernel_rfl) (by kernel_rfl) ?_
  have hnn := hp.nn
  simp only [nonnil] at hnn
  have ld := hp.load1 (s := 1)
  have a1 : IntKind.i64.wrap (8 * 1) = 8 := rfl
  have a2 : IntKind.i64.wrap (8 - 1) = 7 := rfl
  have a3 : IntKind.u64.wrap 7 = 7 := rfl
  have a4 : IntKind.u64.wrap (1 * 2 ^ min 7 IntKind.u64.bits) = 128 := rfl
  have a5 : IntKind.u64.wrap (128 * 2 ^ min 1 IntKind.u64.bits) = 256 := rfl
  have a6 : IntKind.u64.wrap (256 - 1) = 255 := rfl
  have a8 : IntKind.u64.wrap x = (((x % 18446744073709551616).toNat : Nat) : Int) := by rw [IntKind.wrap_u64]; omega
  have a7 := and255 (x % 18446744073709551616).toNat (by omega)
  rw [show (x % 18446744073709551616).toNat % 256 = i8N x from by unfold i8N; omega] at a7
  have a9 : IntKind.i8.wrap ((i8N x : Nat) : Int) = x := by simp [IntKind.wrap, IntKind.bits, IntKind.signed, i8N]; omega
  have hlt := hc.lt
  simp -implicitDefEqProofs only [sims.1, fx.1, keeps.1, tick_on, calleeK, extractV, oneV, faddrK, nonnil, b_shr, b_shl, fieldK, Nat.reduceAdd, Nat.reduceMul, Nat.reduceSub, Nat.reduceEqDiff, Nat.reduceLT, Nat.reduceLeDiff, Nat.reduceBEq, Nat.reduceBNe, reduceIte, Int.reduceEq, Int.reduceLT, Int.reduceLE, Int.reduceNe, Int.reduceToNat, hnn, ld, a1, a2, a3, a4, a5, a6, a7, a8]
  have hs : ∀ (b : B), (m ++ [b])[m.length]? = some b := fun b => by simp
  have hset : (m ++ [B.var 24 [.int .u64 0]]).set m.length (.var 24 [.int .u64 (i8N x : Int)]) = m ++ [B.var 24 [.int .u64 (i8N x : Int)]] := by simp
  simp -implicitDefEqProofs only [sims.1, fx.1, keeps.1, tick_on, calleeK, extractV, oneV, faddrK, nonnil, b_shr, b_shl, fieldK, Nat.reduceAdd, Nat.reduceMul, Nat.reduceSub, Nat.reduceEqDiff, Nat.reduceLT, Nat.reduceLeDiff, Nat.reduceBEq, Nat.reduceBNe, reduceIte, Int.reduceEq, Int.reduceLT, Int.reduceLE, Int.reduceNe, Int.reduceToNat, hs, hset]
  refine callD_w (snd31 (n := 1) (hc.app _) (Tg.var (q := m.length) (hs _) (by omega)) (by omega) (by omega)) en31 ?_ ?_
  · intro m' h1 h2
    have hq := h1.2 m.length 24 _ (by omega) (hs _)
    have hk := (Kv.app hc _).trans h1
    have st := (hp.keep hk).still
    simp -implicitDefEqProofs only [sims.1, fx.1, keeps.1, tick_on, calleeK, extractV, oneV, faddrK, nonnil, b_shr, b_shl, fieldK, Nat.reduceAdd, Nat.reduceMul, Nat.reduceSub, Nat.reduceEqDiff, Nat.reduceLT, Nat.reduceLeDiff, Nat.reduceBEq, Nat.reduceBNe, reduceIte, Int.reduceEq, Int.reduceLT, Int.reduceLE, Int.reduceNe, Int.reduceToNat, hq, a9, hnn, st]
    exact .inl ⟨m', rfl, hk, h2⟩
  · intro m' h1 h2
    exact .inr ⟨m', rfl, (Kv.app hc _).trans h1, h2⟩
end Go.Proofs.Ytjjenpdjmcmgbaa
