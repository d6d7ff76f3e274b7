/- Whole numbers of each kind, written. No condition. Whole numbers of each kind, read. No condition. -/
import Derived.Test.YtjjenpdjmcmgbaaDXb
namespace Go.Proofs.Ytjjenpdjmcmgbaa
open Go Ab
set_option linter.unusedSimpArgs false
set_option linter.unusedVariables false
set_option maxRecDepth 20000
theorem and_mask (x w : Nat) (hx : x < 2 ^ w) (hw : w ≤ 63) : bits .and .u64 (x : Int) ((2 ^ w - 1 : Nat) : Int) = (x : Int) := by
  have h2 : 2 ^ w ≤ 2 ^ 63 := Nat.pow_le_pow_right (by omega) hw
  rw [bits_and_u64_nat _ _ (by omega) (by omega), Nat.and_two_pow_sub_one_eq_mod, Nat.mod_eq_of_lt hx]
theorem and255 (y : Nat) (hy : y < 18446744073709551616) : bits .and .u64 (y : Int) 255 = ((y % 256 : Nat) : Int) := by
  have h := bits_and_u64_nat y 255 hy (by omega)
  rw [show ((255 : Nat) : Int) = 255 from rfl] at h
  rw [h, show (255 : Nat) = 2 ^ 8 - 1 from rfl, Nat.and_two_pow_sub_one_eq_mod]
def i8N (x : Int) : Nat := (x % 256).toNat
theorem i8N_lt (x : Int) : i8N x < 256 := by unfold i8N; omega
set_option maxHeartbeats 1000000 in
theorem snd42 {m : Mem} {c : Nat} {p : V} {t : List V} {l : List Nat} {x : Nat} (hc : Cd m c l) (hp : Tg c m p (.int .u16 (x : Int) :: t)) (hx : x < 65536) : Snd Try.prog 42 [.ptr c 0, p, .int .i64 2] m (WQ c m l (enc x 2)) := by
  refine Snd_of_W fol rfl rfl (by kernel_rfl) (by kernel_rfl) ?_
  have hnn := hp.nn
  simp only [nonnil] at hnn
  have ld := hp.load1 (s := 1)
  have a1 : IntKind.i64.wrap (8 * 2) = 16 := rfl
  have a2 : IntKind.i64.wrap (16 - 1) = 15 := rfl
  have a3 : IntKind.u64.wrap 15 = 15 := rfl
  have a4 : IntKind.u64.wrap (1 * 2 ^ min 15 IntKind.u64.bits) = 32768 := rfl
  have a5 : IntKind.u64.wrap (32768 * 2 ^ min 1 IntKind.u64.bits) = 65536 := rfl
  have a6 : IntKind.u64.wrap (65536 - 1) = 65535 := rfl
  have a7 := and_mask x 16 (by omega) (by omega)
  rw [show ((2 ^ 16 - 1 : Nat) : Int) = 65535 from rfl] at a7
  have a8 := wrapU x (by omega)
  have a9 : IntKind.u16.wrap (x : Int) = (x : Int) := by rw [IntKind.wrap_u16]; omega
  have hlt := hc.lt
  simp -implicitDefEqProofs only [sims.1, fx.1, keeps.1, tick_on, nonnil, b_shl, Nat.reduceEqDiff, Int.reduceLT, Int.reduceToNat, hnn, ld, a1, a2, a3, a4, a5, a6, a7, a8]
  have hs : ∀ (b : B), (m ++ [b])[m.length]? = some b := fun b => by simp
  have hset : (m ++ [B.var 24 [.int .u64 0]]).set m.length (.var 24 [.int .u64 (x : Int)]) = m ++ [B.var 24 [.int .u64 (x : Int)]] := by simp
  simp -implicitDefEqProofs only [sims.1, keeps.1, tick_on, calleeK, Nat.reduceEqDiff, Nat.reduceLT, hs, hset]
  refine callD_w (snd31 (n := 2) (hc.app _) (Tg.var (q := m.length) (hs _) (by omega)) (by omega) (by omega)) en31 ?_ ?_
  · intro m' h1 h2
    have hq := h1.2 m.length 24 _ (by omega) (hs _)
    have hk := (Kv.app hc _).trans h1
    have st := (hp.keep hk).still
    simp -implicitDefEqProofs only [sims.1, fx.1, keeps.1, tick_on, nonnil, Nat.reduceEqDiff, hq, a9, hnn, st]
    exact .inl ⟨m', rfl, hk, h2⟩
  · intro m' h1 h2
    exact .inr ⟨m', rfl, (Kv.app hc _).trans h1, h2⟩
set_option maxHeartbeats 1000000 in
theorem snd22 {m : Mem} {c : Nat} {p : V} {t : List V} {l : List Nat} {x : Nat} (hc : Cd m c l) (hp : Tg c m p (.int .u32 (x : Int) :: t)) (hx : x < 4294967296) : Snd Try.prog 22 [.ptr c 0, p, .int .i64 4] m (WQ c m l (enc x 4)) := by
  refine Snd_of_W fol rfl rfl (by kernel_rfl) (by kernel_rfl) ?_
  have hnn := hp.nn
  simp only [nonnil] at hnn
  have ld := hp.load1 (s := 1)
  have a1 : IntKind.i64.wrap (8 * 4) = 32 := rfl
  have a2 : IntKind.i64.wrap (32 - 1) = 31 := rfl
  have a3 : IntKind.u64.wrap 31 = 31 := rfl
  have a4 : IntKind.u64.wrap (1 * 2 ^ min 31 IntKind.u64.bits) = 2147483648 := rfl
  have a5 : IntKind.u64.wrap (2147483648 * 2 ^ min 1 IntKind.u64.bits) = 4294967296 := rfl
  have a6 : IntKind.u64.wrap (4294967296 - 1) = 4294967295 := rfl
  have a7 := and_mask x 32 (by omega) (by omega)
  rw [show ((2 ^ 32 - 1 : Nat) : Int) = 4294967295 from rfl] at a7
  have a8 := wrapU x (by omega)
  have a9 : IntKind.u32.wrap (x : Int) = (x : Int) := by rw [IntKind.wrap_u32]; omega
  have hlt := hc.lt
  simp -implicitDefEqProofs only [sims.1, fx.1, keeps.1, tick_on, nonnil, b_shl, Nat.reduceEqDiff, Int.reduceLT, Int.reduceToNat, hnn, ld, a1, a2, a3, a4, a5, a6, a7, a8]
  have hs : ∀ (b : B), (m ++ [b])[m.length]? = some b := fun b => by simp
  have hset : (m ++ [B.var 24 [.int .u64 0]]).set m.length (.var 24 [.int .u64 (x : Int)]) = m ++ [B.var 24 [.int .u64 (x : Int)]] := by simp
  simp -implicitDefEqProofs only [sims.1, keeps.1, tick_on, calleeK, Nat.reduceEqDiff, Nat.reduceLT, hs, hset]
  refine callD_w (snd31 (n := 4) (hc.app _) (Tg.var (q := m.length) (hs _) (by omega)) (by omega) (by omega)) en31 ?_ ?_
  · intro m' h1 h2
    have hq := h1.2 m.length 24 _ (by omega) (hs _)
    have hk := (Kv.app hc _).trans h1
    have st := (hp.keep hk).still
    simp -implicitDefEqProofs only [sims.1, fx.1, keeps.1, tick_on, nonnil, Nat.reduceEqDiff, hq, a9, hnn, st]
    exact .inl ⟨m', rfl, hk, h2⟩
  · intro m' h1 h2
    exact .inr ⟨m', rfl, (Kv.app hc _).trans h1, h2⟩
set_option maxHeartbeats 1000000 in
theorem snd49 {m : Mem} {c : Nat} {p : V} {t : List V} {l : List Nat} {x : Nat} (hc : Cd m c l) (hp : Tg c m p (.int .u8 (x : Int) :: t)) (hx : x < 256) : Snd Try.prog 49 [.ptr c 0, p, .int .i64 1] m (WQ c m l (enc x 1)) := by
  refine Snd_of_W fol rfl rfl (by kernel_rfl) (by kernel_rfl) ?_
  have hnn := hp.nn
  simp only [nonnil] at hnn
  have ld := hp.load1 (s := 1)
  have a1 : IntKind.i64.wrap (8 * 1) = 8 := rfl
  have a2 : IntKind.i64.wrap (8 - 1) = 7 := rfl
  have a3 : IntKind.u64.wrap 7 = 7 := rfl
  have a4 : IntKind.u64.wrap (1 * 2 ^ min 7 IntKind.u64.bits) = 128 := rfl
  have a5 : IntKind.u64.wrap (128 * 2 ^ min 1 IntKind.u64.bits) = 256 := rfl
  have a6 : IntKind.u64.wrap (256 - 1) = 255 := rfl
  have a7 := and_mask x 8 (by omega) (by omega)
  rw [show ((2 ^ 8 - 1 : Nat) : Int) = 255 from rfl] at a7
  have a8 := wrapU x (by omega)
  have a9 : IntKind.u8.wrap (x : Int) = (x : Int) := by rw [IntKind.wrap_u8]; omega
  have hlt := hc.lt
  simp -implicitDefEqProofs only [sims.1, fx.1, keeps.1, tick_on, nonnil, b_shl, Nat.reduceEqDiff, Int.reduceLT, Int.reduceToNat, hnn, ld, a1, a2, a3, a4, a5, a6, a7, a8]
  have hs : ∀ (b : B), (m ++ [b])[m.length]? = some b := fun b => by simp
  have hset : (m ++ [B.var 24 [.int .u64 0]]).set m.length (.var 24 [.int .u64 (x : Int)]) = m ++ [B.var 24 [.int .u64 (x : Int)]] := by simp
  simp -implicitDefEqProofs only [sims.1, keeps.1, tick_on, calleeK, Nat.reduceEqDiff, Nat.reduceLT, hs, hset]
  refine callD_w (snd31 (n := 1) (hc.app _) (Tg.var (q := m.length) (hs _) (by omega)) (by omega) (by omega)) en31 ?_ ?_
  · intro m' h1 h2
    have hq := h1.2 m.length 24 _ (by omega) (hs _)
    have hk := (Kv.app hc _).trans h1
    have st := (hp.keep hk).still
    simp -implicitDefEqProofs only [sims.1, fx.1, keeps.1, tick_on, nonnil, Nat.reduceEqDiff, hq, a9, hnn, st]
    exact .inl ⟨m', rfl, hk, h2⟩
  · intro m' h1 h2
    exact .inr ⟨m', rfl, (Kv.app hc _).trans h1, h2⟩
set_option maxHeartbeats 1000000 in
theorem snd52 {m : Mem} {c : Nat} {p : V} {t : List V} {l : List Nat} {x : Int} (hc : Cd m c l) (hp : Tg c m p (.int .i8 x :: t)) (h1 : -128 ≤ x) (h2 : x < 128) : Snd Try.prog 52 [.ptr c 0, p, .int .i64 1] m (WQ c m l (enc (i8N x) 1)) := by
  refine Snd_of_W fol rfl rfl (by kernel_rfl) (by kernel_rfl) ?_
  have hnn := hp.nn
  simp only [nonnil] at hnn
  have ld := hp.load1 (s := 1)
  have a1 : IntKind.i64.wrap (8 * 1) = 8 := rfl
  have a2 : IntKind.i64.wrap (8 - 1) = 7 := rfl
  have a3 : IntKind.u64.wrap 7 = 7 := rfl
  have a4 : IntKind.u64.wrap (1 * 2 ^ min 7 IntKind.u64.bits) = 128 := rfl
  have a5 : IntKind.u64.wrap (128 * 2 ^ min 1 IntKind.u64.bits) = 256 := rfl
  have a6 : IntKind.u64.wrap (256 - 1) = 255 := rfl
  have a8 : IntKind.u64.wrap x = (((x % 18446744073709551616).toNat : Nat) : Int) := by rw [IntKind.wrap_u64]; omega
  have a7 := and255 (x % 18446744073709551616).toNat (by omega)
  rw [show (x % 18446744073709551616).toNat % 256 = i8N x from by unfold i8N; omega] at a7
  have a9 : IntKind.i8.wrap ((i8N x : Nat) : Int) = x := by simp [IntKind.wrap, IntKind.bits, IntKind.signed, i8N]; omega
  have hlt := hc.lt
  simp -implicitDefEqProofs only [sims.1, fx.1, keeps.1, tick_on, nonnil, b_shl, Nat.reduceEqDiff, Int.reduceLT, Int.reduceToNat, hnn, ld, a1, a2, a3, a4, a5, a6, a7, a8]
  have hs : ∀ (b : B), (m ++ [b])[m.length]? = some b := fun b => by simp
  have hset : (m ++ [B.var 24 [.int .u64 0]]).set m.length (.var 24 [.int .u64 (i8N x : Int)]) = m ++ [B.var 24 [.int .u64 (i8N x : Int)]] := by simp
  simp -implicitDefEqProofs only [sims.1, keeps.1, tick_on, calleeK, Nat.reduceEqDiff, Nat.reduceLT, hs, hset]
  refine callD_w (snd31 (n := 1) (hc.app _) (Tg.var (q := m.length) (hs _) (by omega)) (by omega) (by omega)) en31 ?_ ?_
  · intro m' h1 h2
    have hq := h1.2 m.length 24 _ (by omega) (hs _)
    have hk := (Kv.app hc _).trans h1
    have st := (hp.keep hk).still
    simp -implicitDefEqProofs only [sims.1, fx.1, keeps.1, tick_on, nonnil, Nat.reduceEqDiff, hq, a9, hnn, st]
    exact .inl ⟨m', rfl, hk, h2⟩
  · intro m' h1 h2
    exact .inr ⟨m', rfl, (Kv.app hc _).trans h1, h2⟩
end Go.Proofs.Ytjjenpdjmcmgbaa
namespace Go.Proofs.Ytjjenpdjmcmgbaa
open Go Ab
set_option linter.unusedSimpArgs false
set_option linter.unusedVariables false
set_option maxRecDepth 20000
/-- What comes of a reading call: the target's cells and what is left, or the message is wrong. -/
def RQ (c q ty : Nat) (l : List V) (m : Mem) : Option (List V × List Nat) → CR → Prop
  | some p, r => ∃ m', r = .ret (.tup []) m' ∧ K2 c q m m' ∧ Cr m' c p.2 ∧ m'[q]? = some (.var ty p.1)
  | none, r => ∃ m' l', r = .pan wrongV m' ∧ K2 c q m m' ∧ m'[q]? = some (.var ty l') ∧ l'.length = l.length
def rdN (n : Nat) (rest : List Nat) : Option (Nat × List Nat) := if n ≤ rest.length then some (beV (rest.take n), rest.drop n) else none
/-- A cell that was read. -/
def cellR (l : List V) (o : Nat) (p : Option (V × List Nat)) : Option (List V × List Nat) := p.map fun p => (l.set o p.1, p.2)
theorem RN_RQ {c q ty o n : Nat} {l : List V} {rest : List Nat} {m : Mem} {r : CR} (h : RN c q ty o n l rest m r) : RQ c q ty l m (cellR l o ((rdN n rest).map fun p => (.int .u64 (p.1 : Int), p.2))) r := by
  rcases h with ⟨h1, m', h2, h3, h4, h5⟩ | ⟨h1, m', h2, h3, h4⟩
  · simp only [rdN, if_pos h1, cellR, Option.map_some]
    exact ⟨m', h2, h3, h4, h5⟩
  · simp only [rdN, if_neg (show ¬ n ≤ rest.length by omega), cellR, Option.map_none]
    exact ⟨m', l, h2, h3, h4, rfl⟩
theorem callD_r {f : FuncId} {vs : List V} {m : Mem} {K Kp : V → Mem → Prop} {c q ty : Nat} {l : List V} {p : Option (List V × List Nat)} (h : Snd Try.prog f vs m (RQ c q ty l m p)) (he : enterable Try.prog f = true)
    (hr : ∀ l' rest' m1, p = some (l', rest') → K2 c q m m1 → Cr m1 c rest' → m1[q]? = some (.var ty l') → K (.tup []) m1)
    (hp : ∀ l' m1, p = none → K2 c q m m1 → m1[q]? = some (.var ty l') → l'.length = l.length → Kp wrongV m1) : callD Try.prog f vs m K Kp := by
  refine callD_q h he ?_ ?_
  · intro v m1 h
    cases p with
    | none => obtain ⟨_, _, h1, _⟩ := h; cases h1
    | some p => obtain ⟨m', h1, h2, h3, h4⟩ := h; cases h1; exact hr _ _ _ rfl h2 h3 h4
  · intro v m1 h
    cases p with
    | some p => obtain ⟨m', h1, _⟩ := h; cases h1
    | none => obtain ⟨m', l', h1, h2, h3, h4⟩ := h; cases h1; exact hp _ _ rfl h2 h3 h4
theorem K2.app {c q : Nat} (m ex : Mem) : K2 c q m (m ++ ex) := ⟨by simp, fun k b _ _ h => by rw [List.getElem?_append_left (List.getElem?_eq_some_iff.1 h).1]; exact h⟩
theorem Cr.app {c : Nat} {m : Mem} {l : List Nat} (h : Cr m c l) (ex : Mem) : Cr (m ++ ex) c l := by
  unfold Cr
  rw [List.getElem?_append_left (List.getElem?_eq_some_iff.1 h).1]
  exact h
theorem Cr.lt {c : Nat} {m : Mem} {l : List Nat} (h : Cr m c l) : c < m.length := (List.getElem?_eq_some_iff.1 h).1
/-- A call with a target of its own, new one. -/
theorem K2.new {c q : Nat} {m m' : Mem} {ex : Mem} {k : Nat} (hk : m.length ≤ k) (h : K2 c k (m ++ ex) m') : K2 c q m m' :=
  ⟨by have := h.1; simp at this; omega, fun j b h1 h2 h3 => h.2 j b h1 (by have := (List.getElem?_eq_some_iff.1 h3).1; omega) (by rw [List.getElem?_append_left (List.getElem?_eq_some_iff.1 h3).1]; exact h3)⟩
theorem K2.set {c q : Nat} {m m' : Mem} (h : K2 c q m m') (b : B) : K2 c q m (m'.set q b) := ⟨by simpa using h.1, fun k b' h1 h2 h3 => by rw [List.getElem?_set_ne fun h => h2 h.symm]; exact h.2 k b' h1 h2 h3⟩
set_option maxHeartbeats 1000000 in
theorem snd42r {m : Mem} {c q ty o : Nat} {l : List V} {rest : List Nat} (hc : Cr m c rest) (hq : m[q]? = some (.var ty l)) (hqc : q ≠ c) (ho : l[o]? = some (.int .u16 0)) (hb : ∀ b ∈ rest, b < 256) (hL : rest.length < 281474976710656) :
    Snd Try.prog 42 [.ptr c 0, .ptr q o, .int .i64 2] m (RQ c q ty l m (cellR l o ((rdN 2 rest).map fun p => (.int .u16 (p.1 : Int), p.2)))) := by
  refine Snd_of_W fol rfl rfl (by kernel_rfl) (by kernel_rfl) ?_
  have hol : o < l.length := (List.getElem?_eq_some_iff.1 ho).1
  have hnn : ∀ k o, nonnil (.ptr k o) = true := fun _ _ => rfl
  have a1 : IntKind.i64.wrap (8 * 2) = 16 := rfl
  have a2 : IntKind.i64.wrap (16 - 1) = 15 := rfl
  have a3 : IntKind.u64.wrap 15 = 15 := rfl
  have a4 : IntKind.u64.wrap (1 * 2 ^ min 15 IntKind.u64.bits) = 32768 := rfl
  have a5 : IntKind.u64.wrap (32768 * 2 ^ min 1 IntKind.u64.bits) = 65536 := rfl
  have a6 : IntKind.u64.wrap (65536 - 1) = 65535 := rfl
  have a7 : bits .and .u64 0 65535 = 0 := by decide
  have a8 : IntKind.u64.wrap 0 = 0 := rfl
  have hs : ∀ (b : B), (m ++ [b])[m.length]? = some b := fun b => by simp
  have hset : (m ++ [B.var 24 [.int .u64 0]]).set m.length (.var 24 [.int .u64 0]) = m ++ [B.var 24 [.int .u64 0]] := by simp
  have hql := (List.getElem?_eq_some_iff.1 hq).1
  have hcl := hc.lt
  simp -implicitDefEqProofs only [sims.1, fx.1, keeps.1, tick_on, nonnil, b_shl, Nat.reduceEqDiff, Int.reduceLT, Int.reduceToNat, hq, ho, a1, a2, a3, a4, a5, a6, a7, a8]
  simp -implicitDefEqProofs only [sims.1, keeps.1, tick_on, calleeK, Nat.reduceEqDiff, Nat.reduceLT, hs, hset]
  refine callD_q (snd31r (n := 2) (hc.app _) (hs _) (by omega) rfl hb hL (by omega) (by omega)) en31 ?_ ?_
  · rintro v m1 (⟨h1, m', h2, h3, h4, h5⟩ | ⟨h1, m', h2, h3, h4⟩)
    rotate_left
    · cases h2
    cases h2
    have h5 : m1[m.length]? = some (.var 24 [.int .u64 (beV (rest.take 2) : Int)]) := h5
    have hv := beV_lt hb 2
    have w9 : IntKind.u16.wrap (beV (rest.take 2) : Int) = (beV (rest.take 2) : Int) := by rw [IntKind.wrap_u16]; omega
    have hqm : m1[q]? = some (.var ty l) := h3.2 q _ hqc (by omega) (by rw [List.getElem?_append_left hql]; exact hq)
    have hql' := (List.getElem?_eq_some_iff.1 hqm).1
    simp -implicitDefEqProofs only [sims.1, fx.1, keeps.1, tick_on, nonnil, Nat.reduceEqDiff, h5, w9, hqm, hol]
    rw [show (rdN 2 rest) = some (beV (rest.take 2), rest.drop 2) from if_pos h1]
    refine ⟨_, rfl, (h3.new (Nat.le_refl _)).set _, ?_, ?_⟩
    · unfold Cr
      rw [List.getElem?_set_ne hqc]
      exact h4
    · rw [List.getElem?_set_self hql']
  · rintro v m1 (⟨h1, m', h2, h3, h4, h5⟩ | ⟨h1, m', h2, h3, h4⟩)
    · cases h2
    cases h2
    rw [show (rdN 2 rest) = none from if_neg (by omega)]
    exact ⟨m1, l, rfl, h3.new (Nat.le_refl _), h3.2 q _ hqc (by omega) (by rw [List.getElem?_append_left hql]; exact hq), rfl⟩
set_option maxHeartbeats 1000000 in
theorem snd22r {m : Mem} {c q ty o : Nat} {l : List V} {rest : List Nat} (hc : Cr m c rest) (hq : m[q]? = some (.var ty l)) (hqc : q ≠ c) (ho : l[o]? = some (.int .u32 0)) (hb : ∀ b ∈ rest, b < 256) (hL : rest.length < 281474976710656) :
    Snd Try.prog 22 [.ptr c 0, .ptr q o, .int .i64 4] m (RQ c q ty l m (cellR l o ((rdN 4 rest).map fun p => (.int .u32 (p.1 : Int), p.2)))) := by
  refine Snd_of_W fol rfl rfl (by kernel_rfl) (by kernel_rfl) ?_
  have hol : o < l.length := (List.getElem?_eq_some_iff.1 ho).1
  have hnn : ∀ k o, nonnil (.ptr k o) = true := fun _ _ => rfl
  have a1 : IntKind.i64.wrap (8 * 4) = 32 := rfl
  have a2 : IntKind.i64.wrap (32 - 1) = 31 := rfl
  have a3 : IntKind.u64.wrap 31 = 31 := rfl
  have a4 : IntKind.u64.wrap (1 * 2 ^ min 31 IntKind.u64.bits) = 2147483648 := rfl
  have a5 : IntKind.u64.wrap (2147483648 * 2 ^ min 1 IntKind.u64.bits) = 4294967296 := rfl
  have a6 : IntKind.u64.wrap (4294967296 - 1) = 4294967295 := rfl
  have a7 : bits .and .u64 0 4294967295 = 0 := by decide
  have a8 : IntKind.u64.wrap 0 = 0 := rfl
  have hs : ∀ (b : B), (m ++ [b])[m.length]? = some b := fun b => by simp
  have hset : (m ++ [B.var 24 [.int .u64 0]]).set m.length (.var 24 [.int .u64 0]) = m ++ [B.var 24 [.int .u64 0]] := by simp
  have hql := (List.getElem?_eq_some_iff.1 hq).1
  have hcl := hc.lt
  simp -implicitDefEqProofs only [sims.1, fx.1, keeps.1, tick_on, nonnil, b_shl, Nat.reduceEqDiff, Int.reduceLT, Int.reduceToNat, hq, ho, a1, a2, a3, a4, a5, a6, a7, a8]
  simp -implicitDefEqProofs only [sims.1, keeps.1, tick_on, calleeK, Nat.reduceEqDiff, Nat.reduceLT, hs, hset]
  refine callD_q (snd31r (n := 4) (hc.app _) (hs _) (by omega) rfl hb hL (by omega) (by omega)) en31 ?_ ?_
  · rintro v m1 (⟨h1, m', h2, h3, h4, h5⟩ | ⟨h1, m', h2, h3, h4⟩)
    rotate_left
    · cases h2
    cases h2
    have h5 : m1[m.length]? = some (.var 24 [.int .u64 (beV (rest.take 4) : Int)]) := h5
    have hv := beV_lt hb 4
    have w9 : IntKind.u32.wrap (beV (rest.take 4) : Int) = (beV (rest.take 4) : Int) := by rw [IntKind.wrap_u32]; omega
    have hqm : m1[q]? = some (.var ty l) := h3.2 q _ hqc (by omega) (by rw [List.getElem?_append_left hql]; exact hq)
    have hql' := (List.getElem?_eq_some_iff.1 hqm).1
    simp -implicitDefEqProofs only [sims.1, fx.1, keeps.1, tick_on, nonnil, Nat.reduceEqDiff, h5, w9, hqm, hol]
    rw [show (rdN 4 rest) = some (beV (rest.take 4), rest.drop 4) from if_pos h1]
    refine ⟨_, rfl, (h3.new (Nat.le_refl _)).set _, ?_, ?_⟩
    · unfold Cr
      rw [List.getElem?_set_ne hqc]
      exact h4
    · rw [List.getElem?_set_self hql']
  · rintro v m1 (⟨h1, m', h2, h3, h4, h5⟩ | ⟨h1, m', h2, h3, h4⟩)
    · cases h2
    cases h2
    rw [show (rdN 4 rest) = none from if_neg (by omega)]
    exact ⟨m1, l, rfl, h3.new (Nat.le_refl _), h3.2 q _ hqc (by omega) (by rw [List.getElem?_append_left hql]; exact hq), rfl⟩
set_option maxHeartbeats 1000000 in
theorem snd49r {m : Mem} {c q ty o : Nat} {l : List V} {rest : List Nat} (hc : Cr m c rest) (hq : m[q]? = some (.var ty l)) (hqc : q ≠ c) (ho : l[o]? = some (.int .u8 0)) (hb : ∀ b ∈ rest, b < 256) (hL : rest.length < 281474976710656) :
    Snd Try.prog 49 [.ptr c 0, .ptr q o, .int .i64 1] m (RQ c q ty l m (cellR l o ((rdN 1 rest).map fun p => (.int .u8 (p.1 : Int), p.2)))) := by
  refine Snd_of_W fol rfl rfl (by kernel_rfl) (by kernel_rfl) ?_
  have hol : o < l.length := (List.getElem?_eq_some_iff.1 ho).1
  have hnn : ∀ k o, nonnil (.ptr k o) = true := fun _ _ => rfl
  have a1 : IntKind.i64.wrap (8 * 1) = 8 := rfl
  have a2 : IntKind.i64.wrap (8 - 1) = 7 := rfl
  have a3 : IntKind.u64.wrap 7 = 7 := rfl
  have a4 : IntKind.u64.wrap (1 * 2 ^ min 7 IntKind.u64.bits) = 128 := rfl
  have a5 : IntKind.u64.wrap (128 * 2 ^ min 1 IntKind.u64.bits) = 256 := rfl
  have a6 : IntKind.u64.wrap (256 - 1) = 255 := rfl
  have a7 : bits .and .u64 0 255 = 0 := by decide
  have a8 : IntKind.u64.wrap 0 = 0 := rfl
  have hs : ∀ (b : B), (m ++ [b])[m.length]? = some b := fun b => by simp
  have hset : (m ++ [B.var 24 [.int .u64 0]]).set m.length (.var 24 [.int .u64 0]) = m ++ [B.var 24 [.int .u64 0]] := by simp
  have hql := (List.getElem?_eq_some_iff.1 hq).1
  have hcl := hc.lt
  simp -implicitDefEqProofs only [sims.1, fx.1, keeps.1, tick_on, nonnil, b_shl, Nat.reduceEqDiff, Int.reduceLT, Int.reduceToNat, hq, ho, a1, a2, a3, a4, a5, a6, a7, a8]
  simp -implicitDefEqProofs only [sims.1, keeps.1, tick_on, calleeK, Nat.reduceEqDiff, Nat.reduceLT, hs, hset]
  refine callD_q (snd31r (n := 1) (hc.app _) (hs _) (by omega) rfl hb hL (by omega) (by omega)) en31 ?_ ?_
  · rintro v m1 (⟨h1, m', h2, h3, h4, h5⟩ | ⟨h1, m', h2, h3, h4⟩)
    rotate_left
    · cases h2
    cases h2
    have h5 : m1[m.length]? = some (.var 24 [.int .u64 (beV (rest.take 1) : Int)]) := h5
    have hv := beV_lt hb 1
    have w9 : IntKind.u8.wrap (beV (rest.take 1) : Int) = (beV (rest.take 1) : Int) := by rw [IntKind.wrap_u8]; omega
    have hqm : m1[q]? = some (.var ty l) := h3.2 q _ hqc (by omega) (by rw [List.getElem?_append_left hql]; exact hq)
    have hql' := (List.getElem?_eq_some_iff.1 hqm).1
    simp -implicitDefEqProofs only [sims.1, fx.1, keeps.1, tick_on, nonnil, Nat.reduceEqDiff, h5, w9, hqm, hol]
    rw [show (rdN 1 rest) = some (beV (rest.take 1), rest.drop 1) from if_pos h1]
    refine ⟨_, rfl, (h3.new (Nat.le_refl _)).set _, ?_, ?_⟩
    · unfold Cr
      rw [List.getElem?_set_ne hqc]
      exact h4
    · rw [List.getElem?_set_self hql']
  · rintro v m1 (⟨h1, m', h2, h3, h4, h5⟩ | ⟨h1, m', h2, h3, h4⟩)
    · cases h2
    cases h2
    rw [show (rdN 1 rest) = none from if_neg (by omega)]
    exact ⟨m1, l, rfl, h3.new (Nat.le_refl _), h3.2 q _ hqc (by omega) (by rw [List.getElem?_append_left hql]; exact hq), rfl⟩
set_option maxHeartbeats 1000000 in
theorem snd52r {m : Mem} {c q ty o : Nat} {l : List V} {rest : List Nat} (hc : Cr m c rest) (hq : m[q]? = some (.var ty l)) (hqc : q ≠ c) (ho : l[o]? = some (.int .i8 0)) (hb : ∀ b ∈ rest, b < 256) (hL : rest.length < 281474976710656) :
    Snd Try.prog 52 [.ptr c 0, .ptr q o, .int .i64 1] m (RQ c q ty l m (cellR l o ((rdN 1 rest).map fun p => (.int .i8 (IntKind.i8.wrap (p.1 : Int)), p.2)))) := by
  refine Snd_of_W fol rfl rfl (by kernel_rfl) (by kernel_rfl) ?_
  have hol : o < l.length := (List.getElem?_eq_some_iff.1 ho).1
  have hnn : ∀ k o, nonnil (.ptr k o) = true := fun _ _ => rfl
  have a1 : IntKind.i64.wrap (8 * 1) = 8 := rfl
  have a2 : IntKind.i64.wrap (8 - 1) = 7 := rfl
  have a3 : IntKind.u64.wrap 7 = 7 := rfl
  have a4 : IntKind.u64.wrap (1 * 2 ^ min 7 IntKind.u64.bits) = 128 := rfl
  have a5 : IntKind.u64.wrap (128 * 2 ^ min 1 IntKind.u64.bits) = 256 := rfl
  have a6 : IntKind.u64.wrap (256 - 1) = 255 := rfl
  have a7 : bits .and .u64 0 255 = 0 := by decide
  have a8 : IntKind.u64.wrap 0 = 0 := rfl
  have hs : ∀ (b : B), (m ++ [b])[m.length]? = some b := fun b => by simp
  have hset : (m ++ [B.var 24 [.int .u64 0]]).set m.length (.var 24 [.int .u64 0]) = m ++ [B.var 24 [.int .u64 0]] := by simp
  have hql := (List.getElem?_eq_some_iff.1 hq).1
  have hcl := hc.lt
  simp -implicitDefEqProofs only [sims.1, fx.1, keeps.1, tick_on, nonnil, b_shl, Nat.reduceEqDiff, Int.reduceLT, Int.reduceToNat, hq, ho, a1, a2, a3, a4, a5, a6, a7, a8]
  simp -implicitDefEqProofs only [sims.1, keeps.1, tick_on, calleeK, Nat.reduceEqDiff, Nat.reduceLT, hs, hset]
  refine callD_q (snd31r (n := 1) (hc.app _) (hs _) (by omega) rfl hb hL (by omega) (by omega)) en31 ?_ ?_
  · rintro v m1 (⟨h1, m', h2, h3, h4, h5⟩ | ⟨h1, m', h2, h3, h4⟩)
    rotate_left
    · cases h2
    cases h2
    have h5 : m1[m.length]? = some (.var 24 [.int .u64 (beV (rest.take 1) : Int)]) := h5
    have hv := beV_lt hb 1
    have w9 : True := trivial
    have hqm : m1[q]? = some (.var ty l) := h3.2 q _ hqc (by omega) (by rw [List.getElem?_append_left hql]; exact hq)
    have hql' := (List.getElem?_eq_some_iff.1 hqm).1
    simp -implicitDefEqProofs only [sims.1, fx.1, keeps.1, tick_on, nonnil, Nat.reduceEqDiff, h5, hqm, hol]
    rw [show (rdN 1 rest) = some (beV (rest.take 1), rest.drop 1) from if_pos h1]
    refine ⟨_, rfl, (h3.new (Nat.le_refl _)).set _, ?_, ?_⟩
    · unfold Cr
      rw [List.getElem?_set_ne hqc]
      exact h4
    · rw [List.getElem?_set_self hql']
  · rintro v m1 (⟨h1, m', h2, h3, h4, h5⟩ | ⟨h1, m', h2, h3, h4⟩)
    · cases h2
    cases h2
    rw [show (rdN 1 rest) = none from if_neg (by omega)]
    exact ⟨m1, l, rfl, h3.new (Nat.le_refl _), h3.2 q _ hqc (by omega) (by rw [List.getElem?_append_left hql]; exact hq), rfl⟩
end Go.Proofs.Ytjjenpdjmcmgbaa
