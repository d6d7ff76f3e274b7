/- Lists of each kind, written. No condition. -/
import Derived.Test.YtjjenpdjmcmgbaaDXc
namespace Go.Proofs.Ytjjenpdjmcmgbaa
open Go Ab
set_option linter.unusedSimpArgs false
set_option linter.unusedVariables false
set_option maxRecDepth 20000
theorem ltNat (j k : Nat) : decide ((j : Int) < (k : Int)) = decide (j < k) := by rw [Bool.eq_iff_iff]; simp
theorem ltC8 (k : Nat) : decide ((8192 : Int) < (k : Int)) = decide (8192 < k) := ltN8 k
theorem add1N (j : Nat) (h : j < 9223372036854775807) : IntKind.i64.wrap ((j : Int) + 1) = ((j + 1 : Nat) : Int) := by rw [IntKind.wrap_i64]; omega
theorem b84 : buildV Try.prog 84 [] = some (.agg []) := by kernel_rfl
theorem b62 : buildV Try.prog 62 [] = some (.agg []) := by kernel_rfl
theorem Cd.kv {m : Mem} {c : Nat} {l : List Nat} (h : Cd m c l) : ∃ x, m[c]? = some (.var 71 [x, .bool false]) := by obtain ⟨k, h, _⟩ := h; exact ⟨_, h⟩
theorem flat_len {α : Type} {g : α → List Nat} : ∀ {xs : List α}, (∀ x ∈ xs, 1 ≤ (g x).length) → xs.length ≤ (xs.flatMap g).length
  | [], _ => by simp
  | x :: r, h => by
    have h1 := h x (by simp)
    have h2 := flat_len (g := g) (xs := r) fun y hy => h y (by simp [hy])
    simp only [List.flatMap_cons, List.length_append, List.length_cons]
    omega
theorem flat_take {α : Type} {g : α → List Nat} {xs : List α} {j : Nat} (h : j < xs.length) : (xs.take (j + 1)).flatMap g = (xs.take j).flatMap g ++ g xs[j] := by
  rw [List.take_add_one, List.getElem?_eq_getElem h, List.flatMap_append]
  simp only [Option.toList_some, List.flatMap_cons, List.flatMap_nil, List.append_nil]
theorem flat_le {α : Type} {g : α → List Nat} (xs : List α) (j : Nat) : ((xs.take j).flatMap g).length ≤ (xs.flatMap g).length := by
  have : xs.flatMap g = (xs.take j).flatMap g ++ (xs.drop j).flatMap g := by rw [← List.flatMap_append, List.take_append_drop]
  rw [this, List.length_append]
  omega
def loopL (n f k : Nat) (p : V) (j : Nat) : List (Nat × V) := [(28, .int .i64 (n : Int)), (2, .fn f [] [.ptr k 0]), (1, p), (29, .int .i64 (j : Int))]
set_option maxHeartbeats 1000000 in
theorem snd44 {α : Type} (xs : List α) (f : α → List V) (g : α → List Nat) {m : Mem} {c k fid : Nat} {p : V} {t : List V} {l : List Nat} (hc : Cd m c l) (hp : Tg c m p (.isl 1 (xs.map f) :: t)) (he : enterable Try.prog fid = true)
    (hE : ∀ m' l' x, x ∈ xs → Kv c m m' → Cd m' c l' → Snd Try.prog fid [.ip (f x), .ptr k 0] m' (WQ c m' l' (g x))) (hpos : ∀ x ∈ xs, 1 ≤ (g x).length) (hlen : xs.length < 281474976710656) :
    Snd Try.prog 44 [.ptr c 0, p, .fn fid [] [.ptr k 0]] m (WQ c m l (enc xs.length 2 ++ xs.flatMap g)) := by
  refine Snd_of_W fol rfl rfl (by kernel_rfl) (by kernel_rfl) ?_
  have hnn := hp.nn
  simp only [nonnil] at hnn
  have ld := hp.load1 (s := 1)
  have hlt := hc.lt
  have a1 := wrapU xs.length (by omega)
  have hs : ∀ (b : B), (m ++ [b])[m.length]? = some b := fun b => by simp
  have hset : (m ++ [B.var 24 [.int .u64 0]]).set m.length (.var 24 [.int .u64 (xs.length : Int)]) = m ++ [B.var 24 [.int .u64 (xs.length : Int)]] := by simp
  have hfl := flat_len hpos
  cases e : decide (8192 < xs.length)
  · have hle : xs.length ≤ 8192 := by simpa using e
    simp -implicitDefEqProofs only [sims.1, fx.1, keeps.1, tick_on, calleeK, nonnil, Nat.reduceEqDiff, Nat.reduceLT, hnn, ld, List.length_map, a1, hs, hset, ltC8, e]
    refine callD_w (snd31 (n := 2) (hc.app _) (Tg.var (q := m.length) (hs _) (by omega)) (by omega) (by omega)) en31 ?_ ?_
    · intro m1 k1 c1
      have hk := (Kv.app hc _).trans k1
      obtain ⟨z, hz⟩ := c1.kv
      have ld1 := (hp.keep hk).load1 (s := 1)
      simp -implicitDefEqProofs only [sims.1, fx.1, keeps.1, tick_on, faddrK, nonnil, Nat.reduceEqDiff, hz, hnn, ld1, List.length_map]
      refine W_loopM (loopL xs.length fid k p) (fun j M => j ≤ xs.length ∧ Kv c m M ∧ Cd M c (l ++ enc xs.length 2 ++ (xs.take j).flatMap g)) (fun j => xs.length + 1 - j) 0 (by kernel_rfl) ⟨by omega, hk, by simpa using c1⟩ ?_
      rintro j M ⟨h1, h2, h3⟩
      rcases Nat.lt_or_ge j xs.length with hj | hj
      · have d1 : decide (j < xs.length) = true := by simpa using hj
        have w1 := add1N j (by omega)
        have ld2 := (hp.keep h2).load1 (s := 1)
        have ia : ∀ {kk : IntKind}, iaddrS 1 (.isl 1 (xs.map f)) (.int kk (j : Int)) = some (.ip (f xs[j])) := fun {kk} => iaddrS_isl (by simp [hj])
        simp -implicitDefEqProofs only [sims.1, fx.1, keeps.1, tick_on, calleeK, nonnil, Nat.reduceEqDiff, loopL, ltNat, d1, hnn, ld2, ia]
        refine callD_w (hE M _ xs[j] (List.getElem_mem hj) h2 h3) he ?_ ?_
        · intro m2 k2 c2
          simp -implicitDefEqProofs only [sims.1, keeps.1, tick_on, Nat.reduceEqDiff, w1]
          refine ⟨j + 1, by kernel_rfl, ⟨by omega, h2.trans k2, ?_⟩, by omega⟩
          rw [flat_take hj, ← List.append_assoc]
          exact c2
        · intro m2 k2 c2
          refine .inr ⟨m2, rfl, h2.trans k2, ?_⟩
          have h5 := flat_le (g := g) xs (j + 1)
          rw [flat_take hj, List.length_append] at h5
          simp only [List.length_append] at c2 ⊢
          omega
      · obtain rfl : j = xs.length := by omega
        have d1 : decide (xs.length < xs.length) = false := by simp
        simp -implicitDefEqProofs only [sims.1, keeps.1, tick_on, Nat.reduceEqDiff, loopL, ltNat, d1]
        rw [List.take_length, List.append_assoc] at h3
        exact .inl ⟨M, rfl, h2, h3⟩
    · intro m1 k1 c1
      refine .inr ⟨m1, rfl, (Kv.app hc _).trans k1, ?_⟩
      simp only [List.length_append] at c1 ⊢
      omega
  · have h8 : 8192 < xs.length := by simpa using e
    simp -implicitDefEqProofs only [sims.1, fx.1, keeps.1, tick_on, nonnil, Nat.reduceEqDiff, Nat.reduceLT, hnn, ld, List.length_map, a1, hs, hset, ltC8, e]
    refine .inr ⟨_, rfl, Kv.app hc _, ?_⟩
    simp only [List.length_append]
    omega
set_option maxHeartbeats 1000000 in
theorem snd47 {α : Type} (xs : List α) (f : α → List V) (g : α → List Nat) {m : Mem} {c k fid : Nat} {p : V} {t : List V} {l : List Nat} (hc : Cd m c l) (hp : Tg c m p (.isl 1 (xs.map f) :: t)) (he : enterable Try.prog fid = true)
    (hE : ∀ m' l' x, x ∈ xs → Kv c m m' → Cd m' c l' → Snd Try.prog fid [.ip (f x), .ptr k 0] m' (WQ c m' l' (g x))) (hpos : ∀ x ∈ xs, 1 ≤ (g x).length) (hlen : xs.length < 281474976710656) :
    Snd Try.prog 47 [.ptr c 0, p, .fn fid [] [.ptr k 0]] m (WQ c m l (enc xs.length 2 ++ xs.flatMap g)) := by
  refine Snd_of_W fol rfl rfl (by kernel_rfl) (by kernel_rfl) ?_
  have hnn := hp.nn
  simp only [nonnil] at hnn
  have ld := hp.load1 (s := 1)
  have hlt := hc.lt
  have a1 := wrapU xs.length (by omega)
  have hs : ∀ (b : B), (m ++ [b])[m.length]? = some b := fun b => by simp
  have hset : (m ++ [B.var 24 [.int .u64 0]]).set m.length (.var 24 [.int .u64 (xs.length : Int)]) = m ++ [B.var 24 [.int .u64 (xs.length : Int)]] := by simp
  have hfl := flat_len hpos
  cases e : decide (8192 < xs.length)
  · have hle : xs.length ≤ 8192 := by simpa using e
    simp -implicitDefEqProofs only [sims.1, fx.1, keeps.1, tick_on, calleeK, nonnil, Nat.reduceEqDiff, Nat.reduceLT, hnn, ld, List.length_map, a1, hs, hset, ltC8, e]
    refine callD_w (snd31 (n := 2) (hc.app _) (Tg.var (q := m.length) (hs _) (by omega)) (by omega) (by omega)) en31 ?_ ?_
    · intro m1 k1 c1
      have hk := (Kv.app hc _).trans k1
      obtain ⟨z, hz⟩ := c1.kv
      have ld1 := (hp.keep hk).load1 (s := 1)
      simp -implicitDefEqProofs only [sims.1, fx.1, keeps.1, tick_on, faddrK, nonnil, Nat.reduceEqDiff, hz, hnn, ld1, List.length_map]
      refine W_loopM (loopL xs.length fid k p) (fun j M => j ≤ xs.length ∧ Kv c m M ∧ Cd M c (l ++ enc xs.length 2 ++ (xs.take j).flatMap g)) (fun j => xs.length + 1 - j) 0 (by kernel_rfl) ⟨by omega, hk, by simpa using c1⟩ ?_
      rintro j M ⟨h1, h2, h3⟩
      rcases Nat.lt_or_ge j xs.length with hj | hj
      · have d1 : decide (j < xs.length) = true := by simpa using hj
        have w1 := add1N j (by omega)
        have ld2 := (hp.keep h2).load1 (s := 1)
        have ia : ∀ {kk : IntKind}, iaddrS 1 (.isl 1 (xs.map f)) (.int kk (j : Int)) = some (.ip (f xs[j])) := fun {kk} => iaddrS_isl (by simp [hj])
        simp -implicitDefEqProofs only [sims.1, fx.1, keeps.1, tick_on, calleeK, nonnil, Nat.reduceEqDiff, loopL, ltNat, d1, hnn, ld2, ia]
        refine callD_w (hE M _ xs[j] (List.getElem_mem hj) h2 h3) he ?_ ?_
        · intro m2 k2 c2
          simp -implicitDefEqProofs only [sims.1, keeps.1, tick_on, Nat.reduceEqDiff, w1]
          refine ⟨j + 1, by kernel_rfl, ⟨by omega, h2.trans k2, ?_⟩, by omega⟩
          rw [flat_take hj, ← List.append_assoc]
          exact c2
        · intro m2 k2 c2
          refine .inr ⟨m2, rfl, h2.trans k2, ?_⟩
          have h5 := flat_le (g := g) xs (j + 1)
          rw [flat_take hj, List.length_append] at h5
          simp only [List.length_append] at c2 ⊢
          omega
      · obtain rfl : j = xs.length := by omega
        have d1 : decide (xs.length < xs.length) = false := by simp
        simp -implicitDefEqProofs only [sims.1, keeps.1, tick_on, Nat.reduceEqDiff, loopL, ltNat, d1]
        rw [List.take_length, List.append_assoc] at h3
        exact .inl ⟨M, rfl, h2, h3⟩
    · intro m1 k1 c1
      refine .inr ⟨m1, rfl, (Kv.app hc _).trans k1, ?_⟩
      simp only [List.length_append] at c1 ⊢
      omega
  · have h8 : 8192 < xs.length := by simpa using e
    simp -implicitDefEqProofs only [sims.1, fx.1, keeps.1, tick_on, nonnil, Nat.reduceEqDiff, Nat.reduceLT, hnn, ld, List.length_map, a1, hs, hset, ltC8, e]
    refine .inr ⟨_, rfl, Kv.app hc _, ?_⟩
    simp only [List.length_append]
    omega
set_option maxHeartbeats 1000000 in
theorem snd55 {α : Type} (xs : List α) (f : α → List V) (g : α → List Nat) {m : Mem} {c k fid : Nat} {p : V} {t : List V} {l : List Nat} (hc : Cd m c l) (hp : Tg c m p (.isl 27 (xs.map f) :: t)) (he : enterable Try.prog fid = true)
    (hE : ∀ m' l' x, x ∈ xs → Kv c m m' → Cd m' c l' → Snd Try.prog fid [.ip (f x), .ptr k 0] m' (WQ c m' l' (g x))) (hpos : ∀ x ∈ xs, 1 ≤ (g x).length) (hlen : xs.length < 281474976710656) :
    Snd Try.prog 55 [.ptr c 0, p, .fn fid [] [.ptr k 0]] m (WQ c m l (enc xs.length 2 ++ xs.flatMap g)) := by
  refine Snd_of_W fol rfl rfl (by kernel_rfl) (by kernel_rfl) ?_
  have hnn := hp.nn
  simp only [nonnil] at hnn
  have ld := hp.load1 (s := 1)
  have hlt := hc.lt
  have a1 := wrapU xs.length (by omega)
  have hs : ∀ (b : B), (m ++ [b])[m.length]? = some b := fun b => by simp
  have hset : (m ++ [B.var 24 [.int .u64 0]]).set m.length (.var 24 [.int .u64 (xs.length : Int)]) = m ++ [B.var 24 [.int .u64 (xs.length : Int)]] := by simp
  have hfl := flat_len hpos
  cases e : decide (8192 < xs.length)
  · have hle : xs.length ≤ 8192 := by simpa using e
    simp -implicitDefEqProofs only [sims.1, fx.1, keeps.1, tick_on, calleeK, nonnil, Nat.reduceEqDiff, Nat.reduceLT, hnn, ld, List.length_map, a1, hs, hset, ltC8, e]
    refine callD_w (snd31 (n := 2) (hc.app _) (Tg.var (q := m.length) (hs _) (by omega)) (by omega) (by omega)) en31 ?_ ?_
    · intro m1 k1 c1
      have hk := (Kv.app hc _).trans k1
      obtain ⟨z, hz⟩ := c1.kv
      have ld1 := (hp.keep hk).load1 (s := 1)
      simp -implicitDefEqProofs only [sims.1, fx.1, keeps.1, tick_on, faddrK, nonnil, Nat.reduceEqDiff, hz, hnn, ld1, List.length_map]
      refine W_loopM (loopL xs.length fid k p) (fun j M => j ≤ xs.length ∧ Kv c m M ∧ Cd M c (l ++ enc xs.length 2 ++ (xs.take j).flatMap g)) (fun j => xs.length + 1 - j) 0 (by kernel_rfl) ⟨by omega, hk, by simpa using c1⟩ ?_
      rintro j M ⟨h1, h2, h3⟩
      rcases Nat.lt_or_ge j xs.length with hj | hj
      · have d1 : decide (j < xs.length) = true := by simpa using hj
        have w1 := add1N j (by omega)
        have ld2 := (hp.keep h2).load1 (s := 1)
        have ia : ∀ {kk : IntKind}, iaddrS 27 (.isl 27 (xs.map f)) (.int kk (j : Int)) = some (.ip (f xs[j])) := fun {kk} => iaddrS_isl (by simp [hj])
        simp -implicitDefEqProofs only [sims.1, fx.1, keeps.1, tick_on, calleeK, nonnil, Nat.reduceEqDiff, loopL, ltNat, d1, hnn, ld2, ia]
        refine callD_w (hE M _ xs[j] (List.getElem_mem hj) h2 h3) he ?_ ?_
        · intro m2 k2 c2
          simp -implicitDefEqProofs only [sims.1, keeps.1, tick_on, Nat.reduceEqDiff, w1]
          refine ⟨j + 1, by kernel_rfl, ⟨by omega, h2.trans k2, ?_⟩, by omega⟩
          rw [flat_take hj, ← List.append_assoc]
          exact c2
        · intro m2 k2 c2
          refine .inr ⟨m2, rfl, h2.trans k2, ?_⟩
          have h5 := flat_le (g := g) xs (j + 1)
          rw [flat_take hj, List.length_append] at h5
          simp only [List.length_append] at c2 ⊢
          omega
      · obtain rfl : j = xs.length := by omega
        have d1 : decide (xs.length < xs.length) = false := by simp
        simp -implicitDefEqProofs only [sims.1, keeps.1, tick_on, Nat.reduceEqDiff, loopL, ltNat, d1]
        rw [List.take_length, List.append_assoc] at h3
        exact .inl ⟨M, rfl, h2, h3⟩
    · intro m1 k1 c1
      refine .inr ⟨m1, rfl, (Kv.app hc _).trans k1, ?_⟩
      simp only [List.length_append] at c1 ⊢
      omega
  · have h8 : 8192 < xs.length := by simpa using e
    simp -implicitDefEqProofs only [sims.1, fx.1, keeps.1, tick_on, nonnil, Nat.reduceEqDiff, Nat.reduceLT, hnn, ld, List.length_map, a1, hs, hset, ltC8, e]
    refine .inr ⟨_, rfl, Kv.app hc _, ?_⟩
    simp only [List.length_append]
    omega
set_option maxHeartbeats 1000000 in
theorem snd70 {α : Type} (xs : List α) (f : α → List V) (g : α → List Nat) {m : Mem} {c k fid : Nat} {p : V} {t : List V} {l : List Nat} (hc : Cd m c l) (hp : Tg c m p (.isl 1 (xs.map f) :: t)) (he : enterable Try.prog fid = true)
    (hE : ∀ m' l' x, x ∈ xs → Kv c m m' → Cd m' c l' → Snd Try.prog fid [.ip (f x), .ptr k 0] m' (WQ c m' l' (g x))) (hpos : ∀ x ∈ xs, 1 ≤ (g x).length) (hlen : xs.length < 281474976710656) :
    Snd Try.prog 70 [.ptr c 0, p, .fn fid [] [.ptr k 0]] m (WQ c m l (enc xs.length 2 ++ xs.flatMap g)) := by
  refine Snd_of_W fol rfl rfl (by kernel_rfl) (by kernel_rfl) ?_
  have hnn := hp.nn
  simp only [nonnil] at hnn
  have ld := hp.load1 (s := 1)
  have hlt := hc.lt
  have a1 := wrapU xs.length (by omega)
  have hs : ∀ (b : B), (m ++ [b])[m.length]? = some b := fun b => by simp
  have hset : (m ++ [B.var 24 [.int .u64 0]]).set m.length (.var 24 [.int .u64 (xs.length : Int)]) = m ++ [B.var 24 [.int .u64 (xs.length : Int)]] := by simp
  have hfl := flat_len hpos
  cases e : decide (8192 < xs.length)
  · have hle : xs.length ≤ 8192 := by simpa using e
    simp -implicitDefEqProofs only [sims.1, fx.1, keeps.1, tick_on, calleeK, nonnil, Nat.reduceEqDiff, Nat.reduceLT, hnn, ld, List.length_map, a1, hs, hset, ltC8, e]
    refine callD_w (snd31 (n := 2) (hc.app _) (Tg.var (q := m.length) (hs _) (by omega)) (by omega) (by omega)) en31 ?_ ?_
    · intro m1 k1 c1
      have hk := (Kv.app hc _).trans k1
      obtain ⟨z, hz⟩ := c1.kv
      have ld1 := (hp.keep hk).load1 (s := 1)
      simp -implicitDefEqProofs only [sims.1, fx.1, keeps.1, tick_on, faddrK, nonnil, Nat.reduceEqDiff, hz, hnn, ld1, List.length_map]
      refine W_loopM (loopL xs.length fid k p) (fun j M => j ≤ xs.length ∧ Kv c m M ∧ Cd M c (l ++ enc xs.length 2 ++ (xs.take j).flatMap g)) (fun j => xs.length + 1 - j) 0 (by kernel_rfl) ⟨by omega, hk, by simpa using c1⟩ ?_
      rintro j M ⟨h1, h2, h3⟩
      rcases Nat.lt_or_ge j xs.length with hj | hj
      · have d1 : decide (j < xs.length) = true := by simpa using hj
        have w1 := add1N j (by omega)
        have ld2 := (hp.keep h2).load1 (s := 1)
        have ia : ∀ {kk : IntKind}, iaddrS 1 (.isl 1 (xs.map f)) (.int kk (j : Int)) = some (.ip (f xs[j])) := fun {kk} => iaddrS_isl (by simp [hj])
        simp -implicitDefEqProofs only [sims.1, fx.1, keeps.1, tick_on, calleeK, nonnil, Nat.reduceEqDiff, loopL, ltNat, d1, hnn, ld2, ia]
        refine callD_w (hE M _ xs[j] (List.getElem_mem hj) h2 h3) he ?_ ?_
        · intro m2 k2 c2
          simp -implicitDefEqProofs only [sims.1, keeps.1, tick_on, Nat.reduceEqDiff, w1]
          refine ⟨j + 1, by kernel_rfl, ⟨by omega, h2.trans k2, ?_⟩, by omega⟩
          rw [flat_take hj, ← List.append_assoc]
          exact c2
        · intro m2 k2 c2
          refine .inr ⟨m2, rfl, h2.trans k2, ?_⟩
          have h5 := flat_le (g := g) xs (j + 1)
          rw [flat_take hj, List.length_append] at h5
          simp only [List.length_append] at c2 ⊢
          omega
      · obtain rfl : j = xs.length := by omega
        have d1 : decide (xs.length < xs.length) = false := by simp
        simp -implicitDefEqProofs only [sims.1, keeps.1, tick_on, Nat.reduceEqDiff, loopL, ltNat, d1]
        rw [List.take_length, List.append_assoc] at h3
        exact .inl ⟨M, rfl, h2, h3⟩
    · intro m1 k1 c1
      refine .inr ⟨m1, rfl, (Kv.app hc _).trans k1, ?_⟩
      simp only [List.length_append] at c1 ⊢
      omega
  · have h8 : 8192 < xs.length := by simpa using e
    simp -implicitDefEqProofs only [sims.1, fx.1, keeps.1, tick_on, nonnil, Nat.reduceEqDiff, Nat.reduceLT, hnn, ld, List.length_map, a1, hs, hset, ltC8, e]
    refine .inr ⟨_, rfl, Kv.app hc _, ?_⟩
    simp only [List.length_append]
    omega
set_option maxHeartbeats 1000000 in
theorem snd72 {α : Type} (xs : List α) (f : α → List V) (g : α → List Nat) {m : Mem} {c k fid : Nat} {p : V} {t : List V} {l : List Nat} (hc : Cd m c l) (hp : Tg c m p (.isl 3 (xs.map f) :: t)) (he : enterable Try.prog fid = true)
    (hE : ∀ m' l' x, x ∈ xs → Kv c m m' → Cd m' c l' → Snd Try.prog fid [.ip (f x), .ptr k 0] m' (WQ c m' l' (g x))) (hpos : ∀ x ∈ xs, 1 ≤ (g x).length) (hlen : xs.length < 281474976710656) :
    Snd Try.prog 72 [.ptr c 0, p, .fn fid [] [.ptr k 0]] m (WQ c m l (enc xs.length 2 ++ xs.flatMap g)) := by
  refine Snd_of_W fol rfl rfl (by kernel_rfl) (by kernel_rfl) ?_
  have hnn := hp.nn
  simp only [nonnil] at hnn
  have ld := hp.load1 (s := 1)
  have hlt := hc.lt
  have a1 := wrapU xs.length (by omega)
  have hs : ∀ (b : B), (m ++ [b])[m.length]? = some b := fun b => by simp
  have hset : (m ++ [B.var 24 [.int .u64 0]]).set m.length (.var 24 [.int .u64 (xs.length : Int)]) = m ++ [B.var 24 [.int .u64 (xs.length : Int)]] := by simp
  have hfl := flat_len hpos
  cases e : decide (8192 < xs.length)
  · have hle : xs.length ≤ 8192 := by simpa using e
    simp -implicitDefEqProofs only [sims.1, fx.1, keeps.1, tick_on, calleeK, nonnil, Nat.reduceEqDiff, Nat.reduceLT, hnn, ld, List.length_map, a1, hs, hset, ltC8, e]
    refine callD_w (snd31 (n := 2) (hc.app _) (Tg.var (q := m.length) (hs _) (by omega)) (by omega) (by omega)) en31 ?_ ?_
    · intro m1 k1 c1
      have hk := (Kv.app hc _).trans k1
      obtain ⟨z, hz⟩ := c1.kv
      have ld1 := (hp.keep hk).load1 (s := 1)
      simp -implicitDefEqProofs only [sims.1, fx.1, keeps.1, tick_on, faddrK, nonnil, Nat.reduceEqDiff, hz, hnn, ld1, List.length_map]
      refine W_loopM (loopL xs.length fid k p) (fun j M => j ≤ xs.length ∧ Kv c m M ∧ Cd M c (l ++ enc xs.length 2 ++ (xs.take j).flatMap g)) (fun j => xs.length + 1 - j) 0 (by kernel_rfl) ⟨by omega, hk, by simpa using c1⟩ ?_
      rintro j M ⟨h1, h2, h3⟩
      rcases Nat.lt_or_ge j xs.length with hj | hj
      · have d1 : decide (j < xs.length) = true := by simpa using hj
        have w1 := add1N j (by omega)
        have ld2 := (hp.keep h2).load1 (s := 1)
        have ia : ∀ {kk : IntKind}, iaddrS 3 (.isl 3 (xs.map f)) (.int kk (j : Int)) = some (.ip (f xs[j])) := fun {kk} => iaddrS_isl (by simp [hj])
        simp -implicitDefEqProofs only [sims.1, fx.1, keeps.1, tick_on, calleeK, nonnil, Nat.reduceEqDiff, loopL, ltNat, d1, hnn, ld2, ia]
        refine callD_w (hE M _ xs[j] (List.getElem_mem hj) h2 h3) he ?_ ?_
        · intro m2 k2 c2
          simp -implicitDefEqProofs only [sims.1, keeps.1, tick_on, Nat.reduceEqDiff, w1]
          refine ⟨j + 1, by kernel_rfl, ⟨by omega, h2.trans k2, ?_⟩, by omega⟩
          rw [flat_take hj, ← List.append_assoc]
          exact c2
        · intro m2 k2 c2
          refine .inr ⟨m2, rfl, h2.trans k2, ?_⟩
          have h5 := flat_le (g := g) xs (j + 1)
          rw [flat_take hj, List.length_append] at h5
          simp only [List.length_append] at c2 ⊢
          omega
      · obtain rfl : j = xs.length := by omega
        have d1 : decide (xs.length < xs.length) = false := by simp
        simp -implicitDefEqProofs only [sims.1, keeps.1, tick_on, Nat.reduceEqDiff, loopL, ltNat, d1]
        rw [List.take_length, List.append_assoc] at h3
        exact .inl ⟨M, rfl, h2, h3⟩
    · intro m1 k1 c1
      refine .inr ⟨m1, rfl, (Kv.app hc _).trans k1, ?_⟩
      simp only [List.length_append] at c1 ⊢
      omega
  · have h8 : 8192 < xs.length := by simpa using e
    simp -implicitDefEqProofs only [sims.1, fx.1, keeps.1, tick_on, nonnil, Nat.reduceEqDiff, Nat.reduceLT, hnn, ld, List.length_map, a1, hs, hset, ltC8, e]
    refine .inr ⟨_, rfl, Kv.app hc _, ?_⟩
    simp only [List.length_append]
    omega
end Go.Proofs.Ytjjenpdjmcmgbaa
